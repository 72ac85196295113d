/- Texts of this proof, one after the other: RbE, RgA, NumP, RgB, Small, LawBld, Frame, Few, OpM, FrameU, OpV. -/
import Derived.Test.YtpffpjbkbaleiaaGreatDoorCBuildsH
set_option maxRecDepth 100000
set_option maxHeartbeats 8000000
namespace Go.Proofs.YtpffpjbkbaleiaaGreatDoor
open Go Go.RowKit Go.Maps
theorem EJ {G:Prop} (T:Prop) (rest:HdS T->G) (tl:T):G:=rest (aa tl)
theorem bV.keep {S:Nat->Prop} {w w':World} {v:Value} {l:List bo} (h:bV S w v l) (hs: ∀i,S i->w'.heap[i]? =w.heap[i]?):bV S w' v l:=
 aU.same h hs (fun _ _ _ ⟨v,h1,h2,h3⟩=>⟨v,h1,aL.same h2 hs,h3⟩)
structure RdX (base bb : Nat) (k : bn) (c : cF) (gs : List (ByteArray × Int)) (tree : List bo) : Prop where
 keys:dX k=true
 cut:dV c=true
 seed:c.seed<18446744073709551616
 gens:eL gs
 bbb:base<=bb
 tok:yG tree
 small:jt tree
def AQ (base bb:Nat) (k:bn) (c:cF) (tv gv v:Value) (gs:List (ByteArray×Int)) (lg:Bool) (p:List UInt8×List (List UInt8)) (s:List bu×Bool) (w:World) (e:Ending) (w':World):Prop:=
 e= .returned (bU (aE k gs p.1))/\ ∃v',fC w' base bb k c tv gv v' lg (eK k gs p.2 s)/\dF base bb v v' w w'
def RdC (base bb:Nat) (k:bn) (c:cF) (gs:List (ByteArray×Int)) (tree:List bo) (tv gv:Value) (lg:Bool) (f:Nat):Prop:= ∀(d:ByteArray) (v:Value) (s:List bu×Bool) (w:World),
 (bl d).length<=512->512<f+(bl d).length->fC w base bb k c tv gv v lg s->dO (· <base) w gv gs->bV (· <base) w tv tree->s.1.length+(ew k gs c tree f d).2.length<=1000000->
 Calls Tryz.prog 76 #[.pointer (some ⟨bb,0,none⟩), .string d] w (AQ base bb k c tv gv v gs lg (ew k gs c tree f d) s w)
def kM (w:World) (base:Nat) (pv:Value) (ys:List (Value×List UInt8)):Prop:=w.ownsRow base 29 1 pv ys.length (ys.map Prod.fst)/\ ∀y∈ys,w.ownsRow base 5 1 y.1 y.2.length (y.2.map ak)
section
variable {w w' wc : World} {base bb M n sz xb q : Nat} {pv rv u v v' tv gv : Value} {ys : List (Value × List UInt8)} {k : bn} {c : cF} {lg : Bool} {s : List bu × Bool} {xs : List Value} {cs : Array Value}
theorem kM.below (h:kM w base pv ys) (hb:Below w.heap.size w w'):kM w' base pv ys:=⟨aQ h.1 hb,fun y hy=>aQ (h.2 y hy) hb⟩
theorem kM.kp (h:kM w base pv ys) (hr:fC w base bb k c tv gv v lg s) (hk:dF base bb v v' w w'):kM w' base pv ys:=⟨dF.row hr hk h.1 (by decide) (by decide),fun y hy=>dF.row hr hk (h.2 y hy) (by decide) (by decide)⟩
theorem kM.push (h:kM w base pv ys) (hrow:w.ownsRow M 26 sz rv n xs) (hg:w.grownBy wc rv.ownBlock) (hx:wc.heap[xb]? =some (.cells cs 28 (0,0))):kM (wc.setCell ⟨xb,q,none⟩ u) base pv ys:=by
 have key: ∀ {t:TypeId} {n' z:Nat} {v':Value} {xs':List Value},w.ownsRow base t z v' n' xs'->t≠26->t≠28->(wc.setCell ⟨xb,q,none⟩ u).ownsRow base t z v' n' xs':=fun hr h1 h2=>by
  have h3:=cS hr hrow hg h1;refine bZ h3 (fun i hi hu=>Below.heap_setCell _ _ _ _ (fun e=> ?_));obtain⟨cs2,hc2⟩:=au h3 hu;exact h2 (aC (e▸hc2) hx)
 exact⟨key h.1 (by decide) (by decide),fun y hy=>key (h.2 y hy) (by decide) (by decide)⟩
theorem kM.grown (h:kM w base pv ys) (hrow:w.ownsRow M 26 sz rv n xs) (hg:w.grownBy wc rv.ownBlock):kM wc base pv ys:=
 ⟨cS h.1 hrow hg (by decide),fun y hy=>cS (h.2 y hy) hrow hg (by decide)⟩
theorem kM.at' {b o n cap m:Nat} {y:Value×List UInt8} (h:kM w base (.slice (some ⟨b,o,none⟩) n cap) ys) (hy:ys[m]? =some y):w.cell? ⟨b,o+m,none⟩=some y.1:=by
 obtain⟨_,a,cap,e,_,_,h0⟩:=aO h.1;have hlt:=(List.getElem?_eq_some_iff.1 hy).1
 rcases h0 with h0 | ⟨b',o',rfl,_,hc⟩
 ·omega
 ·cases e
  exact hc m y.1 (by rw[List.getElem?_map,hy]; rfl)
theorem sW.grown {it:aI} {v3 iv:Value} {rs:List aV} {its:List aI} (h:sW w base bb k c tv gv v lg M xb w' v3 iv s its rv it rs) (hg:w'.grownBy wc rv.ownBlock):wc.heap[xb]? =some (.cells (cg rv it).toArray 28 (0,0)):=
 (hg.block xb (lt_of_block h.box) (fun e=>by
  obtain⟨cs2,hc2⟩:=au h.row e.symm;exact absurd (aC h.box hc2) (by decide))).trans h.box
theorem kM.cell (h:kM w base pv ys) {m:Nat} {y:Value×List UInt8} (hy:ys[m]? =some y): ∃b o cap,pv= .slice (some ⟨b,o,none⟩) ys.length cap/\w.cell? ⟨b,o+m,none⟩=some y.1:=by
 obtain⟨_,a,cap,e,_,_,h0⟩:=aO h.1;have hlt:=(List.getElem?_eq_some_iff.1 hy).1
 rcases h0 with h0 | ⟨b,o,rfl,_,hc⟩
 ·omega
 ·exact⟨b,o,cap,e,hc m y.1 (by rw[List.getElem?_map,hy]; rfl)⟩
end
theorem Di {base bb:Nat} {k:bn} {c:cF} {gs:List (ByteArray×Int)} {tree:List bo} {tv gv:Value} {lg:Bool} (f:Nat) (hX:RdX base bb k c gs tree) (IH:RdC base bb k c gs tree tv gv lg f):RdC base bb k c gs tree tv gv lg (f+1):=by
 intro d v s w hd hf h hg ht hroom;have hbb:=lt_of_block h.box;have hbz:base<=w.heap.size:=by have:=hX.bbb; omega
 obtain⟨ta,tc,rfl,htc,htm,-⟩:=aU.shape ht jr.len;unfold maxLen at htm;obtain⟨n,hn⟩: ∃n,n=tree.length:=⟨_,rfl⟩;rw[<-hn]at ht htc h IH ⊢;have HN:=aa hn;have hn12:n<=12:=by rw[hn]; exact hX.small.len
 have HX:=aa hX;have HIH:=aa IH;have HG:=aa hg;have HT:=aa ht;have HRM:=aa hroom;have HD:=aa hd;have HF:=aa hf;obtain⟨W0,hW0⟩: ∃W0,W0=(w.alloc (.cells #[.string ⟨#[]⟩, .int .i64 0, .int .i64 0] 26)).alloc (.cells #[] 28):=⟨_,rfl⟩;have hb0:Below w.heap.size w W0:=by rw[hW0]; exact(bH).alloc (by simp) _
 have hsz:(w.alloc (.cells #[.string ⟨#[]⟩, .int .i64 0, .int .i64 0] 26)).heap.size=w.heap.size+1:=by simp
 have HDR0:=aa (show Ei w base bb k c (.slice ta n tc) gv v lg W0 v (.slice (some ⟨w.heap.size+1,0,none⟩) 0 0) s []from⟨h.below hb0,dF.ofBelow hb0 hbz,⟨[],rfl,by
  have h1:=World.ownsRow_lit (e:=28) (size:=10) (base:=w.heap.size) (w.alloc (.cells #[.string ⟨#[]⟩, .int .i64 0, .int .i64 0] 26)) #[] 0 (by rw[hsz]; omega) (Nat.zero_le _) (by simp);rw[hsz,<-hW0]at h1;exact h1,by simp⟩,by rw[hW0]; exact fD (bz w _) _⟩)
 clear hX IH hg ht hroom hd hf h hb0 hsz hn
 go_enter Tryz.func76,Tryz.ntmps76
 go_upto_region 2 with(fail)
 rw[<-hW0];clear hW0;go_wp2_with fail
 go_loopw [5,6] (fun iv i wr=> ∃(j:Nat) (v2:Value),j<=n/\i= .int .i64 (j:Int)/\Ei w base bb k c (.slice ta n tc) gv v lg wr v2 iv (eK k gs ((bA (tree.take j) d).flatMap (eJ k gs c tree f)) s) ((bA (tree.take j) d).map fun e=>aT k gs c d e (aE k gs (ew k gs c tree f e.path).1))) (fun _ i _=>n-(intOf i).toNat)
 case atStart=>exact⟨0,v,Nat.zero_le _,rfl,HDR0.o⟩
 case round=>
  obtain⟨j,v2,hj,rfl,hin⟩:=hrel;obtain⟨s2,hs2⟩: ∃s2,s2=eK k gs ((bA (tree.take j) d).flatMap (eJ k gs c tree f)) s:=⟨_,rfl⟩;obtain⟨its,hits⟩: ∃its,its=(bA (tree.take j) d).map fun e=>aT k gs c d e (aE k gs (ew k gs c tree f e.path).1):=⟨_,rfl⟩
  rw[<-hs2,<-hits]at hin;have HS2:=aa hs2;have HIT:=aa hits;have HIN:=aa hin;have hi12:its.length<=12:=by rw[hits,List.length_map]; exact Nat.le_trans (List.length_filter_le _ _) (by rw[List.length_take,<-HN.o]; omega)
  clear hin HDR0 hs2 hits;have hbx:=HIN.o.bd.box;have k5:=ag (k:=5) hbx;have k6:=ag (k:=6) hbx;have k7:=ag (k:=7) hbx;have k8:=ag (k:=8) hbx;have k9:=ag (k:=9) hbx;have k10:=ag (k:=10) hbx;simp only[oF,bT,cG,List.cons_append,List.nil_append,cr]at k5 k6 k7 k8 k9 k10;clear hbx
  by_cases hlt:j<n
  ·obtain⟨e,he⟩: ∃e,tree[j]? =some e:=⟨tree[j]'(by rw[<-HN.o]; exact hlt),by simp⟩;have HE:=aa he;have HTR:=aa (HT.o.keep (w':=wr) (fun i hi=>HIN.o.kp.below.block i hi));obtain⟨tb,ot,dv,rfl,-,-,hdat,hok,-,p0,p1,p2,p3,p4,p5⟩:=eY HTR.o he;obtain⟨da,dc,hdv,hdn,hdm⟩:=bO.slice hdat
   subst hdv;have het:e∈tree:=List.mem_of_getElem? he;have HET:=aa het;have HVE:=aa (HX.o.tok.val e het);have HOK:=aa hok;have HDT:=aa hdat
   have HKT:=aa (qU (d:=d) he);have hps:e.path.size<=512:=(gt HVE.o).1;have HBZ:=aa (Nat.le_trans hbz HIN.o.kp.below.size);obtain⟨dn,hdnn⟩: ∃l,l=e.data.length:=⟨_,rfl⟩;rw[<-hdnn]at p4 hdn;unfold maxLen at hdm;have HDN:=aa hdnn;clear hdat hok he het hdnn
   go_upto_region 6 with(fail)
   obtain⟨W1,hW1⟩: ∃W1:World,W1=wr.alloc (.cells #[.string e.path, .int .i64 e.kind, .int .i64 e.mode, .int .i64 e.time, .slice da dn dc, .string e.link] 79):=⟨_,rfl⟩;rw[<-hW1];have hb1:Below wr.heap.size wr W1:=by rw[hW1]; exact bH
   have HX1:=aa (show W1.heap[wr.heap.size]? =some (.cells #[.string e.path, .int .i64 e.kind, .int .i64 e.mode, .int .i64 e.time, .slice da dn dc, .string e.link] 79 (0,0)) by rw[hW1]; exact bz wr _);have HB1:=aa hb1;clear hW1 hb1 p0 p1 p2 p3 p4 p5 k5 k6 k7 k8 k9 k10;obtain⟨d0,d1,d2,d3,d4,d5,_⟩:=aj HX1.o;simp only[Nat.zero_add,Nat.reduceAdd]at d1 d2 d3 d4 d5
   by_cases hin:aH (bl e.path)=bl d
   ·have HPA:=aa hin;have HQ:=aa (show d=⟨(aH (bl e.path)).toArray⟩from BD hin.symm);clear hin;go_wp2_with (go_at_call 92; refine(jk e.path d _ (by omega) HQ.o).mono ?_; rintro e7 w7 ⟨rfl,hb7⟩; have HB7:=aa (ab HB1.o hb7); have HX7:=aa (br hb7 HX1.o); clear hb7);clear d0 d1 d2 d3 d4 d5;obtain⟨W2,hW2⟩: ∃W,W=w7.drew:=⟨_,rfl⟩;have hb2:Below w7.heap.size w7 W2:=by rw[hW2]; exact(Below.refl _ _).drew
    have HB2:=aa (ab HB7.o hb2);have HX2:=aa (br hb2 HX7.o);obtain⟨nm,hnm⟩: ∃nm:ByteArray,nm=⟨(gH (bl d) (bl e.path)).toArray⟩:=⟨_,rfl⟩;have HNM:=aa (show qZ (bl e.path)=nm by rw[hnm]; exact Fe HVE.o HPA.o);have HNL:=aa hnm;refine bN (fun w'=>w'.heap[wr.heap.size]? =some (.cells #[.string e.path, .int .i64 e.kind, .int .i64 e.mode, .int .i64 e.time, .slice da dn dc, .string e.link] 79 (0,0))) (by kernel_rfl) (by kernel_rfl) ?_
    simp only[List.dropLast_cons_cons,List.dropLast_singleton,List.length_cons,List.length_nil,Nat.reduceAdd,Nat.reduceSub];rw[<-hW2];clear hW2 hb2 HX7 HB7 HX1 HB1 hnm
    iterate 2 (refine aJ rfl (by kernel_rfl) (fun _ _ _ h=>h) rfl HX2.o (by rintro w' hx; have d0:=aB (k:=0) hx; have d1:=aB (k:=1) hx; have d2:=aB (k:=2) hx; have d3:=aB (k:=3) hx; have d4:=aB (k:=4) hx; have d5:=aB (k:=5) hx; simp only[cr]at d0 d1 d2 d3 d4 d5; clear hx; go_simp; rfl) ?_; simp only[Act.put,aZ,bg,bh])
    refine ay 3 rfl (by kernel_rfl) (by kernel_rfl) (by kernel_rfl) (fun _ _ _ h=>h) rfl HX2.o (by rintro w' hx; have d0:=aB (k:=0) hx; have d1:=aB (k:=1) hx; have d2:=aB (k:=2) hx; have d3:=aB (k:=3) hx; have d4:=aB (k:=4) hx; have d5:=aB (k:=5) hx; simp only[cr]at d0 d1 d2 d3 d4 d5; clear hx; go_simp; rfl) ?_;simp only[Act.put,aZ,bg,bh]
    refine ay 4 rfl (by kernel_rfl) (by kernel_rfl) (by kernel_rfl) (fun _ _ _ h=>h) rfl HX2.o (by rintro w' hx; have d0:=aB (k:=0) hx; have d1:=aB (k:=1) hx; have d2:=aB (k:=2) hx; have d3:=aB (k:=3) hx; have d4:=aB (k:=4) hx; have d5:=aB (k:=5) hx; simp only[cr]at d0 d1 d2 d3 d4 d5; clear hx; go_simp; rfl) ?_;simp only[Act.put,aZ,bg,bh]
    refine ay 5 rfl (by kernel_rfl) (by kernel_rfl) (by kernel_rfl) (fun _ _ _ h=>h) rfl HX2.o (by rintro w' hx; have d0:=aB (k:=0) hx; have d1:=aB (k:=1) hx; have d2:=aB (k:=2) hx; have d3:=aB (k:=3) hx; have d4:=aB (k:=4) hx; have d5:=aB (k:=5) hx; simp only[cr]at d0 d1 d2 d3 d4 d5; clear hx; go_simp; rfl) ?_;simp only[Act.put,aZ,bg,bh]
    refine ay 6 rfl (by kernel_rfl) (by kernel_rfl) (by kernel_rfl) (fun _ _ _ h=>h) rfl HX2.o (by rintro w' hx; have d0:=aB (k:=0) hx; have d1:=aB (k:=1) hx; have d2:=aB (k:=2) hx; have d3:=aB (k:=3) hx; have d4:=aB (k:=4) hx; have d5:=aB (k:=5) hx; simp only[cr]at d0 d1 d2 d3 d4 d5; clear hx; go_simp; rfl) ?_;simp only[Act.put,aZ,bg,bh]
    refine ay 7 rfl (by kernel_rfl) (by kernel_rfl) (by kernel_rfl) (fun _ _ _ h=>h) rfl HX2.o (by rintro w' hx; have d0:=aB (k:=0) hx; have d1:=aB (k:=1) hx; have d2:=aB (k:=2) hx; have d3:=aB (k:=3) hx; have d4:=aB (k:=4) hx; have d5:=aB (k:=5) hx; simp only[cr]at d0 d1 d2 d3 d4 d5; clear hx; go_simp; rfl) ?_;simp only[Act.put,aZ,bg,bh]
    refine ay 8 rfl (by kernel_rfl) (by kernel_rfl) (by kernel_rfl) (fun _ _ _ h=>h) rfl HX2.o (by rintro w' hx; have d0:=aB (k:=0) hx; have d1:=aB (k:=1) hx; have d2:=aB (k:=2) hx; have d3:=aB (k:=3) hx; have d4:=aB (k:=4) hx; have d5:=aB (k:=5) hx; simp only[cr]at d0 d1 d2 d3 d4 d5; clear hx; go_simp; rfl) ?_;simp only[Act.put,aZ,bg,bh]
    refine ay 9 rfl (by kernel_rfl) (by kernel_rfl) (by kernel_rfl) (fun _ _ _ h=>h) rfl HX2.o (by rintro w' hx; have d0:=aB (k:=0) hx; have d1:=aB (k:=1) hx; have d2:=aB (k:=2) hx; have d3:=aB (k:=3) hx; have d4:=aB (k:=4) hx; have d5:=aB (k:=5) hx; simp only[cr]at d0 d1 d2 d3 d4 d5; clear hx; go_simp; rfl) ?_;simp only[Act.put,aZ,bg,bh]
    refine ay 10 rfl (by kernel_rfl) (by kernel_rfl) (by kernel_rfl) (fun _ _ _ h=>h) rfl HX2.o (by rintro w' hx; have d0:=aB (k:=0) hx; have d1:=aB (k:=1) hx; have d2:=aB (k:=2) hx; have d3:=aB (k:=3) hx; have d4:=aB (k:=4) hx; have d5:=aB (k:=5) hx; simp only[cr]at d0 d1 d2 d3 d4 d5; clear hx; go_simp; rfl) ?_;simp only[Act.put,aZ,bg,bh]
    refine ay 11 rfl (by kernel_rfl) (by kernel_rfl) (by kernel_rfl) (fun _ _ _ h=>h) rfl HX2.o (by rintro w' hx; have d0:=aB (k:=0) hx; have d1:=aB (k:=1) hx; have d2:=aB (k:=2) hx; have d3:=aB (k:=3) hx; have d4:=aB (k:=4) hx; have d5:=aB (k:=5) hx; simp only[cr]at d0 d1 d2 d3 d4 d5; clear hx; go_simp; rfl) ?_;simp only[Act.put,aZ,bg,bh]
    refine ay 12 rfl (by kernel_rfl) (by kernel_rfl) (by kernel_rfl) (fun _ _ _ h=>h) rfl HX2.o (by rintro w' hx; have d0:=aB (k:=0) hx; have d1:=aB (k:=1) hx; have d2:=aB (k:=2) hx; have d3:=aB (k:=3) hx; have d4:=aB (k:=4) hx; have d5:=aB (k:=5) hx; simp only[cr]at d0 d1 d2 d3 d4 d5; clear hx; go_simp; rfl) ?_;simp only[Act.put,aZ,bg,bh]
    refine ay 13 rfl (by kernel_rfl) (by kernel_rfl) (by kernel_rfl) (fun _ _ _ h=>h) rfl HX2.o (by rintro w' hx; have d0:=aB (k:=0) hx; have d1:=aB (k:=1) hx; have d2:=aB (k:=2) hx; have d3:=aB (k:=3) hx; have d4:=aB (k:=4) hx; have d5:=aB (k:=5) hx; simp only[cr]at d0 d1 d2 d3 d4 d5; clear hx; go_simp; rfl) ?_;simp only[Act.put,aZ,bg,bh]
    apply EJ
    ·intro tail;refine qP 2 15 rfl rfl (by kernel_rfl) rfl rfl (fun K hK=> ?ca) (fun K hK=> ?al)
     case ca=>
      go_wp2_with fail;refine(qY e.path _ (by omega)).mono ?_;rintro e' w3 ⟨rfl,hb3⟩;rw[HNM.o];have HB3:=aa (ab HB2.o hb3);have HX3:=aa (br hb3 HX2.o);clear hb3;go_wp2_with fail;refine⟨HX3.o, ?_⟩;refine ay 14 rfl (by kernel_rfl) (by kernel_rfl) (by kernel_rfl) (fun _ _ _ h=>h) rfl HX3.o (by rintro w' hx; have d0:=aB (k:=0) hx; have d1:=aB (k:=1) hx; have d2:=aB (k:=2) hx; have d3:=aB (k:=3) hx; have d4:=aB (k:=4) hx; have d5:=aB (k:=5) hx; simp only[cr]at d0 d1 d2 d3 d4 d5; clear hx; go_simp; rfl) ?_
      simp only[Act.put,aZ,bg,bh];refine an 15 rfl (by kernel_rfl) rfl (fun K hK=> ?_);go_wp2_with fail;obtain⟨W,hW⟩: ∃W,W=w3.alloc (.cells #[.string ⟨#[]⟩, .int .i64 0, .int .i64 0, .int .i64 0, .int .i64 0, .string ⟨#[]⟩, .slice none 0 0, .string ⟨#[]⟩, .int .i64 0, .int .i64 0] 28):=⟨_,rfl⟩;obtain⟨xb,hxb⟩: ∃b,b=w3.heap.size:=⟨_,rfl⟩;have hY:W.heap[xb]? =some (.cells #[.string ⟨#[]⟩, .int .i64 0, .int .i64 0, .int .i64 0, .int .i64 0, .string ⟨#[]⟩, .slice none 0 0, .string ⟨#[]⟩, .int .i64 0, .int .i64 0] 28 (0,0)):=by rw[hW,hxb]; exact heap_alloc_new w3 _
      have hb4:Below w3.heap.size w3 W:=by rw[hW]; exact bH
      have hB:Below wr.heap.size wr W:=ab HB3.o hb4;have hE:W.heap[wr.heap.size]? =some (.cells #[.string e.path, .int .i64 e.kind, .int .i64 e.mode, .int .i64 e.time, .slice da dn dc, .string e.link] 79 (0,0)):=br hb4 HX3.o;have hlt':wr.heap.size<xb:=by rw[hxb]; exact lt_of_block HX3.o
      rw[<-hW,<-hxb];refine⟨hE, ?_⟩;refine aM (by kernel_rfl) ?_;clear hW hxb hb4 HB3 HX3;have hF:=And.intro hB (And.intro hE (And.intro hY hlt'));clear hB hE hY hlt'
      revert hF
      revert xb
      revert W
      exact tail.o
     case al=>
      go_wp2_with fail;obtain⟨W3,hW3⟩: ∃W,W=W2.alloc (.cells #[.string ⟨#[]⟩, .int .i64 0, .int .i64 0, .int .i64 0, .int .i64 0, .string ⟨#[]⟩, .slice none 0 0, .string ⟨#[]⟩, .int .i64 0, .int .i64 0] 28):=⟨_,rfl⟩;obtain⟨xb,hxb⟩: ∃b,b=W2.heap.size:=⟨_,rfl⟩;have hy3:W3.heap[xb]? =some (.cells #[.string ⟨#[]⟩, .int .i64 0, .int .i64 0, .int .i64 0, .int .i64 0, .string ⟨#[]⟩, .slice none 0 0, .string ⟨#[]⟩, .int .i64 0, .int .i64 0] 28 (0,0)):=by rw[hW3,hxb]; exact heap_alloc_new W2 _
      have HY3:=aa hy3;have hb3:Below W2.heap.size W2 W3:=by rw[hW3]; exact bH
      have HB3:=aa (ab HB2.o hb3);have HX3:=aa (br hb3 HX2.o);have hlt':wr.heap.size<xb:=by rw[hxb]; exact lt_of_block HX2.o
      rw[<-hW3,<-hxb];clear hW3 hxb hy3 hb3;refine⟨HX3.o, ?_⟩;refine an 2 rfl (by kernel_rfl) rfl (fun K hK=> ?_);go_wp2_with fail;refine(qY e.path _ (by omega)).mono ?_;rintro e' W ⟨rfl,hb4⟩;rw[HNM.o];have hB:Below wr.heap.size wr W:=ab HB3.o hb4;have hE:W.heap[wr.heap.size]? =some (.cells #[.string e.path, .int .i64 e.kind, .int .i64 e.mode, .int .i64 e.time, .slice da dn dc, .string e.link] 79 (0,0)):=br hb4 HX3.o
      have hY:=br hb4 HY3.o;have HE:=aa hE;clear hb4 HB3 HX3 HY3;go_wp2_with fail;refine⟨HE.o, ?_⟩;refine ay 14 rfl (by kernel_rfl) (by kernel_rfl) (by kernel_rfl) (fun _ _ _ h=>h) rfl HE.o (by rintro w' hx; have d0:=aB (k:=0) hx; have d1:=aB (k:=1) hx; have d2:=aB (k:=2) hx; have d3:=aB (k:=3) hx; have d4:=aB (k:=4) hx; have d5:=aB (k:=5) hx; simp only[cr]at d0 d1 d2 d3 d4 d5; clear hx; go_simp; rfl) ?_
      simp only[Act.put,aZ,bg,bh];refine aM (by kernel_rfl) ?_;clear HE;have hF:=And.intro hB (And.intro hE (And.intro hY hlt'));clear hB hE hY hlt'
      revert hF
      revert xb
      revert W
      exact tail.o
    ·rintro W3 xb ⟨hB,hE,hY,hxb⟩;have HB3:=aa hB;have HE3:=aa hE;have HY3:=aa hY;clear hB hE hY HX2 HB2;refine bX rfl rfl (fun K hK=> ?_);obtain⟨i0,i1,i2,i3,i4,i5,i6,i7,i8,i9,_⟩:=aj HY3.o;simp only[Nat.zero_add,Nat.reduceAdd]at i1 i2 i3 i4 i5 i6 i7 i8 i9;have g0:=ah (k:=0) HY3.o;have g1:=ah (k:=1) HY3.o;have g2:=ah (k:=2) HY3.o;have g3:=ah (k:=3) HY3.o
     have g4:=ah (k:=4) HY3.o;have g5:=ah (k:=5) HY3.o;have g6:=ah (k:=6) HY3.o;have g7:=ah (k:=7) HY3.o;have g8:=ah (k:=8) HY3.o;have g9:=ah (k:=9) HY3.o
     go_upto_region 8 with(fail)
     obtain⟨W4,hW4⟩: ∃W4:World,W4=((((((((((W3.setCell ⟨xb,0,none⟩ (.string nm)).setCell ⟨xb,1,none⟩ (.int .i64 e.kind)).setCell ⟨xb,2,none⟩ (.int .i64 e.mode)).setCell ⟨xb,3,none⟩ (.int .i64 e.time)).setCell ⟨xb,4,none⟩ (.int .i64 (dn:Int))).setCell ⟨xb,5,none⟩ (.string e.link)).setCell ⟨xb,6,none⟩ (.slice none 0 0)).setCell ⟨xb,7,none⟩ (.string ⟨#[]⟩)).setCell ⟨xb,8,none⟩ (.int .i64 0)).setCell ⟨xb,9,none⟩ (.int .i64 0)):=⟨_,rfl⟩
     rw[<-hW4];have hcells:(cg (.slice none 0 0) (aT k gs c d e bG)).toArray= #[.string nm, .int .i64 e.kind, .int .i64 e.mode, .int .i64 e.time, .int .i64 (dn:Int), .string e.link, .slice none 0 0, .string ⟨#[]⟩, .int .i64 0, .int .i64 0]:=by
      unfold cg;rw[CC HVE.o,<-HDN.o,HNL.o];unfold aT;simp[bG]
     have hb4:Below wr.heap.size wr W4:=by rw[hW4]; exact dG HB3.o (by omega)
     have HFI:=aa (HIN.o.item (xb:=xb) (it:=aT k gs c d e bG) hb4 (by rw[hcells,hW4]; exact BO HY3.o) (by omega) HBZ.o);have HE4:=aa (show W4.heap[wr.heap.size]? =some (.cells #[.string e.path, .int .i64 e.kind, .int .i64 e.mode, .int .i64 e.time, .slice da dn dc, .string e.link] 79 (0,0)) by rw[hW4]; exact(ke (show wr.heap.size≠xb by omega)).trans HE3.o);have HB4:=aa hb4
     clear hW4 hcells hb4 HY3 HB3 HE3 i0 i1 i2 i3 i4 i5 i6 i7 i8 i9 g0 g1 g2 g3 g4 g5 g6 g7 g8 g9;obtain⟨d0,d1,d2,d3,d4,d5,_⟩:=aj HE4.o;simp only[Nat.zero_add,Nat.reduceAdd]at d1 d2 d3 d4 d5;have HKJ:=aa (show bA (tree.take (j+1)) d=bA (tree.take j) d++[e] by rw[HKT.o,if_pos HPA.o]);have HSJ:=aa (show eK k gs ((bA (tree.take (j+1)) d).flatMap (eJ k gs c tree f)) s=eK k gs (eJ k gs c tree f e) s2 by rw[HKJ.o,List.flatMap_append,kr,<-HS2.o]; simp)
     have HIJ:=aa (show((bA (tree.take (j+1)) d).map fun e=>aT k gs c d e (aE k gs (ew k gs c tree f e.path).1))=its++[aT k gs c d e (aE k gs (ew k gs c tree f e.path).1)] by rw[HKJ.o,List.map_append,<-HIT.o]; rfl);have HRJ:=aa (show s2.1.length+(eJ k gs c tree f e).length<=1000000 by
      have h1:=oD (k:=k) (gs:=gs) ((bA (tree.take j) d).flatMap (eJ k gs c tree f)) s;rw[<-HS2.o]at h1;have h2:=CG (g:=eJ k gs c tree f) HE.o HPA.o;have h3:=HRM.o;rw[eh,List.length_append]at h3
      omega)
     have HOI:=aa (fun nd (hn:bK nd)=>(show df (aT k gs c d e nd)from by
      have h1:=xq (bl d) (bl e.path);rw[<-am e.path]at h1;have h2:=(gt HVE.o).2.1;refine⟨?_, ?_, ?_⟩
      ·show ByteArray.size ⟨_⟩<=_
       simp only[ByteArray.size,List.size_toArray];unfold maxLen; omega
      ·show e.link.size<=_
       unfold maxLen; omega
      ·show bK (if e.kind=2 then nd else bG)
       split
       ·exact hn
       ·exact iM))
     by_cases hk1:e.kind=1
     ·have e1:(e.kind == 1)=true:=by simp[hk1]
      have HK1:=aa hk1;clear hk1
      go_upto_region 10 with(fail)
      clear d0 d1 d2 d3 d4 d5;have hdl:e.data.length<=60:=HX.o.small.data e HET.o;have hbz4:=Nat.le_trans HBZ.o HB4.o.size;refine bE (fun w'=>cX bb k c (.slice (some ⟨tb,ot,none⟩) n tc) gv v2 lg s2.2 w'/\w'.heap[wr.heap.size]? =some (.cells #[.string e.path, .int .i64 e.kind, .int .i64 e.mode, .int .i64 e.time, .slice da dn dc, .string e.link] 79 (0,0))) (by kernel_rfl) ?_;obtain⟨V,hV⟩: ∃V:World,V=W4.drew:=⟨_,rfl⟩
      rw[<-hV];have hb5:Below W4.heap.size W4 V:=by rw[hV]; exact(Below.refl _ _).drew
      have HFV:=aa (HFI.o.below hb5 hbz4);have HEV:=aa (br hb5 HE4.o);have HBV:=aa (ab HB4.o hb5);have SV:=aa (show cX bb k c (.slice (some ⟨tb,ot,none⟩) n tc) gv v2 lg s2.2 V/\V.heap[wr.heap.size]? =some (.cells #[.string e.path, .int .i64 e.kind, .int .i64 e.mode, .int .i64 e.time, .slice da dn dc, .string e.link] 79 (0,0))from And.intro HFV.o.bd.box HEV.o);clear hV hb5 HFI HE4 HB4
      iterate 6 (refine aJ rfl (by kernel_rfl) (fun _ _ _ h=>h) rfl SV.o (by rintro w' ⟨hx0,hx⟩; unfold cX at hx0; have k5:=ag (k:=5) hx0; have k6:=ag (k:=6) hx0; have k7:=ag (k:=7) hx0; have k8:=ag (k:=8) hx0; have k9:=ag (k:=9) hx0; have d4:=aB (k:=4) hx; simp only[oF,bT,cG,List.cons_append,List.nil_append,cr]at k5 k6 k7 k8 k9 d4; clear hx hx0; go_simp; rfl) ?_; simp only[Act.put,aZ,bg,bh])
      refine an 6 rfl (by kernel_rfl) rfl (fun K hK=> ?_);go_wp2_with fail;refine(yk (fun _=>True) c e.data (.slice da dn dc) V HX.o.cut HX.o.seed (by show aL _ V 1 (.slice da dn dc) e.data.length (e.data.map ak); have h1:=(bO.below HDT.o HBV.o).weak (T:=fun _=>True) fun _ _=>trivial; rw[HDN.o]; exact h1) (by omega)).mono ?_;rintro e' w5 ⟨pa,pcap,ys,rfl,hys,hpr,hpd,hb6⟩
      have hbzV:=Nat.le_trans HBZ.o HBV.o.size;have HF5:=aa (HFV.o.below hb6 hbzV);have S5:=aa (show cX bb k c (.slice (some ⟨tb,ot,none⟩) n tc) gv v2 lg s2.2 w5/\w5.heap[wr.heap.size]? =some (.cells #[.string e.path, .int .i64 e.kind, .int .i64 e.mode, .int .i64 e.time, .slice da dn dc, .string e.link] 79 (0,0))from And.intro HF5.o.bd.box (br hb6 HEV.o));have HPT:=aa (show kM w5 base (.slice pa ys.length pcap) ys from⟨cK hpr hbzV,fun y hy=>cK (hpd y hy) hbzV⟩)
      have HYS:=aa hys;obtain⟨yn,hyn⟩: ∃l,l=ys.length:=⟨_,rfl⟩;have HYN:=aa hyn;have hyl:yn<=60:=by
       have h1:=pQ HX.o.cut e.data;rw[<-hys,List.length_map]at h1;omega
      rw[<-hyn]at HPT ⊢;clear hys hpr hpd hb6 hyn HFV HEV HBV SV hbzV;go_wp2_with fail;refine⟨S5.o, ?_⟩;refine aJ rfl (by kernel_rfl) (fun _ _ _ h=>h) rfl S5.o (by rintro w' ⟨hx0,hx⟩; unfold cX at hx0; have k5:=ag (k:=5) hx0; have k6:=ag (k:=6) hx0; have k7:=ag (k:=7) hx0; have k8:=ag (k:=8) hx0; have k9:=ag (k:=9) hx0; have d4:=aB (k:=4) hx; simp only[oF,bT,cG,List.cons_append,List.nil_append,cr]at k5 k6 k7 k8 k9 d4; clear hx hx0; go_simp; rfl) ?_
      simp only[Act.put,aZ,bg,bh];refine aM (by kernel_rfl) ?_;clear S5;obtain⟨itf,hitf⟩: ∃it,it=aT k gs c d e bG:=⟨_,rfl⟩;have HIF:=aa hitf;have hf5:=HF5.o;rw[<-hitf]at hf5;have HF0:=aa hf5;clear hitf hf5 HF5;obtain⟨wo,hwo⟩: ∃wo:World,wo=wr:=⟨_,rfl⟩;subst hwo;go_wp2_with fail
      go_loopw [10] (fun i wq=> ∃(m:Nat) (v3 u6:Value),m<=yn/\i= .int .i64 (m:Int)/\sW w base bb k c (.slice (some ⟨tb,ot,none⟩) n tc) gv v lg wo.heap.size xb wq v3 u5 (eK k gs ((cN c e.data).take m) s2) its u6 itf (((cN c e.data).take m).map (aE k gs))/\kM wq base (.slice pa yn pcap) ys) (fun i _=>yn-(intOf i).toNat)
      case atStart=>exact⟨0,v2, .slice none 0 0,Nat.zero_le _,rfl,HF0.o,HPT.o⟩
      case round=>
       obtain⟨m,v3,u6,hm,rfl,hfr,hpt⟩:=hrel;obtain⟨rs,hrs⟩: ∃rs,rs=((cN c e.data).take m).map (aE k gs):=⟨_,rfl⟩;obtain⟨sm,hsm⟩: ∃s,s=eK k gs ((cN c e.data).take m) s2:=⟨_,rfl⟩;rw[<-hrs,<-hsm]at hfr;obtain⟨ra,rc,rfl,-,-⟩:=ai hfr.row;have hcl:yn=(cN c e.data).length:=by rw[HYN.o,<-HYS.o,List.length_map]
       obtain⟨rn,hrn⟩: ∃l,l=rs.length:=⟨_,rfl⟩;have hrm:rn=m:=by rw[hrn,hrs,List.length_map,List.length_take]; omega
       rw[<-hrn]at hfr;have HFR:=aa hfr;have HPR:=aa hpt;have HRS:=aa hrs;have HSM:=aa hsm;have HRN:=aa hrn;have HRMM:=aa hrm;have HCL:=aa hcl;have hbq:base<=wr.heap.size:=Nat.le_trans hbz HFR.o.kp.below.size;clear hfr hpt HF0 HPT hrs hsm hrn hrm hcl
       by_cases hml:m<yn
       ·obtain⟨y,hy⟩: ∃y,ys[m]? =some y:=⟨ys[m]'(by rw[<-HYN.o]; exact hml),by simp⟩;have HY:=aa hy;obtain⟨pb,po,pc,hpv,hpc⟩:=HPR.o.cell hy;simp only[Value.slice.injEq]at hpv;obtain⟨rfl,-,-⟩:=hpv;have hyo:=HPR.o.2 y (List.mem_of_getElem? hy);obtain⟨ya,yc,hyv,-,-⟩:=ai hyo;obtain⟨yl,hyl⟩: ∃l,l=y.2.length:=⟨_,rfl⟩;rw[<-hyl]at hyv;rw[hyv]at hpc
        have HYV:=aa hyv;have HYL:=aa hyl;have HYJ:=aa (show(cN c e.data)[m]? =some y.2 by rw[<-HYS.o,List.getElem?_map,hy]; rfl);clear hy hyo hyv hyl hpc
        go_upto_region 14 with(fail)
        refine bN (fun w'=>w'.heap[xb]? =some (.cells (cg (.slice ra rn rc) itf).toArray 28 (0,0))/\w'.cell? ⟨pb,po+m,none⟩=some (.slice ya yl yc)) (by kernel_rfl) (by kernel_rfl) ?_;simp only[List.dropLast_cons_cons,List.dropLast_singleton,List.length_cons,List.length_nil,Nat.reduceAdd,Nat.reduceSub];obtain⟨V,hV⟩: ∃V:World,V=wr.drew:=⟨_,rfl⟩;rw[<-hV];have hb7:Below wr.heap.size wr V:=by rw[hV]; exact(Below.refl _ _).drew
        have HFV:=aa (HFR.o.below hb7 hbq);have HPV:=aa (HPR.o.below hb7);have SV:=aa (show V.heap[xb]? =some (.cells (cg (.slice ra rn rc) itf).toArray 28 (0,0))/\V.cell? ⟨pb,po+m,none⟩=some (.slice ya yl yc)from And.intro HFV.o.box (by rw[<-HYV.o]; exact HPV.o.at' HY.o));clear hV hb7 HFR HPR hbq
        iterate 7 (refine aJ rfl (by kernel_rfl) (fun _ _ _ h=>h) rfl SV.o (by rintro w' ⟨hx,hp⟩; unfold cg at hx; have i6:=ag (k:=6) hx; simp only[cr]at i6; clear hx; go_simp; rfl) ?_; simp only[Act.put,aZ,bg,bh])
        have hrd:sm.1.length<=1000000:=by
         have h1:=oD (k:=k) (gs:=gs) ((cN c e.data).take m) s2;rw[<-HSM.o]at h1;have h2:(((cN c e.data).take m)).length<=(cN c e.data).length:=by rw[List.length_take]; omega
         have h3:=HRJ.o;unfold eJ at h3;rw[if_pos HK1.o]at h3;omega
        have hyl2:y.2.length<=32768:=(nr HX.o.cut e.data y.2 (List.mem_of_getElem? HYJ.o)).2;have hp:=ui base bb k c (.slice (some ⟨tb,ot,none⟩) n tc) gv v3 (.slice ya yl yc) gs lg sm.2 sm.1 y.2 V HFV.o.bd HX.o.keys (HG.o.keep (fun i hi _=>HFV.o.kp.below.block i hi)) HX.o.gens (by have h1:=HPV.o.2 y (List.mem_of_getElem? HY.o); rw[HYV.o]at h1; exact h1) hyl2 hrd HX.o.bbb
        obtain⟨r,hr⟩: ∃r,r=aE k gs y.2:=⟨_,rfl⟩;rw[<-hr]at hp;unfold bU at hp;have HP:=aa hp;have HRE:=aa hr;clear hp hr hrd hyl2;refine an 7 rfl (by kernel_rfl) rfl (fun K hK=> ?_);go_wp2_with fail;refine HP.o.mono ?_;rintro e7 w7 ⟨rfl,v7,hbd7,hkp7⟩;have HF7:=aa (HFV.o.step hbd7 hkp7);have HP7:=aa (HPV.o.kp HFV.o.bd hkp7);have S7:=aa (show w7.heap[xb]? =some (.cells (cg (.slice ra rn rc) itf).toArray 28 (0,0))/\w7.cell? ⟨pb,po+m,none⟩=some (.slice ya yl yc)from And.intro HF7.o.box (by rw[<-HYV.o]; exact HP7.o.at' HY.o))
        clear hbd7 hkp7 HFV HPV SV HP;go_wp2_with fail;refine⟨S7.o, ?_⟩;refine an 8 rfl (by kernel_rfl) rfl (fun K hK=> ?_);go_wp2_with fail;have hal:=(Below.refl w7.heap.size w7).alloc (Nat.le_refl _) (.cells #[.string r.name, .int .i64 r.gen, .int .i64 r.size] 26);have S8:=aa (show(w7.alloc (.cells #[.string r.name, .int .i64 r.gen, .int .i64 r.size] 26)).heap[xb]? =some (.cells (cg (.slice ra rn rc) itf).toArray 28 (0,0))/\(w7.alloc (.cells #[.string r.name, .int .i64 r.gen, .int .i64 r.size] 26)).cell? ⟨pb,po+m,none⟩=some (.slice ya yl yc)from And.intro (br hal HF7.o.box) (by rw[<-HYV.o]; exact(HP7.o.below hal).at' HY.o))
        clear hal S7;refine⟨S8.o, ?_⟩;refine an 9 rfl (by kernel_rfl) rfl (fun K hK=> ?_);have hrn60:rn<1099511627775:=by have:=HRMM.o; omega
        have hM7:wo.heap.size<=w7.heap.size:=by have:=HF7.o.mark; have:=lt_of_block HF7.o.box; omega
        go_wp2_with (at_builtin; go_must (refine aA Tryz.appRefs rfl _ _ rfl wo.heap.size (.slice ra rn rc) rn (rs.flatMap dC) rfl w7 [.string r.name, .int .i64 r.gen, .int .i64 r.size] _ rfl rfl (lr (r:=r)) (by have h1:=HF7.o.row; rw[<-HRN.o]at h1; exact h1) hrn60 hM7 ?_); intro v' wc hown' hgrow' _ hpl; obtain⟨ae,ce,rfl,-,-⟩:=ai hown');have hpu:=HF7.o.push (r:=r) (by rw[<-HRN.o]; exact hown') hgrow' hbz
        have hxc:=HF7.o.grown hgrow';have hpc:=HP7.o.grown HF7.o.row hgrow';have HPP:=aa (HP7.o.push (xb:=xb) (q:=6) (u:= .slice ae (rn+1) ce) HF7.o.row hgrow' hxc);have S9:=aa (show wc.heap[xb]? =some (.cells (cg (.slice ra rn rc) itf).toArray 28 (0,0))/\wc.cell? ⟨pb,po+m,none⟩=some (.slice ya yl yc)from And.intro hxc (by rw[<-HYV.o]; exact hpc.at' HY.o));have HPU:=aa hpu
        clear hown' hgrow' hpl hpu hxc hpc S8 HF7 HP7 hM7;refine⟨S9.o, ?_⟩;refine aJ rfl (by kernel_rfl) (fun _ _ _ h=>h) rfl S9.o (by rintro w' ⟨hx,hp⟩; unfold cg at hx; have i6:=ag (k:=6) hx; simp only[cr]at i6; clear hx; go_simp; rfl) ?_;simp only[Act.put,aZ,bg,bh];refine aM (by kernel_rfl) ?_;refine bX rfl rfl (fun K hK=> ?_);have hx:=S9.o.1;unfold cg at hx
        have i6:=ag (k:=6) hx;have g6:=ah (k:=6) hx;simp only[cr]at i6;have HT1:=aa (show eK k gs ((cN c e.data).take (m+1)) s2=nK k gs sm y.2 by rw[zV HYJ.o,<-HSM.o]);have HT2:=aa (show((cN c e.data).take (m+1)).map (aE k gs)=rs++[r] by rw[bS HYJ.o,List.map_append,<-HRS.o,HRE.o]; rfl);clear hx S9;go_wp2_with fail
        go_roundw
        case rel=>exact⟨m+1,v7, .slice ae (rn+1) ce,by omega,by go_num,by rw[HT1.o,HT2.o]; exact HPU.o,HPP.o⟩
        case measure=>simp[intOf]; omega
       ·obtain rfl:m=yn:=by omega
        go_upto_region 17 with(fail)
        have hall:(cN c e.data).take m=cN c e.data:=List.take_of_length_le (by rw[<-HCL.o]; exact Nat.le_refl _);have hch:itf.chunks=(cN c e.data).map (aE k gs):=by
         rw[HIF.o]
         show(if e.kind=1 then _ else [])=_
         rw[if_pos HK1.o]
        have hfr:=HFR.o;rw[show rs=itf.chunks by rw[HRS.o,hall,hch]]at hfr;have HFX:=aa hfr;have HOX:=aa (show df itf by rw[HIF.o]; exact HOI.o bG iM);have HRX:=aa (show ∀r∈itf.chunks,bK r by
         rw[hch];intro r hr;obtain⟨z,hz,rfl⟩:=List.mem_map.1 hr;exact eT HX.o.gens (by have:=(nr HX.o.cut e.data z hz).2; omega))
        have HIE:=aa (show aT k gs c d e (aE k gs (ew k gs c tree f e.path).1)=itf by rw[HIF.o]; exact iJ (by have:=HK1.o; omega) _ _);have HSE:=aa (show eK k gs (eJ k gs c tree f e) s2=sm by rw[HSM.o,hall]; unfold eJ; rw[if_pos HK1.o]);obtain⟨it,hit⟩: ∃it,it=itf:=⟨_,rfl⟩;subst hit;clear hall hch hfr HFR HPR;obtain⟨zs4,hzs4,hzr4,-,hzd4⟩:=HFX.o.its.row
        have hzl4:zs4.length<=12:=by rw[<-List.length_map (f:=Prod.snd),hzs4]; exact hi12
        have HZS4:=aa hzs4;have HZR4:=aa hzr4;have HZD4:=aa (fun z hz=>(hzd4 z hz).1);have hz4:w.heap.size<=(wr).heap.size:=HFX.o.kp.below.size;clear hzs4 hzr4 hzd4;have hbx:=HFX.o.box;unfold cg at hbx;obtain⟨i0,i1,i2,i3,i4,i5,i6,i7,i8,i9,_⟩:=aj hbx;simp only[Nat.zero_add,Nat.reduceAdd]at i1 i2 i3 i4 i5 i6 i7 i8 i9;clear hbx;go_wp2_with (at_builtin; go_must (refine aA Tryz.appItems rfl _ _ rfl w.heap.size u5 zs4.length (kg zs4) rfl (wr) [.string it.name, .int .i64 it.kind, .int .i64 it.mode, .int .i64 it.time, .int .i64 it.size, .string it.link, .slice ra rn rc, .string it.node.name, .int .i64 it.node.gen, .int .i64 it.node.size] _ rfl rfl (eZ (it:=it)) HZR4.o (by omega) hz4 ?_); intro v' wc hown' hgrow' _ _; have HPU:=aa (HFX.o.done HZS4.o HZR4.o HZD4.o hown' hgrow' HOX.o HRX.o hbz); clear hown' hgrow')
        clear i0 i1 i2 i3 i4 i5 i6 i7 i8 i9
        go_roundw
        case rel=>exact⟨j+1,v3,by omega,by go_num,by rw[HSJ.o,HIJ.o,HIE.o,HSE.o]; exact HPU.o⟩
        case measure=>simp[intOf]; omega
     ·have e1:(e.kind == 1)=false:=by simp[hk1]
      have HK1:=aa hk1
      by_cases hk2:e.kind=2
      ·have e2:(e.kind == 2)=true:=by simp[hk2]
       have HK2:=aa hk2;have hce:eJ k gs c tree f e=(ew k gs c tree f e.path).2:=by unfold eJ; rw[if_neg hk1,if_pos hk2]
       have hpl:=kq (l:=bl e.path) (lP HX.o.tok (List.mem_of_getElem? HE.o));rw[HPA.o]at hpl;have hf2:=HF.o;have hih:=HIH.o e.path v2 s2 W4 (by rw[<-am]; exact hps) (by omega) HFI.o.bd (HG.o.keep (fun i hi _=>HFI.o.kp.below.block i hi)) (HT.o.keep (fun i hi=>HFI.o.kp.below.block i hi)) (by rw[<-hce]; exact HRJ.o);unfold AQ at hih;obtain⟨r,hr⟩: ∃r,r=aE k gs (ew k gs c tree f e.path).1:=⟨_,rfl⟩
       rw[<-hce,<-hr]at hih;have HRE:=aa hr;have HRO:=aa (show bK r by rw[hr]; exact eT HX.o.gens (by have:=nH (k:=k) HX.o.gens HX.o.cut HX.o.tok HX.o.small f e.path; omega));unfold bU at hih;have HRC:=aa hih;clear hk2 hk1 hce hpl hf2 hih hr;go_wp2_with fail;refine HRC.o.mono ?_;rintro e' w5 ⟨rfl,v5,hbd5,hkp5⟩;have HF5:=aa (HFI.o.step hbd5 hkp5);have hbx:=HF5.o.box
       unfold cg at hbx;have i7:=ag (k:=7) hbx;have i8:=ag (k:=8) hbx;have i9:=ag (k:=9) hbx;have g7:=ah (k:=7) hbx;have g8:=ah (k:=8) hbx;have g9:=ah (k:=9) hbx;simp only[cr]at i7 i8 i9;clear hbx hbd5 hkp5 d0 d1 d2 d3 d4 d5
       go_upto_region 17 with(fail)
       obtain⟨W6,hW6⟩: ∃W6:World,W6=((w5.setCell ⟨xb,7,none⟩ (.string r.name)).setCell ⟨xb,8,none⟩ (.int .i64 r.gen)).setCell ⟨xb,9,none⟩ (.int .i64 r.size):=⟨_,rfl⟩;obtain⟨it,hit⟩: ∃it,it=aT k gs c d e r:=⟨_,rfl⟩;have hch:it.chunks=[]:=by rw[hit]; unfold aT; simp only[if_neg HK1.o]
       have hfi:sW w base bb k c (.slice (some ⟨tb,ot,none⟩) n tc) gv v lg wr.heap.size xb W6 v5 u5 (eK k gs (eJ k gs c tree f e) s2) its (.slice none 0 0) it it.chunks:=by
        rw[hch,hW6];have hf5:=HF5.o;have hiu:it= {aT k gs c d e bG with node:=r} :=by rw[hit]; unfold aT; simp only[if_pos HK2.o]
        have hnd:(aT k gs c d e bG).node=bG:=by unfold aT; simp only[if_pos HK2.o]
        obtain⟨it0,hi0⟩: ∃i,i=aT k gs c d e bG:=⟨_,rfl⟩;rw[<-hi0]at hf5 hiu hnd;have a1:=hf5.set (q:=7) (u:= .string r.name) (it':= {it0 with node:=⟨r.name,0,0⟩}) (by simp[cg,hnd,bG]) hbz;have a2:=a1.set (q:=8) (u:= .int .i64 r.gen) (it':= {it0 with node:=⟨r.name,r.gen,0⟩}) (by simp[cg]) hbz;have a3:=a2.set (q:=9) (u:= .int .i64 r.size) (it':=it) (by rw[hiu]; simp[cg]) hbz
        exact a3
       have HFX:=aa hfi;have HOX:=aa (show df it by rw[hit]; exact HOI.o r HRO.o);have HRX:=aa (show ∀r∈it.chunks,bK r by rw[hch]; simp);have HIE:=aa (show aT k gs c d e (aE k gs (ew k gs c tree f e.path).1)=it by rw[hit,HRE.o]);have HSE:=aa (show eK k gs (eJ k gs c tree f e) s2=eK k gs (eJ k gs c tree f e) s2 from rfl);rw[<-hW6];clear hit hch hfi hW6 HFI HF5 i7 i8 i9 g7 g8 g9
       obtain⟨zs4,hzs4,hzr4,-,hzd4⟩:=HFX.o.its.row;have hzl4:zs4.length<=12:=by rw[<-List.length_map (f:=Prod.snd),hzs4]; exact hi12
       have HZS4:=aa hzs4;have HZR4:=aa hzr4;have HZD4:=aa (fun z hz=>(hzd4 z hz).1);have hz4:w.heap.size<=(W6).heap.size:=HFX.o.kp.below.size;clear hzs4 hzr4 hzd4;have hbx:=HFX.o.box;unfold cg at hbx;obtain⟨i0,i1,i2,i3,i4,i5,i6,i7,i8,i9,_⟩:=aj hbx;simp only[Nat.zero_add,Nat.reduceAdd]at i1 i2 i3 i4 i5 i6 i7 i8 i9;clear hbx;go_wp2_with (at_builtin; go_must (refine aA Tryz.appItems rfl _ _ rfl w.heap.size u5 zs4.length (kg zs4) rfl (W6) [.string it.name, .int .i64 it.kind, .int .i64 it.mode, .int .i64 it.time, .int .i64 it.size, .string it.link, .slice none 0 0, .string it.node.name, .int .i64 it.node.gen, .int .i64 it.node.size] _ rfl rfl (eZ (it:=it)) HZR4.o (by omega) hz4 ?_); intro v' wc hown' hgrow' _ _; have HPU:=aa (HFX.o.done HZS4.o HZR4.o HZD4.o hown' hgrow' HOX.o HRX.o hbz); clear hown' hgrow')
       clear i0 i1 i2 i3 i4 i5 i6 i7 i8 i9
       go_roundw
       case rel=>exact⟨j+1,v5,by omega,by go_num,by rw[HSJ.o,HIJ.o,HIE.o,HSE.o]; exact HPU.o⟩
       case measure=>simp[intOf]; omega
      ·have e2:(e.kind == 2)=false:=by simp[hk2]
       have HK2:=aa hk2;clear hk2 hk1
       go_upto_region 17 with(fail)
       obtain⟨it,hit⟩: ∃it,it=aT k gs c d e bG:=⟨_,rfl⟩;have hch:it.chunks=[]:=by rw[hit]; unfold aT; simp only[if_neg HK1.o]
       have hfi:=HFI.o;rw[<-hit]at hfi;have HFX:=aa (show sW w base bb k c (.slice (some ⟨tb,ot,none⟩) n tc) gv v lg wr.heap.size xb W4 v2 u5 s2 its (.slice none 0 0) it it.chunks by rw[hch]; exact hfi);have HOX:=aa (show df it by rw[hit]; exact HOI.o bG iM);have HRX:=aa (show ∀r∈it.chunks,bK r by rw[hch]; simp);have HIE:=aa (show aT k gs c d e (aE k gs (ew k gs c tree f e.path).1)=it by rw[hit]; exact iJ HK2.o _ _)
       have HSE:=aa (show eK k gs (eJ k gs c tree f e) s2=s2 by unfold eJ; rw[if_neg HK1.o,if_neg HK2.o]; rfl);clear hit hch hfi HFI d0 d1 d2 d3 d4 d5;obtain⟨zs4,hzs4,hzr4,-,hzd4⟩:=HFX.o.its.row;have hzl4:zs4.length<=12:=by rw[<-List.length_map (f:=Prod.snd),hzs4]; exact hi12
       have HZS4:=aa hzs4;have HZR4:=aa hzr4;have HZD4:=aa (fun z hz=>(hzd4 z hz).1);have hz4:w.heap.size<=(W4).heap.size:=HFX.o.kp.below.size;clear hzs4 hzr4 hzd4;have hbx:=HFX.o.box;unfold cg at hbx;obtain⟨i0,i1,i2,i3,i4,i5,i6,i7,i8,i9,_⟩:=aj hbx;simp only[Nat.zero_add,Nat.reduceAdd]at i1 i2 i3 i4 i5 i6 i7 i8 i9;clear hbx;go_wp2_with (at_builtin; go_must (refine aA Tryz.appItems rfl _ _ rfl w.heap.size u5 zs4.length (kg zs4) rfl (W4) [.string it.name, .int .i64 it.kind, .int .i64 it.mode, .int .i64 it.time, .int .i64 it.size, .string it.link, .slice none 0 0, .string it.node.name, .int .i64 it.node.gen, .int .i64 it.node.size] _ rfl rfl (eZ (it:=it)) HZR4.o (by omega) hz4 ?_); intro v' wc hown' hgrow' _ _; have HPU:=aa (HFX.o.done HZS4.o HZR4.o HZD4.o hown' hgrow' HOX.o HRX.o hbz); clear hown' hgrow')
       clear i0 i1 i2 i3 i4 i5 i6 i7 i8 i9
       go_roundw
       case rel=>exact⟨j+1,v2,by omega,by go_num,by rw[HSJ.o,HIJ.o,HIE.o,HSE.o]; exact HPU.o⟩
       case measure=>simp[intOf]; omega
   ·obtain⟨q,hq⟩: ∃q:ByteArray,q=⟨(aH (bl e.path)).toArray⟩:=⟨_,rfl⟩;have HQ:=aa hq;have HKN:=aa (show bA (tree.take (j+1)) d=bA (tree.take j) d by rw[HKT.o,if_neg hin,List.append_nil]);have e1:(q.toList == d.toList)=false:=by
     rw[Bool.eq_false_iff];intro hc;have h1:bl q=bl d:=by rw[<-cA,<-cA]; simpa using hc
     exact hin (((congrArg bl hq).trans (ed _)).symm.trans h1)
    clear hin hq;go_wp2_with (go_at_call 92; refine(jk e.path q _ (by omega) HQ.o).mono ?_; rintro e7 w7 ⟨rfl,hb7⟩; have HB7:=aa (ab HB1.o hb7); clear hb7)
    go_roundw
    case rel=>exact⟨j+1,v2,by omega,by go_num,by rw[HKN.o,<-HS2.o,<-HIT.o]; exact HIN.o.below HB7.o HBZ.o⟩
    case measure=>simp[intOf]; omega
  ·have hjn:j=n:=by omega
   subst hjn;have hits:its=kh k gs c tree f d:=by rw[HIT.o,HN.o,List.take_length]; rfl
   have HI2:=aa (show fN wr w.heap.size u5 (kh k gs c tree f d) by rw[<-hits]; exact HIN.o.its);have hsm:=zB (k:=k) (gs:=gs) HX.o.cut HX.o.small f d;have hvn:=CD (k:=k) HX.o.gens HX.o.cut HX.o.tok HX.o.small f d;have hnl:=nH (k:=k) HX.o.gens HX.o.cut HX.o.tok HX.o.small (f+1) d;have hni:nF (kh k gs c tree f d)=(ew k gs c tree (f+1) d).1:=by
    rw[eh];refine Fm hvn (fun it hit=> ?_) (by rw[eh]at hnl; simp only at hnl; omega);unfold kh at hit;obtain⟨e,he,rfl⟩:=List.mem_map.1 hit;obtain⟨i,hi⟩:=List.mem_iff_getElem?.1 (cJ.1 he).1;obtain⟨_,_,_,_,_,_,_,hok,_⟩:=eY HT.o hi;have:=hok.tim;simp[Lit.wf,IntKind.min,IntKind.max,IntKind.signed,IntKind.bits]at this
    show e.time<_
    omega
   have hnd:=zM (fun _=>True) u5 (kh k gs c tree f d) wr HI2.o.at (fun it hit=>zy ((lX hvn).2 it hit)) (by have:=xF hsm.1 hsm.2; omega) (by have:=hsm.1; omega);unfold AO at hnd;rw[hni]at hnd;have HND:=aa hnd;have HNL:=aa hnl;have HS3:=aa (show s2=eK k gs ((bA tree d).flatMap (eJ k gs c tree f)) s by rw[HS2.o,HN.o,List.take_length])
   obtain⟨X,hX⟩: ∃X,X=(ew k gs c tree (f+1) d).1:=⟨_,rfl⟩;rw[<-hX]at HND HNL;have HXX:=aa hX;have HPS:=aa (show eK k gs (ew k gs c tree (f+1) d).2 s=nK k gs s2 X by rw[eh,kr,<-HS3.o,hX,eh]; rfl);clear hits hsm hvn hnl hni hnd hX;go_wp2_with fail;refine HND.o.mono ?_;rintro e' w5 ⟨cv,rfl,hcv,hb5⟩;have hbw:=Nat.le_trans hbz HIN.o.kp.below.size
   have HCV:=aa (cK hcv hbw);obtain⟨ca,cc,rfl,-,-⟩:=ai hcv;have HI5:=aa (HIN.o.below hb5 hbw);obtain⟨xl,hxl⟩: ∃l,l=X.length:=⟨_,rfl⟩;have hx1:1<=xl:=by
    rw[hxl,HXX.o,eh]
    show 1<=(cQ _).length
    unfold cQ;rw[List.length_append];have:=ze (kh k gs c tree f d).length;omega
   have hx2:xl<=32768:=by rw[hxl]; exact HNL.o
   have HXL:=aa hxl;rw[<-hxl];clear hcv hb5 hbw hxl HIN HND HI2 k5 k6 k7 k8 k9 k10;have hp:=ui base bb k c (.slice ta j tc) gv v2 (.slice ca xl cc) gs lg s2.2 s2.1 X w5 HI5.o.bd HX.o.keys (HG.o.keep (fun i hi _=>HI5.o.kp.below.block i hi)) HX.o.gens (by have h1:=HCV.o; rw[<-HXL.o]at h1 ⊢; exact h1) (by rw[<-HXL.o]; exact hx2) (by
    have h1:=oD (k:=k) (gs:=gs) ((bA tree d).flatMap (eJ k gs c tree f)) s;rw[<-HS3.o]at h1;have h3:=HRM.o;rw[eh,List.length_append]at h3
    omega) HX.o.bbb
   have HP:=aa hp;clear hp;unfold bU at HP;have e1:((xl:Int) == 0)=false:=by simp; omega
   go_upto_region 22 with(fail)
   obtain⟨r,hr⟩: ∃r,r=aE k gs X:=⟨_,rfl⟩;rw[<-hr]at HP;have HRE:=aa hr;clear hr e1;go_wp2_with fail;refine HP.o.mono ?_;rintro e6 w6 ⟨rfl,v6,hbd6,hkp6⟩;have HI6:=aa (HI5.o.step hbd6 hkp6);clear hbd6 hkp6;have HR6:=aa HI6.o.res;obtain⟨z0,z1,z2,_⟩:=aj HR6.o;simp only[Nat.zero_add,Nat.reduceAdd]at z1 z2;have y0:=ah (k:=0) HR6.o;have y1:=ah (k:=1) HR6.o
   have y2:=ah (k:=2) HR6.o;go_wp2_with fail;refine FD HR6.o rfl rfl ?_;refine⟨by rw[<-HXX.o,<-HRE.o]; rfl,v6, ?_, ?_⟩
   ·rw[HPS.o];exact HI6.o.bd.other HR6.o (by decide) (by decide) (by decide) (fun i hi _=>aY hi)
   ·exact((HI6.o.kp.setNew (Nat.le_refl _) hbz).setNew (Nat.le_refl _) hbz).setNew (Nat.le_refl _) hbz
theorem IA (c:cF):dV c=(decide (1<=c.win) && decide (c.win<=64) && decide (c.win<=c.mn) && decide (c.mn<=c.mx) && decide (c.mx<=32768) && decide (0<=c.bits) && decide (c.bits<=20)):=rfl
theorem yA (c:cF) (w:World):Calls Tryz.prog 75 #[dB c] w fun e w'=>e= .returned (.bool (dV c))/\Below w.heap.size w w':=by
 obtain⟨mn,mx,win,bits,seed⟩:=c;unfold dB;rw[IA]
 go_enter Tryz.func75,Tryz.ntmps75
 by_cases e1:1<=win
 ·by_cases e2:win<=64
  ·by_cases e3:win<=mn
   ·by_cases e4:mn<=mx
    ·by_cases e5:mx<=32768
     ·by_cases e6:0<=bits
      ·by_cases e7:bits<=20
       all_goals
        go_wp2_with fail;go_ret;exact⟨aD (by simp[e1,e2,e3,e4,e5,e6,e7]),bH⟩
      ·go_wp2_with fail;go_ret;exact⟨aD (by simp; omega),bH⟩
     ·go_wp2_with fail;go_ret;exact⟨aD (by simp; omega),bH⟩
    ·go_wp2_with fail;go_ret;exact⟨aD (by simp; omega),bH⟩
   ·go_wp2_with fail;go_ret;exact⟨aD (by simp; omega),bH⟩
  ·go_wp2_with fail;go_ret;exact⟨aD (by simp; omega),bH⟩
 ·go_wp2_with fail;go_ret;exact⟨aD (by simp; omega),bH⟩
theorem AA (c:cF) (b:Bool) (w:World) (h:dV c=b):Calls Tryz.prog 75 #[dB c] w fun e w'=>e= .returned (.bool b)/\Below w.heap.size w w':=by rw[<-h]; exact yA c w
theorem BF (S:Nat->Prop) (L:List bo) (v:Value) (x:Int) (w:World) (hv:bV S w v L) (hps: ∀e∈L,e.path.size<=16777216) (hx:cB L=x):Calls Tryz.prog 31 #[v] w fun e w'=>e= .returned (.int .i64 x)/\Below w.heap.size w w':=by
 rw[<-hx]; exact xQ S L v w hv hps
theorem rD {base bb:Nat} {k:bn} {c:cF} {gs:List (ByteArray×Int)} {tree:List bo} {tv gv:Value} {lg:Bool} (hX:RdX base bb k c gs tree): ∀f,RdC base bb k c gs tree tv gv lg f
 | 0=>fun d v s w h1 h2=>by omega
 | f+1=>Di f hX (rD hX f)
end Go.Proofs.YtpffpjbkbaleiaaGreatDoor
namespace Go.Proofs.YtpffpjbkbaleiaaGreatDoor
open Go.RowKit
section
variable {k : bn} {gs : List (ByteArray × Int)} {c : cF} {tree : List bo} {M : List (ByteArray × List UInt8)}
theorem Bk {A:bo->List (List UInt8)} {B:bo->List bo} : ∀(L:List bo),(∀e∈L,(A e).length<=61*(B e).length)->(L.flatMap A).length<=61*(L.flatMap B).length
 | [],_=>by simp
 | e::L,h=>by
  have h1:=h e (by simp);have h2:=Bk L fun x hx=>h x (by simp[hx])
  rw[List.flatMap_cons,List.flatMap_cons,List.length_append,List.length_append];omega
theorem BA (hc:dV c=true) (hs:jt tree): ∀(f:Nat) (d:ByteArray),(ew k gs c tree f d).2.length<=61*(ry tree f d).length+1
 | 0,d=>by simp[ew]
 | f+1,d=>by
  have hk: ∀e∈bA tree d,(eJ k gs c tree f e).length<=61*(e::(if e.kind=2 then ry tree f e.path else [])).length:=by
   intro e he;unfold eJ
   by_cases h1:e.kind=1
   ·rw[if_pos h1];have h2:=pQ hc e.data;have h3:=hs.data e (cJ.1 he).1;rw[List.length_cons];omega
   ·rw[if_neg h1]
    by_cases h2:e.kind=2
    ·rw[if_pos h2,if_pos h2,List.length_cons];have:=BA hc hs f e.path;omega
    ·rw[if_neg h2]; simp
  have:=Bk (bA tree d) hk;rw[eh]
  show(_++[_]).length<=61*((bA tree d).flatMap fun e=>e::(if e.kind=2 then ry tree f e.path else [])).length+1
  rw[List.length_append,List.length_singleton];omega
theorem Bz (hc:dV c=true) (hs:jt tree) (h:yG tree):(ew k gs c tree 514 ⟨#[]⟩).2.length<=733:=by
 have h1:=BA (k:=k) (gs:=gs) hc hs 514 ⟨#[]⟩;rw[Ig h (by omega)]at h1;have:=hs.len;omega
end
open Go Go.RowKit Go.Maps
theorem Aa {a:Act} {w:World} {b:Nat} {x0 x1 x2 e9 e10:Value} (h:w.heap[b]? =some (.cells #[x0,x1,x2] 26 (0,0)))
  (h8:a.tmps[8]? =some (.pointer (some ⟨b,0,none⟩))) (h9:a.tmps[9]? =some e9) (h10:a.tmps[10]? =some e10):(results Tryz.f23 a.tmps).run Tryz.prog w= .ok (.tuple #[.agg #[x0,x1,x2],e9,e10]) w:=by
 obtain⟨m0,m1,m2,_⟩:=aj h;simp only[Nat.zero_add,Nat.reduceAdd]at m1 m2;simp[results,Tryz.results23,go_sem,h8,h9,h10,m0,m1,m2]
theorem eS {a:Act} {w:World} {b:Nat} {a0 a1 a2 x0 x1 x2 e9 e10:Value} {Q:Ending->World->Prop} (h:w.heap[b]? =some (.cells #[a0,a1,a2] 26 (0,0)))
  (h8:a.tmps[8]? =some (.pointer (some ⟨b,0,none⟩))) (h9:a.tmps[9]? =some e9) (h10:a.tmps[10]? =some e10) (hd:a.defers=[])
  (hQ:Q (.returned (.tuple #[.agg #[x0,x1,x2],e9,e10])) (((w.setCell ⟨b,0,none⟩ x0).setCell ⟨b,1,none⟩ x1).setCell ⟨b,2,none⟩ x2)):
  bodyPost Tryz.prog Tryz.f23 Q Exit.ret a (((w.setCell ⟨b,0,none⟩ x0).setCell ⟨b,1,none⟩ x1).setCell ⟨b,2,none⟩ x2):=bodyPost_ret (Aa (pA h) h8 h9 h10) hd hQ
theorem zZ (k:bn) (c:cF) (tree:List bo) (gs:List (ByteArray×Int)) (tv gv:Value) (w:World) (hsd:c.seed<18446744073709551616) (ht:bV (· <w.heap.size) w tv tree) (hg:dO (· <w.heap.size) w gv gs) (hs:jt tree) (hps: ∀e∈tree,e.path.size<=16777216):
  Calls Tryz.prog 23 #[dW k,dB c,tv,gv] w (kO (cj k c tree gs) w):=by
 obtain⟨ta,tc,rfl,htn,htm,-⟩:=aU.shape ht jr.len;unfold maxLen at htm;obtain⟨n,hn⟩: ∃n,n=tree.length:=⟨_,rfl⟩;rw[<-hn]at ht htn ⊢;have HN:=aa hn;have HT:=aa ht;have HG:=aa hg;have HS:=aa hs;have HPS:=aa hps;have HSD:=aa hsd;obtain⟨W0,hW0⟩: ∃W0,W0=((w.alloc (.cells #[.string k.nm, .string k.st, .string k.ck, .string k.ix, .string k.tk] 42)).alloc (.cells #[.int .i64 c.mn, .int .i64 c.mx, .int .i64 c.win, .int .i64 c.bits, .int .u64 (c.seed:Int)] 45)).alloc (.cells #[.string ⟨#[]⟩, .int .i64 0, .int .i64 0] 26):=⟨_,rfl⟩
 have hb0:Below w.heap.size w W0:=by rw[hW0]; exact((bH).alloc (by simp) _).alloc (by simp; omega) _
 have HB0:=aa hb0;have HKX:=aa (show W0.heap[w.heap.size]? =some (.cells #[.string k.nm, .string k.st, .string k.ck, .string k.ix, .string k.tk] 42 (0,0)) by rw[hW0]; exact fD (fD (bz w _) _) _);have HCX:=aa (show W0.heap[w.heap.size+1]? =some (.cells #[.int .i64 c.mn, .int .i64 c.mx, .int .i64 c.win, .int .i64 c.bits, .int .u64 (c.seed:Int)] 45 (0,0)) by rw[hW0]; exact fD (jw w _ _) _)
 have HRX:=aa (show W0.heap[w.heap.size+2]? =some (.cells #[.string ⟨#[]⟩, .int .i64 0, .int .i64 0] 26 (0,0)) by
  rw[hW0];have:=bz ((w.alloc (.cells #[.string k.nm, .string k.st, .string k.ck, .string k.ix, .string k.tk] 42)).alloc (.cells #[.int .i64 c.mn, .int .i64 c.mx, .int .i64 c.win, .int .i64 c.bits, .int .u64 (c.seed:Int)] 45)) (.cells #[.string ⟨#[]⟩, .int .i64 0, .int .i64 0] 26);rw[show((w.alloc (.cells #[.string k.nm, .string k.st, .string k.ck, .string k.ix, .string k.tk] 42)).alloc (.cells #[.int .i64 c.mn, .int .i64 c.mx, .int .i64 c.win, .int .i64 c.bits, .int .u64 (c.seed:Int)] 45)).heap.size=w.heap.size+2 by simp]at this
  exact this)
 obtain⟨kvb,hkb⟩: ∃b,b=dX k:=⟨_,rfl⟩;have hsc:=tO k kvb W0 hkb.symm;unfold dW at hsc ⊢;unfold dB;have HSC:=aa hsc;clear ht hg hn hb0 hsc hs hps hsd
 go_enter Tryz.func23,Tryz.ntmps23
 go_upto_region 1 with(fail)
 rw[<-hW0];clear hW0;obtain⟨a0,a1,a2,a3,a4,_⟩:=aj HKX.o;simp only[Nat.zero_add,Nat.reduceAdd]at a1 a2 a3 a4;obtain⟨b0,b1,b2,b3,b4,_⟩:=aj HCX.o;simp only[Nat.zero_add,Nat.reduceAdd]at b1 b2 b3 b4
 cases kvb with
 | false=>
  have HM:=aa (show cj k c tree gs= .error 1 by unfold cj; rw[if_neg (by rw[<-hkb]; simp)]);clear hkb;go_wp2_with fail;refine HSC.o.mono ?_;rintro e w1 ⟨rfl,hb1⟩;have HB1:=aa (ab HB0.o hb1);have HR1:=aa (br hb1 HRX.o);clear hb1 a0 a1 a2 a3 a4 b0 b1 b2 b3 b4;obtain⟨z0,z1,z2,_⟩:=aj HR1.o;simp only[Nat.zero_add,Nat.reduceAdd]at z1 z2;have y0:=ah (k:=0) HR1.o
  have y1:=ah (k:=1) HR1.o;have y2:=ah (k:=2) HR1.o;go_wp2_with fail;refine eS HR1.o rfl rfl rfl rfl ⟨bL HB1.o (by show w.heap.size<=w.heap.size+2; omega), ?_⟩;rw[HM.o];exact⟨rfl,by decide⟩
 | true=>
  have HKV:=aa hkb.symm;clear hkb;go_wp2_with fail;refine HSC.o.mono ?_;rintro e w1 ⟨rfl,hb1⟩;have HB1:=aa (ab HB0.o hb1);have HR1:=aa (br hb1 HRX.o);have HK1:=aa (br hb1 HKX.o);have HC1:=aa (br hb1 HCX.o);clear hb1 a0 a1 a2 a3 a4 b0 b1 b2 b3 b4;obtain⟨a0,a1,a2,a3,a4,_⟩:=aj HK1.o;simp only[Nat.zero_add,Nat.reduceAdd]at a1 a2 a3 a4;obtain⟨b0,b1,b2,b3,b4,_⟩:=aj HC1.o
  simp only[Nat.zero_add,Nat.reduceAdd]at b1 b2 b3 b4;obtain⟨cvb,hcb⟩: ∃b,b=dV c:=⟨_,rfl⟩;have hvc:=AA c cvb w1 hcb.symm;unfold dB at hvc;have HVC:=aa hvc
  cases cvb with
  | false=>
   have HM:=aa (show cj k c tree gs= .error 1 by unfold cj; rw[if_neg (by rw[<-hcb]; simp)]);clear hcb hvc;go_wp2_with fail;refine HVC.o.mono ?_;rintro e w2 ⟨rfl,hb2⟩;have HB2:=aa (ab HB1.o hb2);have HR2:=aa (br hb2 HR1.o);clear hb2 a0 a1 a2 a3 a4 b0 b1 b2 b3 b4;obtain⟨z0,z1,z2,_⟩:=aj HR2.o;simp only[Nat.zero_add,Nat.reduceAdd]at z1 z2;have y0:=ah (k:=0) HR2.o
   have y1:=ah (k:=1) HR2.o;have y2:=ah (k:=2) HR2.o;go_wp2_with fail;refine eS HR2.o rfl rfl rfl rfl ⟨bL HB2.o (by show w.heap.size<=w.heap.size+2; omega), ?_⟩;rw[HM.o];exact⟨rfl,by decide⟩
  | true=>
   have HCV:=aa hcb.symm;have HM0:=aa (show cj k c tree gs=(if(gs.all fun p=>decide (0<=p.2) && decide (p.2<=1099511627776))=true then
    (if cB tree=0 then(match cO k gs c tree 514 ⟨#[]⟩with
     | .error x=> .error x
     | .ok p=> .ok (aE k gs p.1,bP k gs p.2 []))
    else .error (cB tree))else .error 1) by unfold cj; rw[if_pos ⟨HKV.o,HCV.o⟩]; rfl)
   clear hcb hvc;go_wp2_with fail;refine HVC.o.mono ?_;rintro e w2 ⟨rfl,hb2⟩;have HB2:=aa (ab HB1.o hb2);have HR2:=aa (br hb2 HR1.o);have HK2:=aa (br hb2 HK1.o);have HC2:=aa (br hb2 HC1.o);clear hb2 a0 a1 a2 a3 a4 b0 b1 b2 b3 b4
   rcases HG.o with⟨rfl,hgs⟩ | ⟨gb,rfl,hTg,hgm⟩
   ·have HGS:=aa hgs;have hr:=fun(w:World)=>run_range_nilMap (P:=Tryz.prog) w 47 9 3 Tryz.underlying47
    have hnx:=fun(w:World) (ty:TypeId) (a b:Nat) (s:Array Nat)=>run_next_nilMap (P:=Tryz.prog) w ty a b s
    clear hgs;go_wp2_with fail;obtain⟨W3,hW3⟩: ∃W3:World,W3=w2.alloc (.mapIter none 0 #[] 0):=⟨_,rfl⟩;have hnx2: ∀ty,(Instr.next (.pointer (some ⟨w2.heap.size,0,none⟩)) false ty).run Tryz.prog W3= .ok (.tuple #[.bool false]) W3:=by rw[hW3]; exact fun ty=>hnx w2 ty _ _ _
    have hb3:Below w2.heap.size w2 W3:=by rw[hW3]; exact bH
    have HB3:=aa (ab HB2.o hb3);have HR3:=aa (br hb3 HR2.o);have HK3:=aa (br hb3 HK2.o);have HC3:=aa (br hb3 HC2.o);have HALL:=aa (show gs.all (fun p=>decide (0<=p.2) && decide (p.2<=1099511627776))=true by rw[HGS.o]; rfl);rw[<-hW3];clear hr hnx hb3 hW3
    go_loopw [12] (fun _ wr=>wr=W3) (fun _ _=>0)
    case atStart=>rfl
    case round=>
     subst hrel
     go_upto_region 8 with(fail)
     have HG3:=aa (show dO (· <w.heap.size) (wr) (.map none) gs from HG.o.keep (fun i hi _=>HB3.o.block i hi));have HT3:=aa (HT.o.keep (w':=wr) (fun i hi=>HB3.o.block i hi));have HM1:=aa (show cj k c tree gs=(if cB tree=0 then(match cO k gs c tree 514 ⟨#[]⟩with
       | .error x=> .error x
       | .ok p=> .ok (aE k gs p.1,bP k gs p.2 []))
      else .error (cB tree)) by rw[HM0.o,if_pos HALL.o])
     obtain⟨x,hx⟩: ∃x,x=cB tree:=⟨_,rfl⟩;have hck:=BF (· <w.heap.size) tree (.slice ta n tc) x (wr) HT3.o HPS.o hx.symm;have HCX2:=aa hx.symm;have HCK:=aa hck;clear hx hck;go_wp2_with fail;refine HCK.o.mono ?_;rintro e w4 ⟨rfl,hb4⟩;have HB4:=aa (ab HB3.o hb4);have HR4:=aa (br hb4 HR3.o);have HK4:=aa (br hb4 HK3.o);have HC4:=aa (br hb4 HC3.o);clear hb4
     by_cases hx0:x=0
     ·subst hx0;have HTO:=aa (iE.1 HCX2.o);have HGO:=aa (show eL gs from fun p hp=>by
       have:=List.all_eq_true.1 HALL.o p hp
       simpa using this)
      have HOK:=aa (oU HKV.o HCV.o HGO.o HTO.o HS.o);obtain⟨a0,a1,a2,a3,a4,_⟩:=aj HK4.o;simp only[Nat.zero_add,Nat.reduceAdd]at a1 a2 a3 a4;obtain⟨b0,b1,b2,b3,b4,_⟩:=aj HC4.o;simp only[Nat.zero_add,Nat.reduceAdd]at b1 b2 b3 b4
      go_upto_region 12 with(fail)
      obtain⟨W5,hW5⟩: ∃W5:World,W5=w4.alloc (.cells (oF k c (.slice ta n tc) (.map none) (.slice none 0 0) false false).toArray 130):=⟨_,rfl⟩;have hb5:Below w4.heap.size w4 W5:=by rw[hW5]; exact bH
      have hbd5:fC W5 w.heap.size w4.heap.size k c (.slice ta n tc) (.map none) (.slice none 0 0) false ([],false):=⟨by rw[hW5]; exact bz w4 _,[],rfl,World.ownsRow_nil _ _ _ _,by simp⟩;simp only[oF,bT,cG,List.cons_append,List.nil_append]at hW5;rw[<-hW5];have HB5:=aa (ab HB4.o hb5);have HR5:=aa (br hb5 HR4.o);have HBD5:=aa hbd5;have hdir:=rD (base:=w.heap.size) (bb:=w4.heap.size) (lg:=false) (tv:= .slice ta n tc) (gv:= .map none) ⟨HKV.o,HCV.o,HSD.o,HGO.o,HB4.o.size,HTO.o,HS.o⟩ 514 ⟨#[]⟩ (.slice none 0 0) ([],false) W5 (by decide) (by decide) hbd5 (HG3.o.keep (fun i hi _=>(HB5.o.block i hi).trans (HB3.o.block i hi).symm)) (HT3.o.keep (fun i hi=>(HB5.o.block i hi).trans (HB3.o.block i hi).symm)) (by
       have:=Bz (k:=k) (gs:=gs) HCV.o HS.o HTO.o;simp only[List.length_nil]; omega)
      unfold AQ at hdir;obtain⟨r,hr⟩: ∃r,r=aE k gs (ew k gs c tree 514 ⟨#[]⟩).1:=⟨_,rfl⟩;rw[<-hr]at hdir;unfold bU at hdir;have HD:=aa hdir;have HRE:=aa hr;clear hdir hr hW5 hb5 hbd5 a0 a1 a2 a3 a4 b0 b1 b2 b3 b4;go_wp2_with fail;refine HD.o.mono ?_;rintro e w6 ⟨rfl,v6,hbd6,hkp6⟩;have HB6:=aa (HB5.o.trans hkp6.below);have HBK:=aa hkp6.below.size;have HR6:=aa (dF.blk HBD5.o hkp6 HR5.o (by decide) (by decide))
      have HBD6:=aa hbd6;clear hbd6 hkp6
      go_upto_region 13 with(fail)
      obtain⟨W7,hW7⟩: ∃W7:World,W7=w6.alloc (.cells #[.string r.name, .int .i64 r.gen, .int .i64 r.size] 26):=⟨_,rfl⟩;rw[<-hW7];have hb7:Below w6.heap.size w6 W7:=by rw[hW7]; exact bH
      have HB7:=aa (ab (Below.mono HB6.o (Nat.le_refl _)) hb7);have HR7:=aa (br hb7 HR6.o);have HF7:=aa (show W7.heap[w6.heap.size]? =some (.cells #[.string r.name, .int .i64 r.gen, .int .i64 r.size] 26 (0,0)) by rw[hW7]; exact bz w6 _);have HBD7:=aa (HBD6.o.below hb7);have k13:=ag (k:=13) HBD7.o.box;simp only[oF,bT,cG,List.cons_append,List.nil_append,cr]at k13
      clear hW7 hb7 HBD6 HR6 HB6
      go_upto_region 15 with(fail)
      clear k13;obtain⟨W8,hW8⟩: ∃W8:World,W8=W7.drew:=⟨_,rfl⟩;have hb8:Below W7.heap.size W7 W8:=by rw[hW8]; exact(Below.refl _ _).drew
      have HB8:=aa (ab HB7.o hb8);have HR8:=aa (br hb8 HR7.o);have HF8:=aa (br hb8 HF7.o);have HBD8:=aa (HBD7.o.below hb8);obtain⟨zs,hzs,hbo⟩:=HBD8.o.own;obtain⟨va,vc,hv6,-,-⟩:=ai hbo.row;subst hv6;have HZS:=aa hzs;have HBO:=aa hbo;have HBX8:=aa HBD8.o.box;have hne1:w4.heap.size≠w.heap.size+1+1:=by have:=lt_of_block HR4.o; omega
      have hne2:w6.heap.size≠w.heap.size+1+1:=by have:=lt_of_block HR5.o; have:=HBK.o; omega
      clear hb8 hzs hbo;have k12:=ag (k:=12) HBX8.o;have f0:=ag (k:=0) HF8.o;have f1:=ag (k:=1) HF8.o;have f2:=ag (k:=2) HF8.o;simp only[oF,bT,cG,List.cons_append,List.nil_append,cr]at k12 f0 f1 f2;obtain⟨z0,z1,z2,_⟩:=aj HR8.o;simp only[Nat.zero_add,Nat.reduceAdd]at z1 z2;have y0:=ah (k:=0) HR8.o;have y1:=ah (k:=1) HR8.o;have y2:=ah (k:=2) HR8.o
      refine bE (fun w'=>w'.cell? ⟨w4.heap.size,12,none⟩=some (.slice va zs.length vc)/\w'.cell? ⟨w6.heap.size,0,none⟩=some (.string r.name)/\w'.cell? ⟨w6.heap.size,1,none⟩=some (.int .i64 r.gen)/\w'.cell? ⟨w6.heap.size,2,none⟩=some (.int .i64 r.size)) (by kernel_rfl) ?_;rw[<-hW8];clear hW8
      iterate 5 (refine aJ rfl (by kernel_rfl) (fun _ _ _ h=>h) rfl ⟨k12,f0,f1,f2⟩ (by rintro w' ⟨hw1,hw2,hw3,hw4⟩; go_simp; rfl) ?_; simp only[Act.put,aZ,bg,bh])
      refine an 5 rfl (by kernel_rfl) rfl (fun K hK=> ?_);have hS2:=fun(u0 u1 u2:Value)=>And.intro ((World.cell?_of_block (a:=⟨w4.heap.size,12,none⟩) (aY (w:=W8) (x0:=u0) (x1:=u1) (x2:=u2) hne1)).trans k12) (And.intro ((World.cell?_of_block (a:=⟨w6.heap.size,0,none⟩) (aY (w:=W8) (x0:=u0) (x1:=u1) (x2:=u2) hne2)).trans f0) (And.intro ((World.cell?_of_block (a:=⟨w6.heap.size,1,none⟩) (aY (w:=W8) (x0:=u0) (x1:=u1) (x2:=u2) hne2)).trans f1) ((World.cell?_of_block (a:=⟨w6.heap.size,2,none⟩) (aY (w:=W8) (x0:=u0) (x1:=u1) (x2:=u2) hne2)).trans f2)))
      have HS2:=aa hS2;clear hS2 k12 f0 f1 f2;go_wp2_with fail;refine⟨HS2.o _ _ _, ?_⟩
      iterate 2 (refine aJ rfl (by kernel_rfl) (fun _ _ _ h=>h) rfl (HS2.o _ _ _) (by rintro w' ⟨hw1,hw2,hw3,hw4⟩; go_simp; rfl) ?_; simp only[Act.put,aZ,bg,bh])
      refine aM (by kernel_rfl) ?_;go_wp2_with fail;refine eS HR8.o rfl rfl rfl rfl ⟨bL HB8.o (by show w.heap.size<=w.heap.size+2; omega), ?_⟩;rw[HOK.o];refine⟨_,zs,by rw[<-HRE.o]; rfl,by rw[HZS.o,ji],HBO.o.other HR8.o (by decide) (by decide) (Nat.le_refl _) (fun i hi=>aY hi)⟩
     ·have e1:(x != 0)=true:=by simp[hx0]
      have HX0:=aa hx0;clear hx0;obtain⟨z0,z1,z2,_⟩:=aj HR4.o;simp only[Nat.zero_add,Nat.reduceAdd]at z1 z2;have y0:=ah (k:=0) HR4.o;have y1:=ah (k:=1) HR4.o;have y2:=ah (k:=2) HR4.o;go_wp2_with fail;refine eS HR4.o rfl rfl rfl rfl ⟨bL HB4.o (by show w.heap.size<=w.heap.size+2; omega), ?_⟩;rw[HM1.o,if_neg (by rw[HCX2.o]; exact HX0.o)]
      rw[HCX2.o];exact⟨rfl,HX0.o⟩
   ·have HGM:=aa (hgm.same (w':=w2) (HB2.o.block gb hgm.lt));have hgbw:gb<w.heap.size:=hgm.lt;clear hgm hTg;go_wp2_with (at_range; go_must (refine mw rfl _ _ rfl eP gb _ rfl HGM.o ?_); intro w0 hrg0 hb0 hs0);obtain⟨r9,hr9⟩: ∃r9,r9=w2.heap.size:=⟨_,rfl⟩;rw[<-hr9]at hrg0 ⊢;have HR9:=aa hr9;have HB20:=aa hb0;clear hr9 hs0 hb0
    go_frame
    go_loopw [12] (fun _ wr=> ∃vis,kN Tryz.prog 9 wr gb r9 (gs.map mH) vis/\(∀p∈vis,∃z:Int,p.2= .int .i64 z/\0<=z/\z<=1099511627776)/\Below w2.heap.size w2 wr) (fun _ wr=>wr.rangeLeft gb r9)
    case atStart=>exact⟨[],hrg0,by simp,HB20.o⟩
    case round=>
     obtain⟨vis,hrg,hvis,hb2r⟩:=hrel;have HRG:=aa hrg;have HVIS:=aa hvis;have HB2R:=aa hb2r;clear hrg hvis hb2r;go_wp2_with (at_next; go_must (refine nY rfl _ rfl gb r9 _ _ rfl HRG.o ?_ ?_))
     ·intro hdone;have HALL:=aa (show gs.all (fun p=>decide (0<=p.2) && decide (p.2<=1099511627776))=true from by
       rw[List.all_eq_true];intro p hp;obtain⟨z,hz1,hz2,hz3⟩:=HVIS.o (mH p) (hdone.mem_iff.2 (List.mem_map.2 ⟨p,hp,rfl⟩));simp only[mH,Value.int.injEq,true_and]at hz1;subst hz1;simp[hz2,hz3])
      have HB3:=aa (ab HB2.o HB2R.o);have HR3:=aa (br HB2R.o HR2.o);have HK3:=aa (br HB2R.o HK2.o);have HC3:=aa (br HB2R.o HC2.o);clear hdone HRG hrg0
      go_upto_region 8 with(fail)
      have HG3:=aa (show dO (· <w.heap.size) (wr) (.map (some gb)) gs from HG.o.keep (fun i hi _=>HB3.o.block i hi));have HT3:=aa (HT.o.keep (w':=wr) (fun i hi=>HB3.o.block i hi));have HM1:=aa (show cj k c tree gs=(if cB tree=0 then(match cO k gs c tree 514 ⟨#[]⟩with
        | .error x=> .error x
        | .ok p=> .ok (aE k gs p.1,bP k gs p.2 []))
       else .error (cB tree)) by rw[HM0.o,if_pos HALL.o])
      obtain⟨x,hx⟩: ∃x,x=cB tree:=⟨_,rfl⟩;have hck:=BF (· <w.heap.size) tree (.slice ta n tc) x (wr) HT3.o HPS.o hx.symm;have HCX2:=aa hx.symm;have HCK:=aa hck;clear hx hck;go_wp2_with fail;refine HCK.o.mono ?_;rintro e w4 ⟨rfl,hb4⟩;have HB4:=aa (ab HB3.o hb4);have HR4:=aa (br hb4 HR3.o);have HK4:=aa (br hb4 HK3.o);have HC4:=aa (br hb4 HC3.o);clear hb4
      by_cases hx0:x=0
      ·subst hx0;have HTO:=aa (iE.1 HCX2.o);have HGO:=aa (show eL gs from fun p hp=>by
        have:=List.all_eq_true.1 HALL.o p hp
        simpa using this)
       have HOK:=aa (oU HKV.o HCV.o HGO.o HTO.o HS.o);obtain⟨a0,a1,a2,a3,a4,_⟩:=aj HK4.o;simp only[Nat.zero_add,Nat.reduceAdd]at a1 a2 a3 a4;obtain⟨b0,b1,b2,b3,b4,_⟩:=aj HC4.o;simp only[Nat.zero_add,Nat.reduceAdd]at b1 b2 b3 b4
       go_upto_region 12 with(fail)
       obtain⟨W5,hW5⟩: ∃W5:World,W5=w4.alloc (.cells (oF k c (.slice ta n tc) (.map (some gb)) (.slice none 0 0) false false).toArray 130):=⟨_,rfl⟩;have hb5:Below w4.heap.size w4 W5:=by rw[hW5]; exact bH
       have hbd5:fC W5 w.heap.size w4.heap.size k c (.slice ta n tc) (.map (some gb)) (.slice none 0 0) false ([],false):=⟨by rw[hW5]; exact bz w4 _,[],rfl,World.ownsRow_nil _ _ _ _,by simp⟩;simp only[oF,bT,cG,List.cons_append,List.nil_append]at hW5;rw[<-hW5];have HB5:=aa (ab HB4.o hb5);have HR5:=aa (br hb5 HR4.o);have HBD5:=aa hbd5;have hdir:=rD (base:=w.heap.size) (bb:=w4.heap.size) (lg:=false) (tv:= .slice ta n tc) (gv:= .map (some gb)) ⟨HKV.o,HCV.o,HSD.o,HGO.o,HB4.o.size,HTO.o,HS.o⟩ 514 ⟨#[]⟩ (.slice none 0 0) ([],false) W5 (by decide) (by decide) hbd5 (HG3.o.keep (fun i hi _=>(HB5.o.block i hi).trans (HB3.o.block i hi).symm)) (HT3.o.keep (fun i hi=>(HB5.o.block i hi).trans (HB3.o.block i hi).symm)) (by
        have:=Bz (k:=k) (gs:=gs) HCV.o HS.o HTO.o;simp only[List.length_nil]; omega)
       unfold AQ at hdir;obtain⟨r,hr⟩: ∃r,r=aE k gs (ew k gs c tree 514 ⟨#[]⟩).1:=⟨_,rfl⟩;rw[<-hr]at hdir;unfold bU at hdir;have HD:=aa hdir;have HRE:=aa hr;clear hdir hr hW5 hb5 hbd5 a0 a1 a2 a3 a4 b0 b1 b2 b3 b4;go_wp2_with fail;refine HD.o.mono ?_;rintro e w6 ⟨rfl,v6,hbd6,hkp6⟩;have HB6:=aa (HB5.o.trans hkp6.below);have HBK:=aa hkp6.below.size;have HR6:=aa (dF.blk HBD5.o hkp6 HR5.o (by decide) (by decide))
       have HBD6:=aa hbd6;clear hbd6 hkp6
       go_upto_region 13 with(fail)
       obtain⟨W7,hW7⟩: ∃W7:World,W7=w6.alloc (.cells #[.string r.name, .int .i64 r.gen, .int .i64 r.size] 26):=⟨_,rfl⟩;rw[<-hW7];have hb7:Below w6.heap.size w6 W7:=by rw[hW7]; exact bH
       have HB7:=aa (ab (Below.mono HB6.o (Nat.le_refl _)) hb7);have HR7:=aa (br hb7 HR6.o);have HF7:=aa (show W7.heap[w6.heap.size]? =some (.cells #[.string r.name, .int .i64 r.gen, .int .i64 r.size] 26 (0,0)) by rw[hW7]; exact bz w6 _);have HBD7:=aa (HBD6.o.below hb7);have k13:=ag (k:=13) HBD7.o.box;simp only[oF,bT,cG,List.cons_append,List.nil_append,cr]at k13
       clear hW7 hb7 HBD6 HR6 HB6
       go_upto_region 15 with(fail)
       clear k13;obtain⟨W8,hW8⟩: ∃W8:World,W8=W7.drew:=⟨_,rfl⟩;have hb8:Below W7.heap.size W7 W8:=by rw[hW8]; exact(Below.refl _ _).drew
       have HB8:=aa (ab HB7.o hb8);have HR8:=aa (br hb8 HR7.o);have HF8:=aa (br hb8 HF7.o);have HBD8:=aa (HBD7.o.below hb8);obtain⟨zs,hzs,hbo⟩:=HBD8.o.own;obtain⟨va,vc,hv6,-,-⟩:=ai hbo.row;subst hv6;have HZS:=aa hzs;have HBO:=aa hbo;have HBX8:=aa HBD8.o.box;have hne1:w4.heap.size≠w.heap.size+1+1:=by have:=lt_of_block HR4.o; omega
       have hne2:w6.heap.size≠w.heap.size+1+1:=by have:=lt_of_block HR5.o; have:=HBK.o; omega
       clear hb8 hzs hbo;have k12:=ag (k:=12) HBX8.o;have f0:=ag (k:=0) HF8.o;have f1:=ag (k:=1) HF8.o;have f2:=ag (k:=2) HF8.o;simp only[oF,bT,cG,List.cons_append,List.nil_append,cr]at k12 f0 f1 f2;obtain⟨z0,z1,z2,_⟩:=aj HR8.o;simp only[Nat.zero_add,Nat.reduceAdd]at z1 z2;have y0:=ah (k:=0) HR8.o;have y1:=ah (k:=1) HR8.o
       have y2:=ah (k:=2) HR8.o;refine bE (fun w'=>w'.cell? ⟨w4.heap.size,12,none⟩=some (.slice va zs.length vc)/\w'.cell? ⟨w6.heap.size,0,none⟩=some (.string r.name)/\w'.cell? ⟨w6.heap.size,1,none⟩=some (.int .i64 r.gen)/\w'.cell? ⟨w6.heap.size,2,none⟩=some (.int .i64 r.size)) (by kernel_rfl) ?_;rw[<-hW8];clear hW8
       iterate 5 (refine aJ rfl (by kernel_rfl) (fun _ _ _ h=>h) rfl ⟨k12,f0,f1,f2⟩ (by rintro w' ⟨hw1,hw2,hw3,hw4⟩; go_simp; rfl) ?_; simp only[Act.put,aZ,bg,bh])
       refine an 5 rfl (by kernel_rfl) rfl (fun K hK=> ?_);have hS2:=fun(u0 u1 u2:Value)=>And.intro ((World.cell?_of_block (a:=⟨w4.heap.size,12,none⟩) (aY (w:=W8) (x0:=u0) (x1:=u1) (x2:=u2) hne1)).trans k12) (And.intro ((World.cell?_of_block (a:=⟨w6.heap.size,0,none⟩) (aY (w:=W8) (x0:=u0) (x1:=u1) (x2:=u2) hne2)).trans f0) (And.intro ((World.cell?_of_block (a:=⟨w6.heap.size,1,none⟩) (aY (w:=W8) (x0:=u0) (x1:=u1) (x2:=u2) hne2)).trans f1) ((World.cell?_of_block (a:=⟨w6.heap.size,2,none⟩) (aY (w:=W8) (x0:=u0) (x1:=u1) (x2:=u2) hne2)).trans f2)))
       have HS2:=aa hS2;clear hS2 k12 f0 f1 f2;go_wp2_with fail;refine⟨HS2.o _ _ _, ?_⟩
       iterate 2 (refine aJ rfl (by kernel_rfl) (fun _ _ _ h=>h) rfl (HS2.o _ _ _) (by rintro w' ⟨hw1,hw2,hw3,hw4⟩; go_simp; rfl) ?_; simp only[Act.put,aZ,bg,bh])
       refine aM (by kernel_rfl) ?_;go_wp2_with fail;refine eS HR8.o rfl rfl rfl rfl ⟨bL HB8.o (by show w.heap.size<=w.heap.size+2; omega), ?_⟩;rw[HOK.o];refine⟨_,zs,by rw[<-HRE.o]; rfl,by rw[HZS.o,ji],HBO.o.other HR8.o (by decide) (by decide) (Nat.le_refl _) (fun i hi=>aY hi)⟩
      ·have e1:(x != 0)=true:=by simp[hx0]
       have HX0:=aa hx0;clear hx0;obtain⟨z0,z1,z2,_⟩:=aj HR4.o;simp only[Nat.zero_add,Nat.reduceAdd]at z1 z2;have y0:=ah (k:=0) HR4.o;have y1:=ah (k:=1) HR4.o;have y2:=ah (k:=2) HR4.o;go_wp2_with fail;refine eS HR4.o rfl rfl rfl rfl ⟨bL HB4.o (by show w.heap.size<=w.heap.size+2; omega), ?_⟩;rw[HM1.o,if_neg (by rw[HCX2.o]; exact HX0.o)]
       rw[HCX2.o];exact⟨rfl,HX0.o⟩
     ·intro key v1 w1' a0 e0 hmem hxe hnew hrg1 hg1 hs1 hen;simp only[mH,Prod.mk.injEq]at hxe;obtain⟨rfl,rfl⟩:=hxe;have HMEM:=aa hmem;have HRG1:=aa hrg1;have hr9w:w2.heap.size<=r9:=by have:=HR9.o; omega
      have hb21:Below w2.heap.size w2 w1':=HB2R.o.grown hg1 HB2R.o.size (fun i hi=>by cases hi; exact hr9w);have HB21:=aa hb21;have hlt9:wr.rangeLeft gb r9=(gs.map mH).length-vis.length:=by have:=HRG.o.left; omega
      have hlt91:w1'.rangeLeft gb r9+(vis++[(Value.string a0,Value.int .i64 e0)]).length=(gs.map mH).length:=hrg1.left;have HLT:=aa (show w1'.rangeLeft gb r9<wr.rangeLeft gb r9 by
       have h1:=HRG.o.left;rw[List.length_append,List.length_singleton]at hlt91
       omega)
      clear hmem hnew hrg1 hg1 hs1 hb21 hlt9 hlt91
      by_cases hok:0<=e0/\e0<=1099511627776
      ·obtain⟨ho1,ho2⟩:=hok;have HO:=aa (And.intro ho1 ho2);go_wp2_with fail
       go_roundw
       case rel=>
        refine⟨_,HRG1.o,fun p hp=> ?_,HB21.o⟩
        rcases List.mem_append.1 hp with hp | hp
        ·exact HVIS.o p hp
        ·rw[List.mem_singleton]at hp;subst hp;exact⟨e0,rfl,HO.o.1,HO.o.2⟩
       case measure=>exact HLT.o
      ·have HNO:=aa (show cj k c tree gs= .error 1 by
        rw[HM0.o,if_neg];intro h9;have:=List.all_eq_true.1 h9 _ HMEM.o;simp only[Bool.and_eq_true,decide_eq_true_eq]at this;exact hok this)
       have HR5:=aa (br HB21.o HR2.o);have HB5:=aa (ab HB2.o HB21.o);obtain⟨z0,z1,z2,_⟩:=aj HR5.o;simp only[Nat.zero_add,Nat.reduceAdd]at z1 z2;have y0:=ah (k:=0) HR5.o;have y1:=ah (k:=1) HR5.o;have y2:=ah (k:=2) HR5.o
       by_cases hneg:e0<0
       ·clear hok;go_wp2_with fail;refine eS HR5.o rfl rfl rfl rfl ⟨bL HB5.o (by show w.heap.size<=w.heap.size+2; omega), ?_⟩;rw[HNO.o];exact⟨rfl,by decide⟩
       ·have hbig:e0>1099511627776:=by omega
        clear hok;go_wp2_with fail;refine eS HR5.o rfl rfl rfl rfl ⟨bL HB5.o (by show w.heap.size<=w.heap.size+2; omega), ?_⟩;rw[HNO.o];exact⟨rfl,by decide⟩
def mS (l:List bo):Bool:=l.all (fun e=>decide (e.data.length<=60)) && decide (l.length<=12)
theorem bV.lts {S:Nat->Prop} {w:World} {v:Value} {l:List bo} (h:bV S w v l):bV (· <w.heap.size) w v l:=
 aU.mono h (by omega) (fun _ hk _=>hk) (fun _ _ _ ⟨v,h1,h2,h3⟩=>⟨v,h1,aL.mono h2 (fun _ hk _=>hk) (by omega),h3⟩)
theorem dO.lts {S:Nat->Prop} {w:World} {v:Value} {l:List (ByteArray×Int)} (h:dO S w v l):dO (· <w.heap.size) w v l:=by
 rcases h with h | ⟨b,h1,_,h2⟩
 ·exact .inl h
 ·exact .inr ⟨b,h1,h2.lt,h2⟩
theorem yi (S:Nat->Prop) (l:List bo) (v:Value) (w:World) (hv:bV S w v l):Calls Tryz.prog 21 #[v] w fun e w'=>e= .returned (.bool (mS l))/\Below w.heap.size w w':=by
 obtain⟨a,c,rfl,hc,hm,-⟩:=aU.shape hv jr.len;unfold maxLen at hm;obtain⟨n,hn⟩: ∃n,n=l.length:=⟨_,rfl⟩;rw[<-hn]at hv hc ⊢;have HV:=aa hv;have HN:=aa hn;clear hv hn
 go_enter Tryz.func21,Tryz.ntmps21
 go_wp2_with fail
 go_loopw [3] (fun i wr=> ∃j:Nat,j<=n/\i= .int .i64 (j:Int)/\(∀e∈l.take j,e.data.length<=60)/\wr=w) (fun i _=>n-(intOf i).toNat)
 case atStart=>exact⟨0,Nat.zero_le _,rfl,by simp,rfl⟩
 case round=>
  obtain⟨j,hj,rfl,hall,rfl⟩:=hrel;have HALL:=aa hall;clear hall
  by_cases hlt:j<n
  ·obtain⟨e,he⟩: ∃e,l[j]? =some e:=⟨l[j]'(by rw[<-HN.o]; exact hlt),by simp⟩;obtain⟨b,o,dv,rfl,-,-,hdat,-,-,p0,p1,p2,p3,p4,p5⟩:=eY HV.o he;obtain⟨da,dc,hdv,-,-⟩:=bO.slice hdat
   subst hdv;have HE:=aa he;obtain⟨dn,hdn⟩: ∃d,d=e.data.length:=⟨_,rfl⟩;rw[<-hdn]at p4;have HDN:=aa hdn;clear he hdat p0 p1 p2 p3 p5 hdn
   by_cases hd:dn<=60
   ·have hd2: ¬60<(dn:Int):=by omega
    have HA2:=aa (show ∀e∈l.take (j+1),e.data.length<=60 from by
     rw[bS HE.o];intro x hx
     rcases List.mem_append.1 hx with hx | hx
     ·exact HALL.o x hx
     ·rw[List.mem_singleton]at hx;subst hx;rw[<-HDN.o]; exact hd)
    go_wp2_with fail
    go_roundw
    case rel=>exact⟨j+1,by omega,by go_num,HA2.o,trivial⟩
    case measure=>simp[intOf]; omega
   ·have hd2:60<(dn:Int):=by omega
    have HF:=aa (show mS l=false by
     unfold mS;rw[Bool.and_eq_false_iff]
     left
     rw[Bool.eq_false_iff];intro h;have:=List.all_eq_true.1 h e (List.mem_of_getElem? HE.o);rw[decide_eq_true_eq,<-HDN.o]at this;exact hd this)
    go_wp2_with fail;go_ret;exact⟨aD HF.o.symm,Below.refl _ _⟩
  ·obtain rfl:j=n:=by omega
   have HB:=aa (show mS l=decide ((j:Int)<=12) by
    unfold mS;have h1:l.all (fun e=>decide (e.data.length<=60))=true:=by
     rw[List.all_eq_true];intro x hx;rw[decide_eq_true_eq];exact HALL.o x (by rw[List.take_of_length_le (by rw[<-HN.o]; exact Nat.le_refl _)]; exact hx)
    rw[h1,Bool.true_and,<-HN.o]
    congr 1
    simp only[eq_iff_iff]
    omega)
   go_wp2_with fail;go_ret;exact⟨aD HB.o.symm,Below.refl _ _⟩
def JH (r:Except Int (aV×List bu)):aV×List bu×Int:=match r with
 | .error x=>(⟨⟨#[]⟩,0,0⟩,[],x)
 | .ok p=>(p.1,p.2,0)
theorem kO.flat {res:Except Int (aV×List bu)} {r:aV} {bs:List bu} {x:Int} {w w':World} {e:Ending} (h:kO res w e w') (he:JH res=(r,bs,x)):
  Below w.heap.size w w'/\ ∃a cap zs,e= .returned (.tuple #[bU r, .slice a bs.length cap, .int .i64 x])/\zs.map Prod.snd=bs/\dt w' w.heap.size (.slice a bs.length cap) zs/\bs.length<=cap/\cap<=maxLen:=by
 obtain⟨hb,h⟩:=h;refine⟨hb, ?_⟩
 cases res with
 | error y=>
  obtain⟨rfl,-⟩:=h
  cases he
  exact⟨none,0,[],rfl,rfl,⟨World.ownsRow_nil _ _ _ _,by simp⟩,Nat.le_refl _,Nat.zero_le _⟩
 | ok p=>
  obtain⟨v,zs,rfl,hz,ho⟩:=h
  cases he
  obtain⟨a,cap,rfl,h1,h2⟩:=ai ho.row;have hl:p.2.length=zs.length:=by rw[<-hz,List.length_map]
  rw[<-hl]at h1 ho;exact⟨a,cap,zs,by rw[hl],hz,ho,h1,h2⟩
theorem uc {w w':World} {base n cap:Nat} {a:Option Addr} {zs:List gS} {bs:List bu} (hz:zs.map Prod.snd=bs) (h:dt w base (.slice a n cap) zs) (hb:Below w.heap.size w w') {k:Nat} {b:bu} (hk:bs[k]? =some b):
  ∃bk o za zc,a=some ⟨bk,o,none⟩/\w'.cell? ⟨bk,o+k*4,none⟩=some (.string b.ref.name)/\w'.cell? ⟨bk,o+k*4+1,none⟩=some (.int .i64 b.ref.gen)/\w'.cell? ⟨bk,o+k*4+2,none⟩=some (.int .i64 b.ref.size)/\w'.cell? ⟨bk,o+k*4+3,none⟩=some (.slice za b.con.length zc)/\ar (fun _=>True) w' (.slice za b.con.length zc) b.con:=by
 rw[<-hz,List.getElem?_map,Option.map_eq_some_iff]at hk;obtain⟨z,hzk,rfl⟩:=hk;have h':=h.below hb;obtain⟨bk,o,rfl,-,hlt,hc⟩:=nj (aO h'.row) hzk;have hd:=aO (h'.dat z (List.mem_of_getElem? hzk));obtain⟨_,za,zc,hzv,-,-,-⟩:=id hd;have q0:=hc 0 (by omega);have q1:=hc 1 (by omega);have q2:=hc 2 (by omega);have q3:=hc 3 (by omega);simp only[iD,vN,Nat.add_zero]at q0 q1 q2 q3
 rw[hzv]at q3;exact⟨bk,o,za,zc,rfl,q0,q1,q2,q3,by rw[<-hzv]; exact hd.weak fun _ _=>trivial⟩
theorem Ey (k:bn) (c:cF) (tree:List bo) (gs:List (ByteArray×Int)) (tv gv:Value) (w:World) (he:my w) (hsd:c.seed<18446744073709551616) (ht:bV (fun _=>True) w tv tree) (hps: ∀e∈tree,e.path.size<=16777216) (hg:dO (fun _=>True) w gv gs):
  Calls Tryz.prog 5 #[dW k,dB c,tv,gv] w fun e w'=>e= .returned (.bool true)/\Below w.heap.size w w':=by
 have HE:=aa he;have HSD:=aa hsd;have HT:=aa ht.lts;have HG:=aa hg.lts;have HPS:=aa hps;obtain⟨W0,hW0⟩: ∃W0,W0=((w.alloc (.cells #[.string k.nm, .string k.st, .string k.ck, .string k.ix, .string k.tk] 42)).alloc (.cells #[.int .i64 c.mn, .int .i64 c.mx, .int .i64 c.win, .int .i64 c.bits, .int .u64 (c.seed:Int)] 45)):=⟨_,rfl⟩;have HB0:=aa (show Below w.heap.size w W0 by rw[hW0]; exact(bH).alloc (by simp) _)
 have HK0:=aa (show W0.heap[w.heap.size]? =some (.cells #[.string k.nm, .string k.st, .string k.ck, .string k.ix, .string k.tk] 42 (0,0)) by rw[hW0]; exact fD (bz w _) _);have HC0:=aa (show W0.heap[w.heap.size+1]? =some (.cells #[.int .i64 c.mn, .int .i64 c.mx, .int .i64 c.win, .int .i64 c.bits, .int .u64 (c.seed:Int)] 45 (0,0)) by rw[hW0]; exact jw w _ _);clear he hsd ht hps
 unfold dW dB
 go_enter Tryz.func5,Tryz.ntmps5
 go_wp2_with fail;rw[<-hW0];clear hW0;refine(vW _ (HE.o.below HB0.o)).mono ?_;rintro e w1 ⟨rfl,hb1⟩;have HB1:=aa (ab HB0.o hb1);have HK1:=aa (br hb1 HK0.o);have HC1:=aa (br hb1 HC0.o);clear hb1;go_wp2_with fail;obtain⟨sb,hsb⟩: ∃b,b=mS tree:=⟨_,rfl⟩;have hsm:=yi _ tree tv w1 (HT.o.keep (fun i hi=>HB1.o.block i hi));rw[<-hsb]at hsm;have HSB:=aa hsb
 refine hsm.mono ?_;rintro e w2 ⟨rfl,hb2⟩;have HB2:=aa (ab HB1.o hb2);have HK2:=aa (br hb2 HK1.o);have HC2:=aa (br hb2 HC1.o);clear hb2 hsm hsb
 cases sb
 ·go_wp2_with fail;go_ret;exact⟨rfl,HB2.o⟩
 ·obtain⟨gl,hlen⟩: ∃gl:Int,∀ty,(Builtin.len_ #[47] ty #[gv]).run Tryz.prog w2= .ok (.int .i64 gl) w2:=by
   rcases HG.o with⟨rfl,-⟩ | ⟨gb,rfl,hTg,hgm⟩
   ·exact⟨_,fun ty=>Maps.len_nil (P:=Tryz.prog) (w:=w2) (k:=9) (e:=3) Tryz.underlying47 ty⟩
   ·exact⟨_,fun ty=>dw.len (hgm.same (HB2.o.block gb hTg)) Tryz.underlying47 ty⟩
  by_cases hgl:gl<=20
  ·have hg2: ¬20<gl:=by omega
   obtain⟨a0,a1,a2,a3,a4,_⟩:=aj HK2.o;simp only[Nat.zero_add,Nat.reduceAdd]at a1 a2 a3 a4;obtain⟨b0,b1,b2,b3,b4,_⟩:=aj HC2.o;simp only[Nat.zero_add,Nat.reduceAdd]at b1 b2 b3 b4;obtain⟨⟨r,bs,x⟩,hout⟩: ∃p,JH (cj k c tree gs)=p:=⟨_,rfl⟩;have HO:=aa hout;have hbu:=og _ _ k c tree gs tv gv w2 HSD.o (HT.o.keep (fun i hi=>HB2.o.block i hi)) (HG.o.keep (fun i hi _=>HB2.o.block i hi)) (HE.o.below HB2.o)
   unfold dW dB at hbu;have HBU:=aa hbu;clear hbu hout;go_wp2_with fail;refine HBU.o.mono ?_;rintro e w3 hr;obtain⟨hb3,ba,bc,zs,rfl,hzs,hbo,hbc,hbm⟩:=hr.flat HO.o;unfold maxLen at hbm;have HB3:=aa (ab HB2.o hb3);have HK3:=aa (br hb3 HK2.o);have HC3:=aa (br hb3 HC2.o);have HZS:=aa hzs;have HBO:=aa hbo;unfold bU;clear hr hb3 hzs hbo HBU a0 a1 a2 a3 a4 b0 b1 b2 b3 b4 hlen
   go_upto_region 6 with(fail)
   obtain⟨W3,hW3⟩: ∃W3:World,W3=w3.alloc (.cells #[.string r.name, .int .i64 r.gen, .int .i64 r.size] 26):=⟨_,rfl⟩;have hbw:=show Below w3.heap.size w3 W3 by rw[hW3]; exact bH
   have HR3:=aa (show W3.heap[w3.heap.size]? =some (.cells #[.string r.name, .int .i64 r.gen, .int .i64 r.size] 26 (0,0)) by rw[hW3]; exact bz w3 _);have HBX3:=aa (ab HB3.o hbw);have HKX3:=aa (br hbw HK3.o);have HCX3:=aa (br hbw HC3.o);have HBO3:=aa (HBO.o.below hbw);rw[<-hW3];clear hW3 hbw HK3 HC3 HBO;obtain⟨a0,a1,a2,a3,a4,_⟩:=aj HKX3.o;simp only[Nat.zero_add,Nat.reduceAdd]at a1 a2 a3 a4
   obtain⟨b0,b1,b2,b3,b4,_⟩:=aj HCX3.o;simp only[Nat.zero_add,Nat.reduceAdd]at b1 b2 b3 b4;have hst:jt tree:=by
    have h1:=HSB.o;unfold mS at h1;rw[eq_comm,Bool.and_eq_true,decide_eq_true_eq,List.all_eq_true]at h1;exact⟨h1.2,fun e he=>by simpa using h1.1 e he⟩
   have hbu:=zZ k c tree gs tv gv W3 HSD.o (HT.o.keep (fun i hi=>HBX3.o.block i hi)).lts (HG.o.keep (fun i hi _=>HBX3.o.block i hi)).lts hst HPS.o;unfold dW dB at hbu;have HBU:=aa hbu;clear hbu hst;go_wp2_with fail;refine HBU.o.mono ?_;rintro e w4 hr;obtain⟨hb4,ca,cc,ys,rfl,hys,hco,hcc,hcm⟩:=hr.flat HO.o;unfold maxLen at hcm;have HB4:=aa (ab HBX3.o hb4);have HR4:=aa (br hb4 HR3.o)
   have HYS:=aa hys;have HBO4:=aa (HBO3.o.below hb4);have HCO4:=aa hco;unfold bU;clear hr hb4 hys hco HBU a0 a1 a2 a3 a4 b0 b1 b2 b3 b4 HBO3 HR3
   go_upto_region 7 with(fail)
   obtain⟨W4,hW4⟩: ∃W4:World,W4=w4.alloc (.cells #[.string r.name, .int .i64 r.gen, .int .i64 r.size] 26):=⟨_,rfl⟩;have hbw:=show Below w4.heap.size w4 W4 by rw[hW4]; exact bH
   have HS5:=aa (show W4.heap[w4.heap.size]? =some (.cells #[.string r.name, .int .i64 r.gen, .int .i64 r.size] 26 (0,0)) by rw[hW4]; exact bz w4 _);have HB5:=aa (ab HB4.o hbw);have HR5:=aa (br hbw HR4.o);have HBO5:=aa (HBO4.o.below hbw);have HCO5:=aa (HCO4.o.below hbw);rw[<-hW4];clear hW4 hbw HBO4 HCO4 HR4;obtain⟨p0,p1,p2,_⟩:=aj HR5.o;simp only[Nat.zero_add,Nat.reduceAdd]at p1 p2
   obtain⟨q0,q1,q2,_⟩:=aj HS5.o;simp only[Nat.zero_add,Nat.reduceAdd]at q1 q2;have heq:=Bi r r;unfold bU at heq;have e1:decide (r=r)=true:=by simp
   rw[e1]at heq;obtain⟨bl,hbl⟩: ∃l,l=bs.length:=⟨_,rfl⟩;have HBL:=aa hbl;rw[<-hbl]at hbc hcc HBO5 HCO5 ⊢;clear e1 hbl;go_wp2_with fail;clear p0 p1 p2 q0 q1 q2 heq
   go_loopw [15] (fun i wr=> ∃j:Nat,j<=bl/\i= .int .i64 (j:Int)/\Below W4.heap.size W4 wr) (fun i _=>bl-(intOf i).toNat)
   case atStart=>exact⟨0,Nat.zero_le _,rfl,Below.refl _ _⟩
   case round=>
    obtain⟨j,hj,rfl,hb⟩:=hrel;have HB:=aa hb;clear hb
    by_cases hlt:j<bl
    ·obtain⟨b,hbj⟩: ∃b,bs[j]? =some b:=⟨bs[j]'(by rw[<-HBL.o]; exact hlt),by simp⟩;obtain⟨b1,o1,z1,c1,rfl,p0,p1,p2,p3,hby⟩:=uc HZS.o HBO5.o HB.o hbj;obtain⟨b2,o2,z2,c2,rfl,q0,q1,q2,q3,hcy⟩:=uc HYS.o HCO5.o HB.o hbj;obtain⟨rf,hrf⟩: ∃r,r=b.ref:=⟨_,rfl⟩;obtain⟨x,hx⟩: ∃x,x=b.con:=⟨_,rfl⟩;rw[<-hrf]at p0 p1 p2 q0 q1 q2;rw[<-hx]at p3 q3 hby hcy
     have hc1:=fun n=>dg (S:=fun _=>True) (w:=wr.drewN n) (aL.below hby (by omega) (lp wr n))
     have hc2:=fun n=>dg (S:=fun _=>True) (w:=wr.drewN n) (aL.below hcy (by omega) (lp wr n))
     have heq:=Bi rf rf;unfold bU at heq;have e1:decide (rf=rf)=true:=by simp
     rw[e1]at heq;obtain⟨xs,hxs⟩: ∃s:ByteArray,s=⟨x.toArray⟩:=⟨_,rfl⟩;rw[<-hxs]at hc1 hc2;clear e1 hby hcy hrf hx hxs hbj;go_wp2_with fail
     go_quiet (fail)
     obtain⟨W6,hW6⟩: ∃W,W=wr.drewN nq:=⟨_,rfl⟩;rw[<-hW6];have hb6:Below wr.heap.size wr W6:=by rw[hW6]; exact lp wr nq
     clear hW6
     trace_state
     go_wp2_with fail
     go_roundw
     case rel=>exact⟨j+1,by omega,by go_num,HB.o.trans (hb6.mono HB.o.size)⟩
     case measure=>simp[intOf]; omega
    ·obtain rfl:j=bl:=by omega
     go_wp2_with fail;go_ret;exact⟨rfl,HB5.o.trans (HB.o.mono HB5.o.size)⟩
  ·have hg2:20<gl:=by omega
   go_wp2_with fail;go_ret;exact⟨rfl,HB2.o⟩
end Go.Proofs.YtpffpjbkbaleiaaGreatDoor
namespace Go.Proofs.YtpffpjbkbaleiaaGreatDoor
open Go.ChangeShapes Go.WideShapes Go.ChangeAt Go.RowKit Go.Lib Go.Shelf
open Go.ChangeMaps (open_string shut_string)
section
variable {H : Type} {enc : TypeId × Value → H}
end
def ID :List (String×DataW Unit):=[("math/bits.deBruijn64tab",Rows.laid_math_bits_deBruijn64tab),("kinkeep/sha256.initial",Rows.laid_kinkeep_sha256_initial),("kinkeep/sha256.constants",Rows.laid_kinkeep_sha256_constants),("kinkeep/hmac.pads",Rows.laid_kinkeep_hmac_pads),("unicode/utf8.acceptRanges",Rows.laid_unicode_utf8_acceptRanges),("unicode/utf8.first",Rows.laid_unicode_utf8_first)]
theorem own :ownKnob Tryz.prog.godebug=none:=by kernel_rfl
theorem BV :(Rows.laid_unicode_utf8_acceptRanges:DataW Unit)=acceptData:=by kernel_rfl
theorem Ce :(Rows.laid_math_bits_deBruijn64tab:DataW Unit)=tabData .u8 (Lib.deBruijn64tab.map fun(n:Nat)=>(n:Int)):=by kernel_rfl
theorem zq :(Rows.laid_kinkeep_sha256_initial:DataW Unit)=tabData .u32 (kA.list.map fun(n:Nat)=>(n:Int)):=by kernel_rfl
theorem vf :(Rows.laid_kinkeep_sha256_constants:DataW Unit)=tabData .u32 (kc.map fun(n:Nat)=>(n:Int)):=by kernel_rfl
theorem Ie :(Rows.laid_kinkeep_hmac_pads:DataW Unit)=tabData .u8 [54,92]:=by kernel_rfl
theorem lV {P:Program} {w:World} {n:String} {k:IntKind} {zs:List Int} {g:Nat} {t e:TypeId} {N:Nat} (hg:P.globalNamed n=some g) (hty:(P.globals[g]?).map (·.type)=some t)
  (ht:P.underlying t=some (.array N e)) (he:P.underlying e=some (.int k)) (hce:P.cellsOf e=1) (hct:P.cellsOf t=N) (h:VarReads P w n (tabData k zs)) (j:Nat):w.cell? ⟨g,j,none⟩=(zs.map fun z=>Value.int k z)[j]? :=by
 obtain⟨g',t',cs,fuel,p,hg',hty',hvar,hd⟩:=h;obtain rfl:=Option.some.inj (hg.symm.trans hg');obtain rfl:=Option.some.inj (hty.symm.trans hty');rw[World.var?_cell hg hvar j,<-Array.getElem?_toList,cells_of_tab ht he hce hct hd]
theorem pO {w:World} {b k:Nat} {v:Value} (h:w.cell? ⟨b,k,none⟩=some v):b<w.heap.size:=by
 by_cases hb:b<w.heap.size
 ·exact hb
 ·exfalso
  have:w.heap[b]? =none:=Array.getElem?_eq_none (by omega);simp[World.cell?,this]at h
theorem IZ {W:World} (hL:laidMetH Tryz.prog ID W) (hsh:W.ShapedOpen Tryz.prog):my W:=by
 rw[MakeChecks.laidMetH_plain _ _ _ (by kernel_rfl)]at hL;have h1:=Lib.laidMet.reads hL (.head _);have h2:=Lib.laidMet.reads hL (.tail _ (.head _));have h3:=Lib.laidMet.reads hL (.tail _ (.tail _ (.head _)));have h4:=Lib.laidMet.reads hL (.tail _ (.tail _ (.tail _ (.head _))));have h5:=Lib.laidMet.reads hL (.tail _ (.tail _ (.tail _ (.tail _ (.head _)))));have h6:=Lib.laidMet.reads hL (.tail _ (.tail _ (.tail _ (.tail _ (.tail _ (.head _))))))
 rw[Ce]at h1;rw[zq]at h2;rw[vf]at h3;rw[Ie]at h4;rw[BV]at h5;have c1:=lV (g:=6) (t:=213) (e:=5) (N:=64) (by kernel_rfl) (by kernel_rfl) (by kernel_rfl) (by kernel_rfl) (by kernel_rfl) (by kernel_rfl) h1;have c2:=lV (g:=2) (t:=216) (e:=215) (N:=8) (by kernel_rfl) (by kernel_rfl) (by kernel_rfl) (by kernel_rfl) (by kernel_rfl) (by kernel_rfl) h2
 have c3:=lV (g:=5) (t:=252) (e:=215) (N:=64) (by kernel_rfl) (by kernel_rfl) (by kernel_rfl) (by kernel_rfl) (by kernel_rfl) (by kernel_rfl) h3;have c4:=lV (g:=0) (t:=221) (e:=5) (N:=2) (by kernel_rfl) (by kernel_rfl) (by kernel_rfl) (by kernel_rfl) (by kernel_rfl) (by kernel_rfl) h4;have hp0:W.cell? ⟨0,0,none⟩=some (.int .u8 54):=c4 0;have hp1:W.cell? ⟨0,1,none⟩=some (.int .u8 92):=c4 1
 have hI:js W:=fun j x hj=>by
  rw[c2 j];simp[hj,bY]
 have hK:gj W:=fun j x hj=>by
  rw[c3 j];simp[hj,bY]
 have hD:TabAt 6 Lib.deBruijn64tab W:=fun j hj=>by
  rw[c1 j];simp[hj]
 have hi0:=hI 0 0x6a09e667 rfl;have hk0:=hK 0 0x428a2f98 rfl;have hd0:=hD 0 (by decide);refine⟨⟨?_, ?_⟩,⟨hI,hK,⟨hp0,hp1⟩,pO hi0,pO hk0,pO hp0⟩,⟨hD,pO hd0⟩⟩
 ·exact cell_of_shapedOpen_int (zero:= #[.int .i64 0]) (t:=3) hsh (of_decide_eq_true (by kernel_rfl)) (by kernel_rfl) rfl (by kernel_rfl) (by kernel_rfl) Tryz.underlying3
 ·exact utf8Tabs_of_readsT (U8Types.of196 Tryz.laysValid) ⟨by kernel_rfl,by kernel_rfl,by kernel_rfl,by kernel_rfl,by kernel_rfl,by kernel_rfl,by kernel_rfl⟩ (Pinned.utf8First_eq▸h6) h5
end Go.Proofs.YtpffpjbkbaleiaaGreatDoor
namespace Go.Proofs.YtpffpjbkbaleiaaGreatDoor
open Go Go.RowKit Go.Maps Go.MapKept
theorem bW.len {S:Nat->Prop} {w:World} : ∀ {m:List (Value×Value)} {cs:List (ByteArray×List UInt8)},bW S w m cs->m.length=cs.length
 | [],[],_=>rfl
 | [],_::_,h=>False.elim h
 | _::_,[],h=>False.elim h
 | (_,_)::_,(_,_)::_,h=>by simp[bW.len h.2.2]
theorem bW.vals {S:Nat->Prop} {w:World} : ∀ {m:List (Value×Value)} {cs:List (ByteArray×List UInt8)},bW S w m cs-> ∀p∈m,∃n bs,p.1= .string n/\ar S w p.2 bs
 | [],[],_,_,hp=>by simp at hp
 | [],_::_,h,_,_=>False.elim h
 | _::_,[],h,_,_=>False.elim h
 | (k,v)::m,(n,bs)::cs,h,p,hp=>by
  rcases List.mem_cons.1 hp with rfl | hp
  ·exact⟨n,bs,h.1,h.2.1⟩
  ·exact bW.vals h.2.2 p hp
end Go.Proofs.YtpffpjbkbaleiaaGreatDoor
namespace Go.Proofs.YtpffpjbkbaleiaaGreatDoor
open Go.ChangeShapes Go.WideShapes Go.ChangeAt Go.RowKit Go.Lib Go.Shelf
section
variable {H : Type} {enc : TypeId × Value → H} {P : Program} {W : World} {base : Nat}
theorem GD (a:Addr) (i j:Nat):(a.add i).add j=a.add (i+j):=by
 unfold Addr.add
 by_cases hi:i=0
 ·simp[hi]
 ·by_cases hj:j=0
  ·simp[hi,hj]
  ·simp[hi,hj]; omega
end
section
variable {H : Type} {enc : TypeId × Value → H} {W : World} {base b0 : Nat} {spare : Nat → Bool} {held : Bool} {v : Value} {d : DataW H} {ps : List MemPlace}
theorem cP {P:Program} {t:TypeId} {fs:Array Field} {fuel:Nat} {cs:List Value} {x:DataW H×List MemPlace} (ht:P.underlying t=some (.struct fs)) (h:DataW.trod enc P W base spare held fuel t cs=some x) (i:Nat) {f:Field} (hf:fs[i]? =some f):
  ∃n y,DataW.trod enc P W base spare held n f.type ((cs.drop f.offset).take (P.cellsOf f.type))=some y:=by
 obtain⟨xs,n,_,_,_,hlen,hF⟩:=DataW.trod_struct ht h;have hi:i<xs.length:=by rw[hlen]; exact(Array.getElem?_eq_some_iff.1 hf).1
 exact⟨n,xs[i],by rw[hF i f hf]; simp[hi]⟩
theorem mV {P:Program} {t:TypeId} {fs:Array Field} {fuel:Nat} {cs:List Value} {x:DataW H×List MemPlace} (ht:P.underlying t=some (.struct fs)) (h:DataW.trod enc P W base spare held fuel t cs=some x):cs.length=P.cellsOf t:=by
 obtain⟨xs,n,_,_,hl,_,_⟩:=DataW.trod_struct ht h;exact hl
theorem wt :Tryz.prog.cellsOf 9=1:=by kernel_rfl
theorem wm :Tryz.prog.cellsOf 3=1:=by kernel_rfl
theorem GJ :Tryz.prog.cellsOf 5=1:=by kernel_rfl
theorem Ci :Tryz.prog.cellsOf 29=1:=by kernel_rfl
theorem wl :Tryz.prog.cellsOf 79=6:=by kernel_rfl
theorem Jz {α:Type} {cs:List α} (h:cs.length=6): ∃c0 c1 c2 c3 c4 c5,cs=[c0,c1,c2,c3,c4,c5]:=by
 match cs,h with
 | [c0,c1,c2,c3,c4,c5],_=>exact⟨c0,c1,c2,c3,c4,c5,rfl⟩
def vO (c:List Value) (b:UInt8):Prop:=c=[ak b]
theorem Dk {n:Nat} {cs:List Value} {y:DataW H×List MemPlace} (h:DataW.trod enc Tryz.prog W base spare held n 5 cs=some y): ∃b,vO cs b:=by
 obtain⟨a,e,_,hw⟩:=DataW.trod_int Tryz.underlying5 h;have h1:0<=a/\a<=255:=by
  simp only[Lit.wf,Bool.and_eq_true,decide_eq_true_eq]at hw;exact⟨hw.1,hw.2⟩
 refine⟨UInt8.ofNat a.toNat, ?_⟩;unfold vO;rw[gp (by omega),e,Int.toNat_of_nonneg h1.1]
theorem uW {S:Nat->Prop} {w:World} {v:Value} {bs:List UInt8} (h:aU S w 1 vO v bs):ar S w v bs:=by
 obtain⟨cells,h1,h2⟩:=h;have: ∀(bs:List UInt8) (cells:List Value),bR vO cells bs->cells=bs.map ak:=by
  intro bs
  induction bs with
  | nil=>intro cells h; exact h
  | cons x bs ih=>
   rintro cells ⟨c,rest,rfl,hc,hr⟩;rw[ih rest hr,show c=[ak x]from hc]; rfl
 rw[this bs cells h2]at h1;exact h1
theorem Es {v:Value} {l:List Value} (h:v.cells.toList=l) (hl:1<l.length):v= .agg l.toArray:=by
 cases v
 case agg cs=>simp only[Value.cells]at h; rw[<-h]
 all_goals (exfalso; simp only[Value.cells]at h; rw[<-h]at hl; simp at hl)
theorem yY {S:Nat->Prop} {w:World} {v:Value} {bs:List UInt8} (h:ar S w v bs):bO S w v bs:=h
end
section
variable {H : Type} {enc : TypeId × Value → H}
theorem JT {C:Checked} {os:Os} {f:FuncId} {fn:Func} {s:OpenSpec} {conds:List PathCond} {apart:Bool} {laid:List (String×DataW Unit)} (modest:Bool) (w0:World) (args:Array Value) (fuel:Nat) (hos:w0.os=os)
  (hsh:(w0.forCall (fun _ _=>0) ⟨#[],args,[]⟩).Shaped C.prog)
  (hok:Input.okWideB C.prog (w0.forCall (fun _ _=>0) ⟨#[],args,[]⟩) f ⟨#[],args,[]⟩=true)
  (hs:(DataW.whole enc C.prog (w0.forCall (fun _ _=>0) ⟨#[],args,[]⟩).memory fn.params.toList s.vars apart args.toList fuel).isSome=true)
  (hconds:conds.all (PathCond.test C.prog ⟨fn.params.toList,(Option.get _ hs).1,s.bare.plain.varTypes C.prog,(Option.get _ hs).2.1⟩)=true) (hkk: ∀k,s.cond=some k->k H ((Option.get _ hs).1++(Option.get _ hs).2.1)=true)
  (hsz:s.bare.sizedB enc C.prog fn apart (w0.forCall (fun _ _=>0) ⟨#[],args,[]⟩).memory args fuel=true) (hl:laidMetH C.prog laid (w0.forCall (fun _ _=>0) ⟨#[],args,[]⟩).memory):
  ∃(w:World) (tape:Tape) (i:Input),w.os=os/\(w.forCall tape i).Shaped C.prog/\i.vars=[]/\Input.okWide C.prog (w.forCall tape i) .any w.heap.size f i/\
   s.preRow enc C.prog fn conds apart laid (w.forCall tape i).memory i.args/\({modest:=modest} :Assume).holds C.prog (lone (Frame.enter C.prog f i.args .normal) [] (w.forCall tape i)):=
 ⟨w0,fun _ _=>0,⟨#[],args,[]⟩,hos,hsh,(Input.okWide_of_okWideB (base:=0) hok).1,(Input.okWide_of_okWideB hok).2,OpenSpec.preRow_of_cond fuel (Option.some_get hs).symm hconds hkk hsz hl,by
  simp only[Assume.holds];exact⟨by simp,by simp,fun _=>Modest.zero,by simp,by simp⟩⟩
end
theorem oh {H:Type} {d:DataW H} {l:List (DataW H)} (h:d∈l):Rows.uptoBulk d<=Rows.uptoBulkAll l:=by
 induction l with
 | nil=>cases h
 | cons x r ih=>
  simp only[Rows.uptoBulkAll]
  cases List.mem_cons.1 h with
  | inl e=>subst e; omega
  | inr e=>have:=ih e; omega
theorem yR {H:Type} {l:List (DataW H)} (hk:Rows.uptoSmall H l=true):Rows.uptoBulkAll l<=1048576:=of_decide_eq_true hk
section
variable {H : Type} {enc : TypeId × Value → H} {P : Program} {W : World} {base b0 : Nat} {spare : Nat → Bool} {held : Bool} {v : Value} {d : DataW H} {ps : List MemPlace}
def vR (d:DataW H):Prop:=Rows.uptoBulk d<=1048576
theorem EB (d:DataW H):1<=Rows.uptoBulk d:=by
 cases d
 case lit l=>cases l<;> simp[Rows.uptoBulk]
 all_goals simp[Rows.uptoBulk]
theorem wg : ∀(l:List (DataW H)),l.length<=Rows.uptoBulkAll l
 | []=>by simp[Rows.uptoBulkAll]
 | d::l=>by
  have h1:=wg l;have h2:=EB d;simp only[Rows.uptoBulkAll,List.length_cons]; omega
theorem EV {l:List (DataW H)} (h:Rows.uptoSmall H l=true) {d:DataW H} (hd:d∈l):vR d:=Nat.le_trans (oh hd) (yR h)
theorem DJ {es rest:List (DataW H)} (h:vR (.slice es rest)):es.length<=1048576/\ ∀d∈es,vR d:=by
 unfold vR at h;simp only[Rows.uptoBulk]at h;have h1:=wg es;refine⟨by omega,fun d hd=> ?_⟩;have:=oh hd;unfold vR; omega
theorem GF {ds:List (DataW H)} (h:vR (.agg ds)): ∀d∈ds,vR d:=fun d hd=>by
 unfold vR at h;simp only[Rows.uptoBulk]at h;have:=oh hd;unfold vR; omega
theorem tB {P:Program} {t:TypeId} {fs:Array Field} {fuel:Nat} {cs:List Value} {x:DataW H×List MemPlace} (ht:P.underlying t=some (.struct fs)) (h:DataW.trod enc P W base spare held fuel t cs=some x) (hL:vR x.1) (i:Nat) {f:Field} (hf:fs[i]? =some f):
  ∃n y,DataW.trod enc P W base spare held n f.type ((cs.drop f.offset).take (P.cellsOf f.type))=some y/\vR y.1:=by
 obtain⟨xs,n,_,hx,_,hlen,hF⟩:=DataW.trod_struct ht h;have hi:i<xs.length:=by rw[hlen]; exact(Array.getElem?_eq_some_iff.1 hf).1
 refine⟨n,xs[i],by rw[hF i f hf]; simp[hi], ?_⟩;rw[hx]at hL;exact GF hL _ (List.mem_map.2 ⟨_,List.getElem_mem hi,rfl⟩)
theorem BN {α:Type} {P:Program} {R:List Value->α->Prop} {t e:TypeId} {sz:Nat} {fuel:Nat} {cs0:List Value} {y0:DataW H×List MemPlace} (ht:P.underlying t=some (.slice e)) (hc:P.cellsOf e=sz) (hpos:0<sz)
  (hR: ∀n cs y,DataW.trod enc P W base spare held n e cs=some y->vR y.1-> ∃x,R cs x) (hs: ∀c x,R c x->c.length=sz)
  (hf:DataW.trod enc P W base spare held fuel t cs0=some y0) (hL:vR y0.1): ∃v,cs0=[v]/\ ∃xs:List α,aU (fun _=>True) W sz R v xs/\xs.length<=1048576:=by
 rcases DataW.trod_slice ht hf with⟨hcs,_⟩ | ⟨a,len0,cap0,elems,rest,n,_,hcs,hy0,hb,hl,hm,hlen,hel,_,_⟩
 ·exact⟨_,hcs,[],aU.nil,by simp⟩
 ·refine⟨_,hcs, ?_⟩;rw[hc]at hel;rw[hy0]at hL;obtain⟨hL1,hL2⟩:=DJ hL;rw[List.length_map,hlen]at hL1;have each: ∀i,i<len0-> ∃cs x,R cs x/\cs.length=sz/\ ∀j,j<sz->W.cell? (a.add (i*sz+j))=cs[j]? :=by
   intro i hi;have h1:=hel i hi;rw[List.getElem?_eq_getElem (by omega),Option.bind_eq_some_iff]at h1;obtain⟨cs,hcs,hy⟩:=h1;obtain⟨x,hx⟩:=hR n cs _ hy (hL2 _ (List.mem_map.2 ⟨_,List.getElem_mem (by omega),rfl⟩));refine⟨cs,x,hx,hs cs x hx,fun j hj=> ?_⟩;have h3:=World.cells?_some hcs;rw[<-GD];exact h3.2.2 j hj
  have main: ∀m,m<=len0-> ∃(cells:List Value) (xs:List α),xs.length=m/\cells.length=m*sz/\bR R cells xs/\ ∀(j:Nat) u,cells[j]? =some u->W.cell? (a.add j)=some u:=by
   intro m
   induction m with
   | zero=>intro _; exact⟨[],[],rfl,by simp,rfl,fun j u hj=>by simp at hj⟩
   | succ m ih=>
    intro hm;obtain⟨cells,xs,h1,h2,h3,h4⟩:=ih (by omega);obtain⟨cs,x,hx,hcl,hcc⟩:=each m (by omega);refine⟨cells++cs,xs++[x],by simp[h1],by rw[List.length_append,h2,hcl,Nat.add_mul]; omega,bR.snoc h3 hx,fun j u hj=> ?_⟩
    rcases Nat.lt_or_ge j cells.length with hj2 | hj2
    ·rw[List.getElem?_append_left hj2]at hj; exact h4 j u hj
    ·rw[List.getElem?_append_right hj2]at hj;have hlt:=(List.getElem?_eq_some_iff.1 hj).1;have:=hcc (j-cells.length) (by omega);rw[h2,show m*sz+(j-m*sz)=j by omega]at this;rw[this,<-h2]; exact hj
  obtain⟨cells,xs,h1,h2,h3,h4⟩:=main len0 (Nat.le_refl _);subst h1;refine⟨xs,⟨cells,⟨h2,some a,cap0,rfl,hl,hm, ?_⟩,h3⟩,hL1⟩
  rcases Nat.eq_zero_or_pos xs.length with h0 | h0
  ·exact .inl h0
  ·right
   have hpl:0<cells.length:=by rw[h2]; exact Nat.mul_pos h0 hpos
   have hc0:=h4 0 cells[0] (by simp[hpl]);have hsp:a.spot=none:=by simpa [Addr.add]using World.cell?_spot hc0
   obtain⟨b,o,sp⟩:=a;simp only at hsp;subst hsp;refine⟨b,o,rfl,trivial,fun j u hj=> ?_⟩;have:=h4 j u hj;rw[pN]at this; exact this
end
section
variable {H : Type} {enc : TypeId × Value → H} {W : World} {base b0 : Nat} {spare : Nat → Bool} {held : Bool} {v : Value} {d : DataW H} {ps : List MemPlace}
theorem Ar {n:Nat} {t:TypeId} {cs:List Value} {x:DataW H×List MemPlace} {P:Program} (ht:P.underlying t=some .string) (h:DataW.trod enc P W base spare held n t cs=some x) (hL:vR x.1): ∃s:ByteArray,cs=[.string s]/\s.size<=maxLen/\s.size<=1048576:=by
 obtain⟨s,e,hx,hw⟩:=DataW.trod_string ht h;refine⟨s,e,hw, ?_⟩;rw[hx]at hL;unfold vR at hL;simp only[Rows.uptoBulk]at hL;have h4:s.data.toList.length=s.size:=rfl;omega
theorem EE :Tryz.prog.cellsOf 43=1:=by kernel_rfl
theorem ED :Tryz.prog.cellsOf 45=5:=by kernel_rfl
theorem IE {α:Type} {cs:List α} (h:cs.length=5): ∃c0 c1 c2 c3 c4,cs=[c0,c1,c2,c3,c4]:=by
 match cs,h with
 | [c0,c1,c2,c3,c4],_=>exact⟨c0,c1,c2,c3,c4,rfl⟩
theorem xZ {α:Type} {R:List Value->α->Prop} {X:α->Prop} : ∀ {xs:List α} {cells:List Value},bR (fun c x=>R c x/\X x) cells xs->bR R cells xs/\ ∀x∈xs,X x
 | [],_,h=>⟨h,by simp⟩
 | x::xs,_,⟨c,rest,e,hx,hr⟩=>by
  obtain⟨h1,h2⟩:=xZ hr;refine⟨⟨c,rest,e,hx.1,h1⟩,fun y hy=> ?_⟩
  rcases List.mem_cons.1 hy with rfl | hy
  ·exact hx.2
  ·exact h2 y hy
theorem Dm {n:Nat} {cs:List Value} {y:DataW H×List MemPlace} (h:DataW.trod enc Tryz.prog W base spare held n 79 cs=some y) (hL:vR y.1): ∃e,jr (fun _=>True) W cs e/\e.path.size<=1048576/\e.data.length<=1048576:=by
 have hl:=mV Tryz.underlying79 h;rw[wl]at hl;obtain⟨c0,c1,c2,c3,c4,c5,rfl⟩:=Jz hl;obtain⟨n0,y0,h0,hL0⟩:=tB Tryz.underlying79 h hL 0 rfl;obtain⟨n1,y1,h1⟩:=cP Tryz.underlying79 h 1 rfl;obtain⟨n2,y2,h2⟩:=cP Tryz.underlying79 h 2 rfl;obtain⟨n3,y3,h3⟩:=cP Tryz.underlying79 h 3 rfl;obtain⟨n4,y4,h4,hL4⟩:=tB Tryz.underlying79 h hL 4 rfl
 obtain⟨n5,y5,h5⟩:=cP Tryz.underlying79 h 5 rfl;simp only[List.getElem_toArray,List.getElem_cons_zero,List.getElem_cons_succ,wt,wm,Ci]at h0 h1 h2 h3 h4 h5;obtain⟨a0,e0,g0,k0⟩:=Ar Tryz.underlying9 h0 hL0;obtain⟨a1,e1,_,g1⟩:=DataW.trod_int Tryz.underlying3 h1;obtain⟨a2,e2,_,g2⟩:=DataW.trod_int Tryz.underlying3 h2;obtain⟨a3,e3,_,g3⟩:=DataW.trod_int Tryz.underlying3 h3
 obtain⟨a4,e4,bs,g4,gb⟩:=BN (R:=vO) Tryz.underlying29 GJ (by omega) (fun n cs y hy _=>Dk hy) (fun c x hc=>by rw[show c=[ak x]from hc]; rfl) h4 hL4;obtain⟨a5,e5,_,g5⟩:=DataW.trod_string Tryz.underlying9 h5;simp at e0 e1 e2 e3 e4 e5;subst e0 e1 e2 e3 e4 e5;exact⟨⟨a0,a1,a2,a3,bs,a5⟩,⟨_,rfl,yY (uW g4),⟨g0,g5,g1,g2,g3⟩⟩,k0,gb⟩
theorem Fs (h:DataW.Trod enc Tryz.prog W base spare held 45 v d ps): ∃c:cF,v=dB c/\c.seed<18446744073709551616:=by
 obtain⟨fuel,h⟩:=h;have hl:=mV Tryz.underlying45 h;rw[ED]at hl;obtain⟨c0,c1,c2,c3,c4,hcs⟩:=IE hl;rw[hcs]at h;obtain⟨n0,y0,h0⟩:=cP Tryz.underlying45 h 0 rfl;obtain⟨n1,y1,h1⟩:=cP Tryz.underlying45 h 1 rfl;obtain⟨n2,y2,h2⟩:=cP Tryz.underlying45 h 2 rfl;obtain⟨n3,y3,h3⟩:=cP Tryz.underlying45 h 3 rfl;obtain⟨n4,y4,h4⟩:=cP Tryz.underlying45 h 4 rfl
 simp only[List.getElem_toArray,List.getElem_cons_zero,List.getElem_cons_succ,wm,EE]at h0 h1 h2 h3 h4;obtain⟨a0,e0,_,g0⟩:=DataW.trod_int Tryz.underlying3 h0;obtain⟨a1,e1,_,g1⟩:=DataW.trod_int Tryz.underlying3 h1;obtain⟨a2,e2,_,g2⟩:=DataW.trod_int Tryz.underlying3 h2;obtain⟨a3,e3,_,g3⟩:=DataW.trod_int Tryz.underlying3 h3;obtain⟨a4,e4,_,g4⟩:=DataW.trod_int Tryz.underlying43 h4
 simp at e0 e1 e2 e3 e4;subst e0 e1 e2 e3 e4;have hs:0<=a4/\a4<=18446744073709551615:=by
  simp only[Lit.wf,Bool.and_eq_true,decide_eq_true_eq]at g4;exact⟨g4.1,g4.2⟩
 refine⟨⟨a0,a1,a2,a3,a4.toNat⟩, ?_,by show a4.toNat<_; omega⟩;rw[Es hcs (by simp)];unfold dB;rw[show((a4.toNat:Nat):Int)=a4 from Int.toNat_of_nonneg hs.1]
theorem uX :Tryz.prog.cellsOf 42=5:=by kernel_rfl
theorem CY (h:DataW.Trod enc Tryz.prog W base spare held 42 v d ps): ∃k:bn,v=dW k:=by
 obtain⟨fuel,hf⟩:=h;have hl:=mV Tryz.underlying42 hf;rw[uX]at hl;obtain⟨c0,c1,c2,c3,c4,hcs⟩:=IE hl;rw[hcs]at hf;obtain⟨n0,y0,h0⟩:=cP Tryz.underlying42 hf 0 rfl;obtain⟨n1,y1,h1⟩:=cP Tryz.underlying42 hf 1 rfl;obtain⟨n2,y2,h2⟩:=cP Tryz.underlying42 hf 2 rfl;obtain⟨n3,y3,h3⟩:=cP Tryz.underlying42 hf 3 rfl;obtain⟨n4,y4,h4⟩:=cP Tryz.underlying42 hf 4 rfl
 simp only[List.getElem_toArray,List.getElem_cons_zero,List.getElem_cons_succ,wt]at h0 h1 h2 h3 h4;obtain⟨a0,e0,_,_⟩:=DataW.trod_string Tryz.underlying9 h0;obtain⟨a1,e1,_,_⟩:=DataW.trod_string Tryz.underlying9 h1;obtain⟨a2,e2,_,_⟩:=DataW.trod_string Tryz.underlying9 h2;obtain⟨a3,e3,_,_⟩:=DataW.trod_string Tryz.underlying9 h3;obtain⟨a4,e4,_,_⟩:=DataW.trod_string Tryz.underlying9 h4
 simp at e0 e1 e2 e3 e4;subst e0 e1 e2 e3 e4;exact⟨⟨a0,a1,a2,a3,a4⟩,Es hcs (by simp)⟩
theorem zO (hval:Value.okWide Tryz.prog W .any b0 46 v) (h:DataW.Trod enc Tryz.prog W base spare held 46 v d ps) (hL:vR d): ∃xs,bV (fun _=>True) W v xs/\ ∀e∈xs,e.path.size<=1048576/\e.data.length<=1048576:=by
 obtain⟨a0,len0,cap0,rfl⟩:=okWide_slice Tryz.underlying46 hval;obtain⟨fuel,hf⟩:=h;obtain⟨v,h1,xs,⟨cells,h2,h3⟩,_⟩:=BN (R:=fun c e=>jr (fun _=>True) W c e/\e.path.size<=1048576/\e.data.length<=1048576) Tryz.underlying46 wl (by omega) (fun n cs y hy hy2=>Dm hy hy2) (fun c x hx=>jr.len c x hx.1) hf hL;simp[Value.cells]at h1;subst h1;obtain⟨h4,h5⟩:=xZ h3
 exact⟨xs,⟨cells,h2,h4⟩,h5⟩
theorem Bl {n:Nat} {sp:Nat->Bool} : ∀ {es:List MapEntry},(∀x∈es,∃y,WideElems.rd Tryz.prog 9 (WideElems.elemAt enc Tryz.prog W base sp held n 3) x=some y)-> ∃gs:List (ByteArray×Int),es.map (fun e=>(e.key,e.val))=gs.map mH
 | [],_=>⟨[],rfl⟩
 | x::es,h=>by
  obtain⟨gs,hgs⟩:=Bl (es:=es) (fun y hy=>h y (by simp[hy]));obtain⟨y,hy⟩:=h x (by simp);have hk:=WideElems.rd_key hy;obtain⟨z,hz,_⟩:=WideElems.rd_val hy;have hkey: ∃s,x.key= .string s:=by
   cases hx:x.key<;> rw[hx]at hk<;> simp[keyOf,Tryz.underlying9,mapKey]at hk
   exact⟨_,rfl⟩
  obtain⟨s,hs⟩:=hkey;unfold WideElems.elemAt at hz
  split at hz
  ·rename_i hfm;obtain⟨a,h1,_,_⟩:=DataW.trod_int Tryz.underlying3 hz;have hv:x.val= .int .i64 a:=by
    cases hxv:x.val<;> rw[hxv]at h1 hfm<;> simp_all [Value.cells,Value.formed,Tryz.underlying3]
   exact⟨(s,a)::gs,by rw[List.map_cons,List.map_cons,hgs,hs,hv]; rfl⟩
  ·cases hz
theorem CX (hval:Value.okWide Tryz.prog W .any b0 47 v) (h:DataW.Trod enc Tryz.prog W base spare held 47 v d ps): ∃gs,dO (fun _=>True) W v gs:=by
 obtain⟨a,rfl⟩:=okWide_map Tryz.underlying47 hval;obtain⟨fuel,hf⟩:=h
 rcases WideElems.open_map Tryz.underlying47 hf with⟨hcs,_⟩ | ⟨b,es,clock,n,_,hcs,hb,_,hF,_⟩
 ·simp[Value.cells]at hcs;subst hcs;exact⟨[], .inl ⟨rfl,rfl⟩⟩
 ·simp[Value.cells]at hcs;subst hcs;obtain⟨gs,hgs⟩:=Bl hF.reads;refine⟨gs, .inr ⟨b,rfl,trivial,es,clock,hb,hgs,hF.stamped,fun p hp=> ?_⟩⟩;rw[<-hgs]at hp;obtain⟨x,hx,rfl⟩:=List.mem_map.1 hp;obtain⟨y,hy⟩:=hF.reads x hx;exact⟨y.1,WideElems.rd_key hy⟩
end
end Go.Proofs.YtpffpjbkbaleiaaGreatDoor
