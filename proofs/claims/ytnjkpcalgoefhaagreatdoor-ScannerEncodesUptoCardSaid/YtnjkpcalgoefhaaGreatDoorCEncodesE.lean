/- Texts of this proof, one after the other: ScnO, RNumP, Codec, IdxP, DecA, PatA, PatB, PatC, PatD, PatE, PatF. -/
import Derived.Test.YtnjkpcalgoefhaaGreatDoorCEncodesD
set_option maxRecDepth 100000
set_option maxHeartbeats 8000000
namespace Go.Proofs.YtnjkpcalgoefhaaGreatDoor
open Go Go.RowKit Go.Maps
theorem Tryz.appFiles :cY Tryz.prog 22 27 7 88:=cY.mk' (z:=mP) Tryz.underlying22 (by kernel_rfl) rfl (by decide) (by decide)
theorem gB {a:Option Addr} {n c:Nat} {f:aw} : ∀u∈bM (.slice a n c) f,u.oneCell'=true:=by
 intro u hu;simp only[bM,List.mem_cons,List.not_mem_nil,or_false]at hu
 rcases hu with rfl | rfl | rfl | rfl | rfl | rfl | rfl<;> rfl
theorem dF.hitA {S:Nat->Prop} {W w:World} {mb:Nat} {fs:List aw} (h:dF S W w mb fs) {p:ByteArray} (hp:p.size<=maxLen) {f:aw} (hf:fg fs p=some f):
  ∃v,aP S W v f.parts/\dj f/\ ∀w':World,w'.heap[mb]? =w.heap[mb]? ->(Instr.lookup 90 (.map (some mb)) (.string p) true).run Tryz.prog w'= .ok (.tuple #[dU v f, .bool true]) w':=by
 obtain⟨xs,rfl,h2,h3⟩:=h;obtain⟨v,hv,rfl⟩:=rP hf;refine⟨v,(h3 _ hv).1,(h3 _ hv).2,fun w' hw=> ?_⟩;have:=(h2.same hw).is.hit dx tB (dK hp) (val:=dU v f) (List.mem_map.2 ⟨(v,f),hv,rfl⟩) true
 simpa using this
theorem dE.nvlt {W0 w:World} {base cb kb:Nat} {q:iE} {nv:Value} {prev:List aw} {s:kX} (h:dE W0 w base cb kb q nv prev s): ∀i,nv.ownBlock=some i->i<w.heap.size:=fun i hi=>by
 obtain⟨ys,_,h3,_⟩:=h.col.news;exact(h3.lt i hi).2
theorem nC {n:Nat} (h:n<=9223372036854775807):(Lit.int .i64 (n:Int)).wf=true:=by
 have e1:IntKind.i64.max=9223372036854775807:=by decide
 have e2:IntKind.i64.min= -9223372036854775808:=by decide
 simp only[Lit.wf,Bool.and_eq_true,decide_eq_true_eq,e1,e2];omega
theorem zt {tm:Int} {prev:List aw} {c:eU} {s:kX} {e:bG} (hk: ¬e.kind=1):jO tm prev c s e=⟨s.files++[⟨e.path,e.kind,e.mode,e.time,(e.data.length:Int),e.link,[]⟩],s.known,s.news,s.read,s.kept⟩:=by
 unfold jO;rw[if_neg hk];have hp:ek tm prev c e=[]:=by unfold ek; rw[if_neg hk]
 have h2:fw tm prev c e=⟨e.path,e.kind,e.mode,e.time,(e.data.length:Int),e.link,[]⟩:=congrArg (fun ps=>(⟨e.path,e.kind,e.mode,e.time,(e.data.length:Int),e.link,ps⟩:aw)) hp;rw[h2]
theorem zr {tm:Int} {prev:List aw} {c:eU} {s:kX} {e:bG} {g:aw} (hk:e.kind=1) (hf:fg prev e.path=some g) (ht:gq tm g e=true):jO tm prev c s e=⟨s.files++[⟨e.path,e.kind,e.mode,e.time,(e.data.length:Int),e.link,g.parts⟩],s.known,s.news,s.read,s.kept+1⟩:=by
 have htr:qq tm prev e=true:=by unfold qq; rw[hf]; simp[hk,ht]
 have hp:ek tm prev c e=g.parts:=by unfold ek; rw[if_pos hk,hf]; simp[ht]
 have h2:fw tm prev c e=⟨e.path,e.kind,e.mode,e.time,(e.data.length:Int),e.link,g.parts⟩:=congrArg (fun ps=>(⟨e.path,e.kind,e.mode,e.time,(e.data.length:Int),e.link,ps⟩:aw)) hp;unfold jO;rw[if_pos hk,if_pos htr,h2]
theorem rj {tm:Int} {prev:List aw} {c:eU} {s:kX} {e:bG} (hk:e.kind=1) (hf: ∀g,fg prev e.path=some g->gq tm g e=false):jO tm prev c s e=⟨s.files++[⟨e.path,e.kind,e.mode,e.time,(e.data.length:Int),e.link,(cE c e.data).map bP⟩],((cE c e.data).foldl bO (s.known,s.news)).1,((cE c e.data).foldl bO (s.known,s.news)).2,s.read+1,s.kept⟩:=by
 have htr:qq tm prev e=false:=by
  unfold qq
  cases h:fg prev e.path with
  | none=>simp
  | some g=>simp[hf g h]
 have hp:ek tm prev c e=(cE c e.data).map bP:=by
  refine pS ?_;unfold sq;rw[htr]; simp[hk]
 have h2:fw tm prev c e=⟨e.path,e.kind,e.mode,e.time,(e.data.length:Int),e.link,(cE c e.data).map bP⟩:=congrArg (fun ps=>(⟨e.path,e.kind,e.mode,e.time,(e.data.length:Int),e.link,ps⟩:aw)) hp;unfold jO;rw[if_pos hk,htr,h2];simp
def Gk (W0:World) (base cb kb:Nat) (q:iE) (prev:List aw) (s':kX) (w:World) (e:Ending) (w':World):Prop:=
 ∃fv' nv' rd' kp',e= .returned (.int .i64 0)/\dE W0 w' base cb kb {q with fv:=fv',rd:=rd',kp:=kp'} nv' prev s'/\Below base w w'
theorem qu (S:Nat->Prop) (tm:Int) (f:aw) (pv dv:Value) (e:bG) (b:Bool) (w:World) (hf:dj f) (hp:aP S w pv f.parts) (hd:cN S w dv e.data) (he:jL e) (h:gq tm f e=b):
  Calls Tryz.prog 15 #[.int .i64 tm,dU pv f,pq dv e] w fun x w'=>x= .returned (.bool b)/\Below w.heap.size w w':=by
 rw[<-h]; exact wl S tm f pv dv e w hf hp hd he
theorem AL (W0:World) (base cb kb:Nat) (q:iE) (nv dv:Value) (prev:List aw) (s:kX) (e:bG) (w:World) (h:dE W0 w base cb kb q nv prev s) (hd:cN (· <base) w dv e.data) (hok:jL e) (hv:cC e=true) (hc:fq q.cut=true) (hs:q.cut.seed<18446744073709551616) (he:jF w)
  (hcb:base<=cb) (hkb:base<=kb) (hbz:base<=w.heap.size) (h6:6<=base) (hn:s.news.length<10000000000) (hfl:s.files.length<=4096) (hrl:s.read<=4096) (hkl:s.kept<=4096) (hpl: ∀f∈prev,f.parts.length<=1048576):
  Calls Tryz.prog 41 #[.pointer (some ⟨cb,0,none⟩),pq dv e] w (Gk W0 base cb kb q prev (jO q.at0 prev q.cut s e) w):=by
 obtain⟨_,da,dcap,rfl,hdc,hdm,-⟩:=id hd;unfold maxLen at hdm;have HH:=ab h;have HD:=ab hd;have HE:=ab he;have HOK:=ab hok;have HV:=ab hv;have HPL:=ab hpl;have hcl:=lt_of_block h.col.box;obtain⟨zs,hzs,hzr,hzd⟩:=h.files.row;have HFL:=ab (show ∀i,q.fv.ownBlock=some i->i<w.heap.size from fun i hi=>(hzr.lt i hi).2);clear h hd he hok hv hpl hzs hzr hzd;obtain⟨dl,hdl⟩: ∃dl,dl=e.data.length:=⟨_,rfl⟩
 rw[<-hdl]at hdc HD ⊢;have HDL:=ab hdl;clear hdl;obtain⟨W,hW⟩: ∃W,W=(w.alloc (.cells #[.string e.path, .int .i64 e.kind, .int .i64 e.mode, .int .i64 e.time, .slice da dl dcap, .string e.link] 30)).alloc (.cells #[.string e.path, .int .i64 e.kind, .int .i64 e.mode, .int .i64 e.time, .int .i64 (dl:Int), .string e.link, .slice none 0 0] 27):=⟨_,rfl⟩;have HBW:=ab (show Below w.heap.size w W by rw[hW]; exact((Below.refl _ _).alloc (Nat.le_refl _) _).alloc (by simp) _)
 have HX:=ab (show W.heap[w.heap.size]? =some (.cells #[.string e.path, .int .i64 e.kind, .int .i64 e.mode, .int .i64 e.time, .slice da dl dcap, .string e.link] 30 (0,0)) by rw[hW]; exact jQ (heap_alloc_new w _) _);have HY:=ab (show W.heap[w.heap.size+1]? =some (.cells #[.string e.path, .int .i64 e.kind, .int .i64 e.mode, .int .i64 e.time, .int .i64 (dl:Int), .string e.link, .slice none 0 0] 27 (0,0)) by rw[hW]; exact heap_alloc2_new w _ _)
 have HSZ:=ab (show W.heap.size=w.heap.size+2 by rw[hW]; simp);unfold pq
 go_enter Tryz.func41,Tryz.ntmps41
 go_upto_region 2 with fail
 change Code.wp _ _ _ _ ((w.alloc (.cells #[.string e.path, .int .i64 e.kind, .int .i64 e.mode, .int .i64 e.time, .slice da dl dcap, .string e.link] 30)).alloc (.cells #[.string e.path, .int .i64 e.kind, .int .i64 e.mode, .int .i64 e.time, .int .i64 (dl:Int), .string e.link, .slice none 0 0] 27))
 rw[<-hW];clear hW;have HT0:=ab (HH.out.below HBW.out hbz);have HE0:=ab (HE.out.below HBW.out)
 by_cases hk:e.kind=1
 ·have hk2:(e.kind == 1)=true:=by simp[hk]
  have HK:=ab hk;clear hk;have x1:=ai (k:=1) HX.out;simp only[List.getElem?_toArray,bV]at x1
  go_upto_region 3 with fail
  obtain⟨g,fa,fl,fc,ob,hlk,hcase⟩: ∃(g:aw) (fa:Option Addr) (fl fc:Nat) (ob:Bool),(∀w':World,w'.heap[q.mb]? =W.heap[q.mb]? ->(Instr.lookup 90 (.map (some q.mb)) (.string e.path) true).run Tryz.prog w'= .ok (.tuple #[.agg #[.string g.path, .int .i64 g.kind, .int .i64 g.mode, .int .i64 g.time, .int .i64 g.size, .string g.link, .slice fa fl fc], .bool ob]) w')/\
    ((ob=true/\fg prev e.path=some g/\aP (· <base) W (.slice fa fl fc) g.parts/\dj g)\/(ob=false/\fg prev e.path=none)):=by
   cases hf:fg prev e.path with
   | some f=>
    obtain⟨fpv,hfp,hfo,hlk⟩:=HT0.out.before.hitA HOK.out.pth hf;obtain⟨fa,fc,rfl,-,-,-⟩:=aY.shape hfp dD.len;exact⟨f,fa,_,fc,true,hlk, .inl ⟨rfl,rfl,hfp.old HT0.out.old,hfo⟩⟩
   | none=>exact⟨⟨⟨#[]⟩,0,0,0,0,⟨#[]⟩,[]⟩,none,0,0,false,fun w' hw=>(HT0.out.before.same hw).miss HOK.out.pth hf, .inr ⟨rfl,rfl⟩⟩
  have HCASE:=ab hcase;obtain⟨W5,hW5⟩: ∃W5:World,W5=W.drew:=⟨_,rfl⟩;have HB5:=ab (show Below W.heap.size W W5 by rw[hW5]; exact(Below.refl _ _).drew);have HX5:=ab ((HB5.out.block _ (lt_of_block HX.out)).trans HX.out);have HY5:=ab ((HB5.out.block _ (lt_of_block HY.out)).trans HY.out);have HT5:=ab (HT0.out.below HB5.out (by have:=HSZ.out; omega));have HBX5:=ab HT5.out.col.box
  have k7:=ai (k:=7) HBX5.out;have x0:=ai (k:=0) HX5.out;simp only[cO,cT,List.cons_append,List.nil_append,List.getElem?_toArray,bV]at x0 k7;have HS5:=ab (show W5.cell? ⟨cb,7,none⟩=some (.map (some q.mb))/\W5.cell? ⟨w.heap.size,0,none⟩=some (.string e.path)/\(Instr.lookup 90 (.map (some q.mb)) (.string e.path) true).run Tryz.prog W5= .ok (.tuple #[.agg #[.string g.path, .int .i64 g.kind, .int .i64 g.mode, .int .i64 g.time, .int .i64 g.size, .string g.link, .slice fa fl fc], .bool ob]) W5 from⟨k7,x0,hlk W5 (by rw[hW5]; rfl)⟩)
  have hal:=(Below.refl W5.heap.size W5).alloc (Nat.le_refl _) (.cells #[.string ⟨#[]⟩, .int .i64 0, .int .i64 0, .int .i64 0, .int .i64 0, .string ⟨#[]⟩, .slice none 0 0] 27);have HSA:=ab (show(W5.alloc (.cells #[.string ⟨#[]⟩, .int .i64 0, .int .i64 0, .int .i64 0, .int .i64 0, .string ⟨#[]⟩, .slice none 0 0] 27)).cell? ⟨cb,7,none⟩=some (.map (some q.mb))/\(W5.alloc (.cells #[.string ⟨#[]⟩, .int .i64 0, .int .i64 0, .int .i64 0, .int .i64 0, .string ⟨#[]⟩, .slice none 0 0] 27)).cell? ⟨w.heap.size,0,none⟩=some (.string e.path)/\(Instr.lookup 90 (.map (some q.mb)) (.string e.path) true).run Tryz.prog (W5.alloc (.cells #[.string ⟨#[]⟩, .int .i64 0, .int .i64 0, .int .i64 0, .int .i64 0, .string ⟨#[]⟩, .slice none 0 0] 27))= .ok (.tuple #[.agg #[.string g.path, .int .i64 g.kind, .int .i64 g.mode, .int .i64 g.time, .int .i64 g.size, .string g.link, .slice fa fl fc], .bool ob]) (W5.alloc (.cells #[.string ⟨#[]⟩, .int .i64 0, .int .i64 0, .int .i64 0, .int .i64 0, .string ⟨#[]⟩, .slice none 0 0] 27))from
   ⟨(hal.cell (p:=⟨cb,7,none⟩) (lt_of_block HBX5.out)).trans HS5.out.1,(hal.cell (p:=⟨w.heap.size,0,none⟩) (lt_of_block HX5.out)).trans HS5.out.2.1,hlk _ ((hal.block _ (Nat.lt_of_lt_of_le HT0.out.before.lt HB5.out.size)).trans (HB5.out.block _ HT0.out.before.lt))⟩)
  obtain⟨W6,hW6⟩: ∃W6,W6=W5.alloc (.cells #[.string g.path, .int .i64 g.kind, .int .i64 g.mode, .int .i64 g.time, .int .i64 g.size, .string g.link, .slice fa fl fc] 27):=⟨_,rfl⟩;have HB6:=ab (show Below W5.heap.size W5 W6 by rw[hW6]; exact(Below.refl _ _).alloc (Nat.le_refl _) _);have HO6:=ab (show W6.heap[W5.heap.size]? =some (.cells #[.string g.path, .int .i64 g.kind, .int .i64 g.mode, .int .i64 g.time, .int .i64 g.size, .string g.link, .slice fa fl fc] 27 (0,0)) by rw[hW6]; exact heap_alloc_new W5 _)
  have HZ6:=ab (show W6.heap.size=W5.heap.size+1 by rw[hW6]; simp);have HS6:=ab (show W6.cell? ⟨cb,7,none⟩=some (.map (some q.mb))/\W6.cell? ⟨w.heap.size,0,none⟩=some (.string e.path)/\(Instr.lookup 90 (.map (some q.mb)) (.string e.path) true).run Tryz.prog W6= .ok (.tuple #[.agg #[.string g.path, .int .i64 g.kind, .int .i64 g.mode, .int .i64 g.time, .int .i64 g.size, .string g.link, .slice fa fl fc], .bool ob]) W6 from
   ⟨(HB6.out.cell (p:=⟨cb,7,none⟩) (lt_of_block HBX5.out)).trans HS5.out.1,(HB6.out.cell (p:=⟨w.heap.size,0,none⟩) (lt_of_block HX5.out)).trans HS5.out.2.1,hlk _ ((HB6.out.block _ (Nat.lt_of_lt_of_le HT0.out.before.lt HB5.out.size)).trans (HB5.out.block _ HT0.out.before.lt))⟩)
  clear hlk hcase k7 x0 x1 hal;refine cX (fun w'=>w'.cell? ⟨cb,7,none⟩=some (.map (some q.mb))/\w'.cell? ⟨w.heap.size,0,none⟩=some (.string e.path)/\(Instr.lookup 90 (.map (some q.mb)) (.string e.path) true).run Tryz.prog w'= .ok (.tuple #[.agg #[.string g.path, .int .i64 g.kind, .int .i64 g.mode, .int .i64 g.time, .int .i64 g.size, .string g.link, .slice fa fl fc], .bool ob]) w') (by kernel_rfl) ?_
  rw[<-hW5];clear hW5;refine ag 0 rfl (by kernel_rfl) (by kernel_rfl) (by kernel_rfl) (fun _ _ _ h=>h) rfl HS5.out (by rintro w' ⟨hw1,hw2,hw3⟩; go_simp; rfl) ?_;simp only[Act.put,aH,aI,aJ];refine ag 1 rfl (by kernel_rfl) (by kernel_rfl) (by kernel_rfl) (fun _ _ _ h=>h) rfl HS5.out (by rintro w' ⟨hw1,hw2,hw3⟩; go_simp; rfl) ?_;simp only[Act.put,aH,aI,aJ];refine ag 2 rfl (by kernel_rfl) (by kernel_rfl) (by kernel_rfl) (fun _ _ _ h=>h) rfl HS5.out (by rintro w' ⟨hw1,hw2,hw3⟩; go_simp; rfl) ?_
  simp only[Act.put,aH,aI,aJ];refine ag 3 rfl (by kernel_rfl) (by kernel_rfl) (by kernel_rfl) (fun _ _ _ h=>h) rfl HS5.out (by rintro w' ⟨hw1,hw2,hw3⟩; go_simp; rfl) ?_;simp only[Act.put,aH,aI,aJ];refine ag 4 rfl (by kernel_rfl) (by kernel_rfl) (by kernel_rfl) (fun _ _ _ h=>h) rfl HS5.out (by rintro w' ⟨hw1,hw2,hw3⟩; go_simp; rfl) ?_;simp only[Act.put,aH,aI,aJ]
  refine ag 5 rfl (by kernel_rfl) (by kernel_rfl) (by kernel_rfl) (fun _ _ _ h=>h) rfl HS5.out (by rintro w' ⟨hw1,hw2,hw3⟩; go_simp; rfl) ?_;simp only[Act.put,aH,aI,aJ];refine ag 6 rfl (by kernel_rfl) (by kernel_rfl) (by kernel_rfl) (fun _ _ _ h=>h) rfl HS5.out (by rintro w' ⟨hw1,hw2,hw3⟩; go_simp; rfl) ?_;simp only[Act.put,aH,aI,aJ];refine ag 7 rfl (by kernel_rfl) (by kernel_rfl) (by kernel_rfl) (fun _ _ _ h=>h) rfl HS5.out (by rintro w' ⟨hw1,hw2,hw3⟩; go_simp; rfl) ?_
  simp only[Act.put,aH,aI,aJ];refine ag 8 rfl (by kernel_rfl) (by kernel_rfl) (by kernel_rfl) (fun _ _ _ h=>h) rfl HS5.out (by rintro w' ⟨hw1,hw2,hw3⟩; go_simp; rfl) ?_;simp only[Act.put,aH,aI,aJ];refine ag 9 rfl (by kernel_rfl) (by kernel_rfl) (by kernel_rfl) (fun _ _ _ h=>h) rfl HS5.out (by rintro w' ⟨hw1,hw2,hw3⟩; go_simp; rfl) ?_;simp only[Act.put,aH,aI,aJ]
  refine aC 10 rfl (by kernel_rfl) rfl (fun K hK=> ?_);go_wp2_with fail;refine⟨HSA.out, ?_⟩;refine aC 11 rfl (by kernel_rfl) rfl (fun K hK=> ?_);go_wp2_with fail;rw[<-hW6];clear hW6;refine⟨HS6.out, ?_⟩;refine ag 12 rfl (by kernel_rfl) (by kernel_rfl) (by kernel_rfl) (fun _ _ _ h=>h) rfl HS6.out (by rintro w' ⟨hw1,hw2,hw3⟩; go_simp; rfl) ?_;simp only[Act.put,aH,aI,aJ]
  refine bu (by kernel_rfl) ?_
  go_upto_region 4 with fail
  obtain⟨W7,hW7⟩: ∃W7:World,W7=W6.drew:=⟨_,rfl⟩;have HB7:=ab (show Below W6.heap.size W6 W7 by rw[hW7]; exact(Below.refl _ _).drew);have hz5:=HB5.out.size;have hz7:=HB7.out.size;have hq7:w.heap.size+2<=W7.heap.size:=by have:=HZ6.out; have:=HSZ.out; omega
  have HBA:=ab (show Below W.heap.size W W7 from ak (ak HB5.out HB6.out) HB7.out);have HBB:=ab (show Below base w W7 from(ak HBW.out HBA.out).mono hbz);have HX7:=ab ((HBA.out.block _ (lt_of_block HX.out)).trans HX.out);have HY7:=ab ((HBA.out.block _ (lt_of_block HY.out)).trans HY.out);have HO7:=ab ((HB7.out.block _ (lt_of_block HO6.out)).trans HO6.out);have HT7:=ab (HT0.out.below HBA.out (by have:=HSZ.out; omega))
  have HE7:=ab (HE0.out.below HBA.out);have HD7:=ab (show cN (· <base) W7 (.slice da dl dcap) e.data from aS.same HD.out (fun k hk=>HBB.out.block k hk));have HBX7:=ab HT7.out.col.box;have HW7:=ab hW7;have x0:=ai (k:=0) HX7.out;have x1:=ai (k:=1) HX7.out;have x2:=ai (k:=2) HX7.out;have x3:=ai (k:=3) HX7.out;have x4:=ai (k:=4) HX7.out;have x5:=ai (k:=5) HX7.out
  simp only[List.getElem?_toArray,bV]at x0 x1 x2 x3 x4 x5;have o0:=ai (k:=0) HO7.out;have o1:=ai (k:=1) HO7.out;have o2:=ai (k:=2) HO7.out;have o3:=ai (k:=3) HO7.out;have o4:=ai (k:=4) HO7.out;have o5:=ai (k:=5) HO7.out;have o6:=ai (k:=6) HO7.out;simp only[List.getElem?_toArray,bV]at o0 o1 o2 o3 o4 o5 o6;have k6:=ai (k:=6) HBX7.out;simp only[cO,cT,List.cons_append,List.nil_append,List.getElem?_toArray,bV]at k6
  rcases HCASE.out with⟨rfl,hfind,hparts,hfo⟩ | ⟨rfl,hfind⟩
  ·have HP7:=ab (hparts.old (HBA.out.mono (by have:=HSZ.out; omega)));have HFO:=ab hfo;have HFIND:=ab hfind;clear hfind hparts hfo
   cases htr:gq q.at0 g e with
   | true=>
    have HTR:=ab htr;clear htr;refine aA [some 8,none,some 1] (by kernel_rfl) (by kernel_rfl) (by kernel_rfl) ?_;simp only[bz,List.take_succ_cons,List.take_zero,List.drop_succ_cons,List.drop_zero];rw[<-hW7];clear hW7
    repeat (first | (refine aD rfl ?_; simp only[Act.put,aH,aI,aJ]) | (refine aM rfl (fun K hK=> ?_); go_simp; refine hK _ ?_; clear hK K))
    refine aL ?_;clear x0 x1 x2 x3 x4 x5 o0 o1 o2 o3 o4 o5 o6 k6;refine bE rfl (fun K hK=> ?_);go_wp2_with (go_at_call 15; refine(qu (· <base) q.at0 g (.slice fa fl fc) (.slice da dl dcap) e true W7 HFO.out HP7.out HD7.out HOK.out HTR.out).mono ?_; rintro e8 w8 ⟨rfl,hb8⟩; have HB8:=ab hb8; clear hb8)
    repeat (first | (refine aD rfl ?_; simp only[Act.put,aH,aI,aJ]) | (refine aM rfl (fun K hK=> ?_); go_simp; refine hK _ ?_; clear hK K))
    refine aL ?_
    go_upto_region 5 with fail
    have hz8:=HB8.out.size;have HY8:=ab ((HB8.out.block _ (lt_of_block HY7.out)).trans HY7.out);have HO8:=ab ((HB8.out.block _ (lt_of_block HO7.out)).trans HO7.out);have HT8:=ab (HT7.out.below HB8.out (by have:=HSZ.out; omega));have HP8:=ab (aP.below HP7.out HB8.out);have hgl:g.parts.length<=1048576:=HPL.out g (iL HFIND.out).1;have o6:=ai (k:=6) HO8.out;simp only[List.getElem?_toArray,bV]at o6
    go_upto_region 6 with(go_at_call 76; refine(oV (· <base) (.slice fa fl fc) g.parts w8 HP8.out hgl).mono ?_; rintro e9 w9 ⟨rv,rfl,ho9,hb9⟩; have HB9:=ab hb9; have hz9:=hb9.size; obtain⟨ra,rc,rfl,-,-⟩:=au ho9; have HP9:=ab ho9; have HY9:=ab ((hb9.block _ (lt_of_block HY8.out)).trans HY8.out); have y6:=ai (k:=6) HY9.out; have f6:=aO (k:=6) HY9.out; simp only[List.getElem?_toArray,bV]at y6; clear ho9 hb9)
    obtain⟨rn,hrn⟩: ∃rn,rn=g.parts.length:=⟨_,rfl⟩;rw[<-hrn];have HRN:=ab hrn;clear hrn;obtain⟨W10,hW10⟩: ∃W10,W10=w9.setCell ⟨w.heap.size+1,6,none⟩ (.slice ra rn rc):=⟨_,rfl⟩;rw[<-hW10];have HG10:=ab (show w9.grownBy W10 (some (w.heap.size+1)) by rw[hW10]; exact aG _ _ _ _);have HFB0:=ab (show W10.heap[w.heap.size+1]? =some (.cells #[.string e.path, .int .i64 e.kind, .int .i64 e.mode, .int .i64 e.time, .int .i64 (dl:Int), .string e.link, .slice ra rn rc] 27 (0,0)) by rw[hW10]; simpa using oq (k:=6) HY9.out (.slice ra rn rc))
    have HT10:=ab ((HT8.out.below HB9.out (by have:=HSZ.out; omega)).other HG10.out HY9.out (fun e1=>by have:=HFL.out _ e1; omega) (by omega) (by have:=HSZ.out; omega));have HP10:=ab (show W10.ownsRow base 62 2 (.slice ra rn rc) g.parts.length (bg g.parts) by
     rw[HRN.out];have h1:w9.ownsRow base 62 2 (.slice ra g.parts.length rc) g.parts.length (bg g.parts):=ci HP9.out (by have:=HSZ.out; omega);refine bA h1 (fun i hi hv=>HG10.out.block i hi (fun e1=> ?_));have h2:=(HP9.out.lt i hv).1;have h3:=Option.some.inj e1;have:=HSZ.out
     omega)
    have HB10:=ab (show Below base w W10 from(((HBB.out.trans (HB8.out.mono (by have:=HSZ.out; omega))).trans (HB9.out.mono (by have:=HSZ.out; omega))).grown HG10.out (by have:=HSZ.out; omega) (fun i e1=>by have:=Option.some.inj e1; omega)));have HC10:=ab HT10.out.col.box;have k5:=ai (k:=5) HC10.out;have f5:=aO (k:=5) HC10.out;simp only[cO,cT,List.cons_append,List.nil_append,List.getElem?_toArray,bV]at k5
    have hkp:q.kp<=4096:=by rw[HT10.out.kp]; exact hkl
    clear hW10 o6 y6 f6
    go_upto_region 12 with fail
    obtain⟨WT,hWT⟩: ∃WT,WT=W10.setCell ⟨cb,5,none⟩ (.int .i64 ((q.kp:Int)+1)):=⟨_,rfl⟩;rw[<-hWT];have hz10:W7.heap.size<=W10.heap.size:=by have:=HG10.out.size; omega
    have HTT:=ab (show dE W0 WT base cb kb {q with kp:=q.kp+1} nv prev {s with kept:=s.kept+1} by rw[hWT]; exact HT10.out.setq 5 (.int .i64 ((q.kp:Int)+1)) (q':= {q with kp:=q.kp+1}) (s':= {s with kept:=s.kept+1}) (by simp[cO]) rfl rfl rfl rfl rfl HT10.out.rd (by show q.kp+1=s.kept+1; rw[HT10.out.kp]) hcb (by omega));have hncb:w.heap.size+1≠cb:=by omega
    have HFB:=ab (show WT.heap[w.heap.size+1]? =some (.cells #[.string e.path, .int .i64 e.kind, .int .i64 e.mode, .int .i64 e.time, .int .i64 (dl:Int), .string e.link, .slice ra rn rc] 27 (0,0)) by rw[hWT,Below.heap_setCell _ _ _ _ hncb]; exact HFB0.out);obtain⟨ps,hps⟩: ∃ps,ps=g.parts:=⟨_,rfl⟩;have HPV:=ab (show WT.ownsRow base 62 2 (.slice ra rn rc) ps.length (bg ps) by
     rw[hps,hWT];refine bA HP10.out (fun i hi hv=>Below.heap_setCell _ _ _ _ (fun e1=> ?_));obtain⟨cs2,hc2⟩:=aK HP10.out hv;rw[e1]at hc2;exact absurd (aQ HC10.out hc2) (by decide))
    have HFOK:=ab (show dj ⟨e.path,e.kind,e.mode,e.time,(dl:Int),e.link,ps⟩from⟨HOK.out.pth,HOK.out.lnk,HOK.out.knd,HOK.out.mde,HOK.out.tim,nC (by omega)⟩);have HPOK:=ab (show ∀p∈ps,dk p by rw[hps]; exact pR HP8.out);have HRES:=ab (show jO q.at0 prev q.cut s e=⟨s.files++[⟨e.path,e.kind,e.mode,e.time,(dl:Int),e.link,ps⟩],s.known,s.news,s.read,s.kept+1⟩ by rw[zr HK.out HFIND.out HTR.out,hps,HDL.out])
    have HBT:=ab (show Below base w WT by rw[hWT]; exact HB10.out.grown (aG _ _ _ _) (by omega) (fun i e1=>by cases e1; exact hcb));have HS2F:=ab (show s.files.length<=4096 from hfl);have hzW:w.heap.size<=WT.heap.size:=HBT.out.size;clear hWT hps k5 f5;obtain⟨zs,hzs,hzr,hzd⟩:=HTT.out.files.row;obtain⟨xa,xc,hfv,-,-⟩:=au hzr;have HZS:=ab hzs;have HZD:=ab hzd
    have HZR:=ab hzr;have HFV:=ab (show q.fv= .slice xa zs.length xc from hfv);have hzl:zs.length<=4096:=by
     have h1:zs.length=s.files.length:=by have h3:=congrArg List.length hzs; rw[List.length_map]at h3; exact h3
     have h2:=HS2F.out;omega
    obtain⟨W12,hW12⟩: ∃W12:World,W12=WT.drew:=⟨_,rfl⟩;have HB12:=ab (show Below WT.heap.size WT W12 by rw[hW12]; exact(Below.refl _ _).drew);have hzT:=HB12.out.size;have HR12:=ab (show W12.ownsRow base 27 7 (.slice xa zs.length xc) zs.length (cP zs) by rw[<-hfv]; exact aV hzr HB12.out);have HF12:=ab ((HB12.out.block _ (lt_of_block HFB.out)).trans HFB.out);have HC12:=ab ((HB12.out.block _ (lt_of_block HTT.out.col.box)).trans HTT.out.col.box)
    have hne12:(Value.slice xa zs.length xc).ownBlock≠some (w.heap.size+1):=fun e1=>by
     have h1:=HFL.out (w.heap.size+1) (by rw[HFV.out]; exact e1);omega
    have HNE12:=ab hne12;clear hzs hzr hzd hfv hne12;have k1:=ai (k:=1) HC12.out;simp only[cO,cT,List.cons_append,List.nil_append,List.getElem?_toArray,bV,HFV.out]at k1;have S12:=ab (And.intro k1 HF12.out);clear k1;refine cL (fun w'=>w'.cell? ⟨cb,1,none⟩=some (.slice xa zs.length xc)/\w'.heap[w.heap.size+1]? =some (.cells #[.string e.path, .int .i64 e.kind, .int .i64 e.mode, .int .i64 e.time, .int .i64 (dl:Int), .string e.link, .slice ra rn rc] 27 (0,0))) (by kernel_rfl) (by kernel_rfl) ?_
    simp only[List.dropLast_cons_cons,List.dropLast_singleton,List.length_cons,List.length_nil,Nat.reduceAdd,Nat.reduceSub];rw[<-hW12];clear hW12;refine ag 0 rfl (by kernel_rfl) (by kernel_rfl) (by kernel_rfl) (fun _ _ _ h=>h) rfl S12.out (by rintro w' ⟨hw1,hw2⟩; go_simp; rfl) ?_;simp only[Act.put,aH,aI,aJ];refine ag 1 rfl (by kernel_rfl) (by kernel_rfl) (by kernel_rfl) (fun _ _ _ h=>h) rfl S12.out (by rintro w' ⟨hw1,hw2⟩; go_simp; rfl) ?_
    simp only[Act.put,aH,aI,aJ];refine ag 2 rfl (by kernel_rfl) (by kernel_rfl) (by kernel_rfl) (fun _ _ _ h=>h) rfl S12.out (by rintro w' ⟨hw1,hw2⟩; go_simp; rfl) ?_;simp only[Act.put,aH,aI,aJ];refine ag 3 rfl (by kernel_rfl) (by kernel_rfl) (by kernel_rfl) (fun _ _ _ h=>h) rfl S12.out (by rintro w' ⟨hw1,hw2⟩; go_simp; rfl) ?_;simp only[Act.put,aH,aI,aJ];refine ag 4 rfl (by kernel_rfl) (by kernel_rfl) (by kernel_rfl) (fun _ _ _ h=>h) rfl S12.out (by rintro w' ⟨hw1,hw2⟩; go_simp; rfl) ?_
    simp only[Act.put,aH,aI,aJ];refine ag 5 rfl (by kernel_rfl) (by kernel_rfl) (by kernel_rfl) (fun _ _ _ h=>h) rfl S12.out (by rintro w' ⟨hw1,hw2⟩; go_simp; rfl) ?_;simp only[Act.put,aH,aI,aJ];refine ag 6 rfl (by kernel_rfl) (by kernel_rfl) (by kernel_rfl) (fun _ _ _ h=>h) rfl S12.out (by rintro w' ⟨hw1,hw2⟩; go_simp; rfl) ?_;simp only[Act.put,aH,aI,aJ];refine ag 7 rfl (by kernel_rfl) (by kernel_rfl) (by kernel_rfl) (fun _ _ _ h=>h) rfl S12.out (by rintro w' ⟨hw1,hw2⟩; have o0:=ai (k:=0) hw2; have o1:=ai (k:=1) hw2; have o2:=ai (k:=2) hw2; have o3:=ai (k:=3) hw2; have o4:=ai (k:=4) hw2; have o5:=ai (k:=5) hw2; have o6:=ai (k:=6) hw2; simp only[List.getElem?_toArray,bV]at o0 o1 o2 o3 o4 o5 o6; clear hw2; go_simp; rfl) ?_
    simp only[Act.put,aH,aI,aJ];refine aC 8 rfl (by kernel_rfl) rfl (fun K hK=> ?_);go_wp2_with fail;have hal:=(Below.refl W12.heap.size W12).alloc (Nat.le_refl _) (.cells #[.string e.path, .int .i64 e.kind, .int .i64 e.mode, .int .i64 e.time, .int .i64 (dl:Int), .string e.link, .slice ra rn rc] 27);refine⟨⟨(hal.cell (p:=⟨cb,1,none⟩) (lt_of_block HC12.out)).trans S12.out.1,(hal.block _ (lt_of_block HF12.out)).trans HF12.out⟩, ?_⟩
    refine aC 9 rfl (by kernel_rfl) rfl (fun K hK=> ?_);go_wp2_with (at_builtin; go_must (refine bK Tryz.appFiles rfl _ _ rfl base (.slice xa zs.length xc) zs.length (cP zs) rfl W12 [.string e.path, .int .i64 e.kind, .int .i64 e.mode, .int .i64 e.time, .int .i64 (dl:Int), .string e.link, .slice ra rn rc] _ rfl rfl (gB (f:=⟨e.path,e.kind,e.mode,e.time,(dl:Int),e.link,[]⟩)) HR12.out (by omega) (by omega) ?_); intro vp wc hown3 hg3 _ hpl3; obtain⟨ea,ec,rfl,-,-⟩:=au hown3)
    have hcb9:(Value.slice xa zs.length xc).ownBlock≠some cb:=fun e1=>by
     obtain⟨cs2,hc2⟩:=aK HR12.out e1;exact absurd (aQ HC12.out hc2) (by decide)
    have HCC:=ab ((hg3.block cb (lt_of_block HC12.out) (fun e1=>hcb9 e1.symm)).trans HC12.out);have HFC:=ab ((hg3.block _ (lt_of_block HF12.out) (fun e1=>HNE12.out e1.symm)).trans HF12.out);have HFIN:=ab (HTT.out.file (s':=jO q.at0 prev q.cut s e) (f:=⟨e.path,e.kind,e.mode,e.time,(dl:Int),e.link,ps⟩) (pv:= .slice ra rn rc) (fv':= .slice ea (zs.length+1) ec) HZS.out HZR.out HZD.out HB12.out (aV HPV.out HB12.out) HFOK.out HPOK.out hown3 (by show W12.grownBy wc q.fv.ownBlock; rw[HFV.out]; exact hg3) (by show ∀k,_->q.fv.ownBlock=some k\/_; rw[HFV.out]; exact hpl3) (by rw[HRES.out]) (by rw[HRES.out]) (by rw[HRES.out]) (by rw[HRES.out]) (by rw[HRES.out]) hcb (by omega))
    have hb1:Below base w wc:=(HBT.out.trans (HB12.out.mono (by omega))).grown hg3 (by omega) (fun i e1=>(HR12.out.lt i e1).1);have HBE:=ab (hb1.grown (aG wc cb 1 (.slice ea (zs.length+1) ec)) (by have:=hb1.size; omega) (fun i e1=>by cases e1; exact hcb));have k1:=ai (k:=1) HCC.out;have f1:=aO (k:=1) HCC.out;simp only[cO,cT,List.cons_append,List.nil_append,List.getElem?_toArray,bV,HFV.out]at k1
    have SC:=ab (And.intro k1 HFC.out);clear hown3 hg3 hpl3 hcb9 hb1 hal;refine⟨SC.out, ?_⟩;refine ag 10 rfl (by kernel_rfl) (by kernel_rfl) (by kernel_rfl) (fun _ _ _ h=>h) rfl SC.out (by rintro w' ⟨hw1,hw2⟩; go_simp; rfl) ?_;simp only[Act.put,aH,aI,aJ];refine ag 11 rfl (by kernel_rfl) (by kernel_rfl) (by kernel_rfl) (fun _ _ _ h=>h) rfl SC.out (by rintro w' ⟨hw1,hw2⟩; go_simp; rfl) ?_
    simp only[Act.put,aH,aI,aJ];refine ag 12 rfl (by kernel_rfl) (by kernel_rfl) (by kernel_rfl) (fun _ _ _ h=>h) rfl SC.out (by rintro w' ⟨hw1,hw2⟩; go_simp; rfl) ?_;simp only[Act.put,aH,aI,aJ];refine ag 13 rfl (by kernel_rfl) (by kernel_rfl) (by kernel_rfl) (fun _ _ _ h=>h) rfl SC.out (by rintro w' ⟨hw1,hw2⟩; go_simp; rfl) ?_;simp only[Act.put,aH,aI,aJ];refine bu (by kernel_rfl) ?_
    refine dd rfl rfl (fun K hK=> ?_);go_wp2_with fail;go_ret;exact⟨_,_,_,_,rfl,HFIN.out,HBE.out⟩
   | false=>
    have HTR:=ab htr;clear htr;refine aA [some 8,none,some 1] (by kernel_rfl) (by kernel_rfl) (by kernel_rfl) ?_;simp only[bz,List.take_succ_cons,List.take_zero,List.drop_succ_cons,List.drop_zero];rw[<-hW7];clear hW7
    repeat (first | (refine aD rfl ?_; simp only[Act.put,aH,aI,aJ]) | (refine aM rfl (fun K hK=> ?_); go_simp; refine hK _ ?_; clear hK K))
    refine aL ?_;clear x0 x1 x2 x3 x4 x5 o0 o1 o2 o3 o4 o5 o6 k6;refine bE rfl (fun K hK=> ?_);go_wp2_with (go_at_call 15; refine(qu (· <base) q.at0 g (.slice fa fl fc) (.slice da dl dcap) e false W7 HFO.out HP7.out HD7.out HOK.out HTR.out).mono ?_; rintro e8 w8 ⟨rfl,hb8⟩; have HB8:=ab hb8; clear hb8)
    repeat (first | (refine aD rfl ?_; simp only[Act.put,aH,aI,aJ]) | (refine aM rfl (fun K hK=> ?_); go_simp; refine hK _ ?_; clear hK K))
    refine aL ?_
    go_upto_region 7 with fail
    have HNO:=ab (show ∀f,fg prev e.path=some f->gq q.at0 f e=false from fun f hf=>by
     have h1:=HFIND.out;rw[hf]at h1
     cases h1
     exact HTR.out)
    have hz8:=HB8.out.size;have HX8:=ab ((HB8.out.block _ (lt_of_block HX7.out)).trans HX7.out);have HY8:=ab ((HB8.out.block _ (lt_of_block HY7.out)).trans HY7.out);have HT8:=ab (HT7.out.below HB8.out (by omega));have HE8:=ab (HE7.out.below HB8.out);have HBB8:=ab (HBB.out.trans (HB8.out.mono (by omega)));have HD8:=ab (show bi (· <base) w8 (.slice da dl dcap) e.data from aS.same HD7.out (fun k hk=>HB8.out.block k (by omega)))
    have hdl2:e.data.length<=1048576:=(mu HV.out).1 HK.out;have x4:=ai (k:=4) HX8.out;simp only[List.getElem?_toArray,bV]at x4
    go_upto_region 8 with(go_at_call 77; refine(vM base cb kb q nv (.slice da dl dcap) s.known s.news e.data w8 HT8.out.col HD8.out hdl2 hc hs HE8.out hcb hkb (by omega) h6 hn).mono ?_; rintro e9 w9 ⟨rv,nv2,rfl,ho9,hc9,hk9⟩; have HP9:=ab ho9; have HC9:=ab hc9; have HK9:=ab hk9; clear ho9 hc9 hk9)
    have hz9:=HK9.out.below.size;obtain⟨ra,rc,rfl,-,-⟩:=au HP9.out;have HPS:=ab (show(cE q.cut e.data).length=((cE q.cut e.data).map bP).length by rw[List.length_map]);obtain⟨rn,hrn⟩: ∃rn,rn=(cE q.cut e.data).length:=⟨_,rfl⟩;rw[<-hrn]at HP9 ⊢;have HRN:=ab hrn;clear hrn;have HY9:=ab ((HK9.out.same _ (lt_of_block HY8.out) (by omega) (by have:=HH.out.col.known.lt; omega) (fun e1=>by have:=HH.out.nvlt _ e1; omega)).trans HY8.out)
    have HT9:=ab (HT8.out.read (s':= {s with known:=((cE q.cut e.data).foldl bO (s.known,s.news)).1,news:=((cE q.cut e.data).foldl bO (s.known,s.news)).2}) HC9.out HK9.out rfl rfl rfl);have f6:=aO (k:=6) HY9.out;have y6:=ai (k:=6) HY9.out;simp only[List.getElem?_toArray,bV]at y6
    go_upto_region 11 with fail
    obtain⟨W10,hW10⟩: ∃W10,W10=w9.setCell ⟨w.heap.size+1,6,none⟩ (.slice ra rn rc):=⟨_,rfl⟩;rw[<-hW10];have HG10:=ab (show w9.grownBy W10 (some (w.heap.size+1)) by rw[hW10]; exact aG _ _ _ _);have HFB0:=ab (show W10.heap[w.heap.size+1]? =some (.cells #[.string e.path, .int .i64 e.kind, .int .i64 e.mode, .int .i64 e.time, .int .i64 (dl:Int), .string e.link, .slice ra rn rc] 27 (0,0)) by rw[hW10]; simpa using oq (k:=6) HY9.out (.slice ra rn rc))
    have HT10:=ab (HT9.out.other HG10.out HY9.out (fun e1=>by have:=HFL.out _ e1; omega) (by omega) (by omega));have HP10:=ab (show W10.ownsRow base 62 2 (.slice ra rn rc) rn (bg ((cE q.cut e.data).map bP)) by
     have h1:w9.ownsRow base 62 2 (.slice ra rn rc) rn (bg ((cE q.cut e.data).map bP)):=ci HP9.out (by omega);refine bA h1 (fun i hi hv=>HG10.out.block i hi (fun e1=> ?_));have h2:=(HP9.out.lt i hv).1;have h3:=Option.some.inj e1
     omega)
    have HB10:=ab (show Below base w W10 from((HBB8.out.trans HK9.out.below).grown HG10.out (by omega) (fun i e1=>by have:=Option.some.inj e1; omega)));have HC10:=ab HT10.out.col.box;have k4:=ai (k:=4) HC10.out;have f4:=aO (k:=4) HC10.out;simp only[cO,cT,List.cons_append,List.nil_append,List.getElem?_toArray,bV]at k4;have hrd:q.rd<=4096:=by rw[HT8.out.rd]; exact hrl
    clear hW10 y6 f6 x4
    go_upto_region 12 with fail
    obtain⟨WT,hWT⟩: ∃WT,WT=W10.setCell ⟨cb,4,none⟩ (.int .i64 ((q.rd:Int)+1)):=⟨_,rfl⟩;rw[<-hWT];have hz10:W7.heap.size<=W10.heap.size:=by have:=HG10.out.size; omega
    have HTT:=ab (show dE W0 WT base cb kb {q with rd:=q.rd+1} nv2 prev {s with known:=((cE q.cut e.data).foldl bO (s.known,s.news)).1,news:=((cE q.cut e.data).foldl bO (s.known,s.news)).2,read:=s.read+1} by rw[hWT]; exact HT10.out.setq 4 (.int .i64 ((q.rd:Int)+1)) (q':= {q with rd:=q.rd+1}) (s':= {s with known:=((cE q.cut e.data).foldl bO (s.known,s.news)).1,news:=((cE q.cut e.data).foldl bO (s.known,s.news)).2,read:=s.read+1}) (by simp[cO]) rfl rfl rfl rfl rfl (by show q.rd+1=s.read+1; rw[HT8.out.rd]) HT8.out.kp hcb (by omega))
    have hncb:w.heap.size+1≠cb:=by omega
    have HFB:=ab (show WT.heap[w.heap.size+1]? =some (.cells #[.string e.path, .int .i64 e.kind, .int .i64 e.mode, .int .i64 e.time, .int .i64 (dl:Int), .string e.link, .slice ra rn rc] 27 (0,0)) by rw[hWT,Below.heap_setCell _ _ _ _ hncb]; exact HFB0.out);obtain⟨ps,hps⟩: ∃ps,ps=(cE q.cut e.data).map bP:=⟨_,rfl⟩;have HPV:=ab (show WT.ownsRow base 62 2 (.slice ra rn rc) ps.length (bg ps) by
     rw[hps,<-HPS.out,<-HRN.out,hWT];refine bA HP10.out (fun i hi hv=>Below.heap_setCell _ _ _ _ (fun e1=> ?_));obtain⟨cs2,hc2⟩:=aK HP10.out hv;rw[e1]at hc2;exact absurd (aQ HC10.out hc2) (by decide))
    have HFOK:=ab (show dj ⟨e.path,e.kind,e.mode,e.time,(dl:Int),e.link,ps⟩from⟨HOK.out.pth,HOK.out.lnk,HOK.out.knd,HOK.out.mde,HOK.out.tim,nC (by omega)⟩);have HPOK:=ab (show ∀p∈ps,dk p by
     rw[hps];intro p hp;obtain⟨y,hy,rfl⟩:=List.mem_map.1 hp;have h1:=(pd hc e.data y hy).2;have h2:=fo.1 hc;exact⟨by show(jI y).size<=_; rw[kU]; unfold maxLen; omega,nC (by omega)⟩)
    have HRES:=ab (show jO q.at0 prev q.cut s e=⟨s.files++[⟨e.path,e.kind,e.mode,e.time,(dl:Int),e.link,ps⟩],((cE q.cut e.data).foldl bO (s.known,s.news)).1,((cE q.cut e.data).foldl bO (s.known,s.news)).2,s.read+1,s.kept⟩ by rw[rj HK.out HNO.out,hps,HDL.out]);have HBT:=ab (show Below base w WT by rw[hWT]; exact HB10.out.grown (aG _ _ _ _) (by omega) (fun i e1=>by cases e1; exact hcb))
    have HS2F:=ab (show s.files.length<=4096 from hfl);have hzW:w.heap.size<=WT.heap.size:=HBT.out.size;clear hWT hps k4 f4;obtain⟨zs,hzs,hzr,hzd⟩:=HTT.out.files.row;obtain⟨xa,xc,hfv,-,-⟩:=au hzr;have HZS:=ab hzs;have HZD:=ab hzd;have HZR:=ab hzr;have HFV:=ab (show q.fv= .slice xa zs.length xc from hfv);have hzl:zs.length<=4096:=by
     have h1:zs.length=s.files.length:=by have h3:=congrArg List.length hzs; rw[List.length_map]at h3; exact h3
     have h2:=HS2F.out;omega
    obtain⟨W12,hW12⟩: ∃W12:World,W12=WT.drew:=⟨_,rfl⟩;have HB12:=ab (show Below WT.heap.size WT W12 by rw[hW12]; exact(Below.refl _ _).drew);have hzT:=HB12.out.size;have HR12:=ab (show W12.ownsRow base 27 7 (.slice xa zs.length xc) zs.length (cP zs) by rw[<-hfv]; exact aV hzr HB12.out);have HF12:=ab ((HB12.out.block _ (lt_of_block HFB.out)).trans HFB.out);have HC12:=ab ((HB12.out.block _ (lt_of_block HTT.out.col.box)).trans HTT.out.col.box)
    have hne12:(Value.slice xa zs.length xc).ownBlock≠some (w.heap.size+1):=fun e1=>by
     have h1:=HFL.out (w.heap.size+1) (by rw[HFV.out]; exact e1);omega
    have HNE12:=ab hne12;clear hzs hzr hzd hfv hne12;have k1:=ai (k:=1) HC12.out;simp only[cO,cT,List.cons_append,List.nil_append,List.getElem?_toArray,bV,HFV.out]at k1;have S12:=ab (And.intro k1 HF12.out);clear k1;refine cL (fun w'=>w'.cell? ⟨cb,1,none⟩=some (.slice xa zs.length xc)/\w'.heap[w.heap.size+1]? =some (.cells #[.string e.path, .int .i64 e.kind, .int .i64 e.mode, .int .i64 e.time, .int .i64 (dl:Int), .string e.link, .slice ra rn rc] 27 (0,0))) (by kernel_rfl) (by kernel_rfl) ?_
    simp only[List.dropLast_cons_cons,List.dropLast_singleton,List.length_cons,List.length_nil,Nat.reduceAdd,Nat.reduceSub];rw[<-hW12];clear hW12;refine ag 0 rfl (by kernel_rfl) (by kernel_rfl) (by kernel_rfl) (fun _ _ _ h=>h) rfl S12.out (by rintro w' ⟨hw1,hw2⟩; go_simp; rfl) ?_;simp only[Act.put,aH,aI,aJ];refine ag 1 rfl (by kernel_rfl) (by kernel_rfl) (by kernel_rfl) (fun _ _ _ h=>h) rfl S12.out (by rintro w' ⟨hw1,hw2⟩; go_simp; rfl) ?_
    simp only[Act.put,aH,aI,aJ];refine ag 2 rfl (by kernel_rfl) (by kernel_rfl) (by kernel_rfl) (fun _ _ _ h=>h) rfl S12.out (by rintro w' ⟨hw1,hw2⟩; go_simp; rfl) ?_;simp only[Act.put,aH,aI,aJ];refine ag 3 rfl (by kernel_rfl) (by kernel_rfl) (by kernel_rfl) (fun _ _ _ h=>h) rfl S12.out (by rintro w' ⟨hw1,hw2⟩; go_simp; rfl) ?_;simp only[Act.put,aH,aI,aJ];refine ag 4 rfl (by kernel_rfl) (by kernel_rfl) (by kernel_rfl) (fun _ _ _ h=>h) rfl S12.out (by rintro w' ⟨hw1,hw2⟩; go_simp; rfl) ?_
    simp only[Act.put,aH,aI,aJ];refine ag 5 rfl (by kernel_rfl) (by kernel_rfl) (by kernel_rfl) (fun _ _ _ h=>h) rfl S12.out (by rintro w' ⟨hw1,hw2⟩; go_simp; rfl) ?_;simp only[Act.put,aH,aI,aJ];refine ag 6 rfl (by kernel_rfl) (by kernel_rfl) (by kernel_rfl) (fun _ _ _ h=>h) rfl S12.out (by rintro w' ⟨hw1,hw2⟩; go_simp; rfl) ?_;simp only[Act.put,aH,aI,aJ];refine ag 7 rfl (by kernel_rfl) (by kernel_rfl) (by kernel_rfl) (fun _ _ _ h=>h) rfl S12.out (by rintro w' ⟨hw1,hw2⟩; have o0:=ai (k:=0) hw2; have o1:=ai (k:=1) hw2; have o2:=ai (k:=2) hw2; have o3:=ai (k:=3) hw2; have o4:=ai (k:=4) hw2; have o5:=ai (k:=5) hw2; have o6:=ai (k:=6) hw2; simp only[List.getElem?_toArray,bV]at o0 o1 o2 o3 o4 o5 o6; clear hw2; go_simp; rfl) ?_
    simp only[Act.put,aH,aI,aJ];refine aC 8 rfl (by kernel_rfl) rfl (fun K hK=> ?_);go_wp2_with fail;have hal:=(Below.refl W12.heap.size W12).alloc (Nat.le_refl _) (.cells #[.string e.path, .int .i64 e.kind, .int .i64 e.mode, .int .i64 e.time, .int .i64 (dl:Int), .string e.link, .slice ra rn rc] 27);refine⟨⟨(hal.cell (p:=⟨cb,1,none⟩) (lt_of_block HC12.out)).trans S12.out.1,(hal.block _ (lt_of_block HF12.out)).trans HF12.out⟩, ?_⟩
    refine aC 9 rfl (by kernel_rfl) rfl (fun K hK=> ?_);go_wp2_with (at_builtin; go_must (refine bK Tryz.appFiles rfl _ _ rfl base (.slice xa zs.length xc) zs.length (cP zs) rfl W12 [.string e.path, .int .i64 e.kind, .int .i64 e.mode, .int .i64 e.time, .int .i64 (dl:Int), .string e.link, .slice ra rn rc] _ rfl rfl (gB (f:=⟨e.path,e.kind,e.mode,e.time,(dl:Int),e.link,[]⟩)) HR12.out (by omega) (by omega) ?_); intro vp wc hown3 hg3 _ hpl3; obtain⟨ea,ec,rfl,-,-⟩:=au hown3)
    have hcb9:(Value.slice xa zs.length xc).ownBlock≠some cb:=fun e1=>by
     obtain⟨cs2,hc2⟩:=aK HR12.out e1;exact absurd (aQ HC12.out hc2) (by decide)
    have HCC:=ab ((hg3.block cb (lt_of_block HC12.out) (fun e1=>hcb9 e1.symm)).trans HC12.out);have HFC:=ab ((hg3.block _ (lt_of_block HF12.out) (fun e1=>HNE12.out e1.symm)).trans HF12.out);have HFIN:=ab (HTT.out.file (s':=jO q.at0 prev q.cut s e) (f:=⟨e.path,e.kind,e.mode,e.time,(dl:Int),e.link,ps⟩) (pv:= .slice ra rn rc) (fv':= .slice ea (zs.length+1) ec) HZS.out HZR.out HZD.out HB12.out (aV HPV.out HB12.out) HFOK.out HPOK.out hown3 (by show W12.grownBy wc q.fv.ownBlock; rw[HFV.out]; exact hg3) (by show ∀k,_->q.fv.ownBlock=some k\/_; rw[HFV.out]; exact hpl3) (by rw[HRES.out]) (by rw[HRES.out]) (by rw[HRES.out]) (by rw[HRES.out]) (by rw[HRES.out]) hcb (by omega))
    have hb1:Below base w wc:=(HBT.out.trans (HB12.out.mono (by omega))).grown hg3 (by omega) (fun i e1=>(HR12.out.lt i e1).1);have HBE:=ab (hb1.grown (aG wc cb 1 (.slice ea (zs.length+1) ec)) (by have:=hb1.size; omega) (fun i e1=>by cases e1; exact hcb));have k1:=ai (k:=1) HCC.out;have f1:=aO (k:=1) HCC.out;simp only[cO,cT,List.cons_append,List.nil_append,List.getElem?_toArray,bV,HFV.out]at k1
    have SC:=ab (And.intro k1 HFC.out);clear hown3 hg3 hpl3 hcb9 hb1 hal;refine⟨SC.out, ?_⟩;refine ag 10 rfl (by kernel_rfl) (by kernel_rfl) (by kernel_rfl) (fun _ _ _ h=>h) rfl SC.out (by rintro w' ⟨hw1,hw2⟩; go_simp; rfl) ?_;simp only[Act.put,aH,aI,aJ];refine ag 11 rfl (by kernel_rfl) (by kernel_rfl) (by kernel_rfl) (fun _ _ _ h=>h) rfl SC.out (by rintro w' ⟨hw1,hw2⟩; go_simp; rfl) ?_
    simp only[Act.put,aH,aI,aJ];refine ag 12 rfl (by kernel_rfl) (by kernel_rfl) (by kernel_rfl) (fun _ _ _ h=>h) rfl SC.out (by rintro w' ⟨hw1,hw2⟩; go_simp; rfl) ?_;simp only[Act.put,aH,aI,aJ];refine ag 13 rfl (by kernel_rfl) (by kernel_rfl) (by kernel_rfl) (fun _ _ _ h=>h) rfl SC.out (by rintro w' ⟨hw1,hw2⟩; go_simp; rfl) ?_;simp only[Act.put,aH,aI,aJ];refine bu (by kernel_rfl) ?_
    refine dd rfl rfl (fun K hK=> ?_);go_wp2_with fail;go_ret;exact⟨_,_,_,_,rfl,HFIN.out,HBE.out⟩
  ·clear x0 x1 x2 x3 x4 x5 o0 o1 o2 o3 o4 o5 o6 k6;refine aA [some 8,none,some 1] (by kernel_rfl) (by kernel_rfl) (by kernel_rfl) ?_;simp only[bz,List.take_succ_cons,List.take_zero,List.drop_succ_cons,List.drop_zero];rw[<-hW7];clear hW7
   repeat (first | (refine aD rfl ?_; simp only[Act.put,aH,aI,aJ]) | (refine aM rfl (fun K hK=> ?_); go_simp; refine hK _ ?_; clear hK K))
   refine aL ?_;refine iH rfl ?_;simp only[Act.put,aH,aI,aJ]
   repeat (first | (refine aD rfl ?_; simp only[Act.put,aH,aI,aJ]) | (refine aM rfl (fun K hK=> ?_); go_simp; refine hK _ ?_; clear hK K))
   refine aL ?_
   go_upto_region 7 with fail
   obtain⟨w8,hw8⟩: ∃w8:World,w8=W7:=⟨_,rfl⟩;have HB8:=ab (show Below W7.heap.size W7 w8 by rw[hw8]; exact Below.refl _ _);rw[<-hw8];have HNO:=ab (show ∀f,fg prev e.path=some f->gq q.at0 f e=false from fun f hf=>by rw[hfind]at hf; cases hf);clear hw8;have hz8:=HB8.out.size;have HX8:=ab ((HB8.out.block _ (lt_of_block HX7.out)).trans HX7.out);have HY8:=ab ((HB8.out.block _ (lt_of_block HY7.out)).trans HY7.out)
   have HT8:=ab (HT7.out.below HB8.out (by omega));have HE8:=ab (HE7.out.below HB8.out);have HBB8:=ab (HBB.out.trans (HB8.out.mono (by omega)));have HD8:=ab (show bi (· <base) w8 (.slice da dl dcap) e.data from aS.same HD7.out (fun k hk=>HB8.out.block k (by omega)));have hdl2:e.data.length<=1048576:=(mu HV.out).1 HK.out;have x4:=ai (k:=4) HX8.out;simp only[List.getElem?_toArray,bV]at x4
   go_upto_region 8 with(go_at_call 77; refine(vM base cb kb q nv (.slice da dl dcap) s.known s.news e.data w8 HT8.out.col HD8.out hdl2 hc hs HE8.out hcb hkb (by omega) h6 hn).mono ?_; rintro e9 w9 ⟨rv,nv2,rfl,ho9,hc9,hk9⟩; have HP9:=ab ho9; have HC9:=ab hc9; have HK9:=ab hk9; clear ho9 hc9 hk9)
   have hz9:=HK9.out.below.size;obtain⟨ra,rc,rfl,-,-⟩:=au HP9.out;have HPS:=ab (show(cE q.cut e.data).length=((cE q.cut e.data).map bP).length by rw[List.length_map]);obtain⟨rn,hrn⟩: ∃rn,rn=(cE q.cut e.data).length:=⟨_,rfl⟩;rw[<-hrn]at HP9 ⊢;have HRN:=ab hrn;clear hrn;have HY9:=ab ((HK9.out.same _ (lt_of_block HY8.out) (by omega) (by have:=HH.out.col.known.lt; omega) (fun e1=>by have:=HH.out.nvlt _ e1; omega)).trans HY8.out)
   have HT9:=ab (HT8.out.read (s':= {s with known:=((cE q.cut e.data).foldl bO (s.known,s.news)).1,news:=((cE q.cut e.data).foldl bO (s.known,s.news)).2}) HC9.out HK9.out rfl rfl rfl);have f6:=aO (k:=6) HY9.out;have y6:=ai (k:=6) HY9.out;simp only[List.getElem?_toArray,bV]at y6
   go_upto_region 11 with fail
   obtain⟨W10,hW10⟩: ∃W10,W10=w9.setCell ⟨w.heap.size+1,6,none⟩ (.slice ra rn rc):=⟨_,rfl⟩;rw[<-hW10];have HG10:=ab (show w9.grownBy W10 (some (w.heap.size+1)) by rw[hW10]; exact aG _ _ _ _);have HFB0:=ab (show W10.heap[w.heap.size+1]? =some (.cells #[.string e.path, .int .i64 e.kind, .int .i64 e.mode, .int .i64 e.time, .int .i64 (dl:Int), .string e.link, .slice ra rn rc] 27 (0,0)) by rw[hW10]; simpa using oq (k:=6) HY9.out (.slice ra rn rc))
   have HT10:=ab (HT9.out.other HG10.out HY9.out (fun e1=>by have:=HFL.out _ e1; omega) (by omega) (by omega));have HP10:=ab (show W10.ownsRow base 62 2 (.slice ra rn rc) rn (bg ((cE q.cut e.data).map bP)) by
    have h1:w9.ownsRow base 62 2 (.slice ra rn rc) rn (bg ((cE q.cut e.data).map bP)):=ci HP9.out (by omega);refine bA h1 (fun i hi hv=>HG10.out.block i hi (fun e1=> ?_));have h2:=(HP9.out.lt i hv).1;have h3:=Option.some.inj e1
    omega)
   have HB10:=ab (show Below base w W10 from((HBB8.out.trans HK9.out.below).grown HG10.out (by omega) (fun i e1=>by have:=Option.some.inj e1; omega)));have HC10:=ab HT10.out.col.box;have k4:=ai (k:=4) HC10.out;have f4:=aO (k:=4) HC10.out;simp only[cO,cT,List.cons_append,List.nil_append,List.getElem?_toArray,bV]at k4;have hrd:q.rd<=4096:=by rw[HT8.out.rd]; exact hrl
   clear hW10 y6 f6 x4
   go_upto_region 12 with fail
   obtain⟨WT,hWT⟩: ∃WT,WT=W10.setCell ⟨cb,4,none⟩ (.int .i64 ((q.rd:Int)+1)):=⟨_,rfl⟩;rw[<-hWT];have hz10:W7.heap.size<=W10.heap.size:=by have:=HG10.out.size; omega
   have HTT:=ab (show dE W0 WT base cb kb {q with rd:=q.rd+1} nv2 prev {s with known:=((cE q.cut e.data).foldl bO (s.known,s.news)).1,news:=((cE q.cut e.data).foldl bO (s.known,s.news)).2,read:=s.read+1} by rw[hWT]; exact HT10.out.setq 4 (.int .i64 ((q.rd:Int)+1)) (q':= {q with rd:=q.rd+1}) (s':= {s with known:=((cE q.cut e.data).foldl bO (s.known,s.news)).1,news:=((cE q.cut e.data).foldl bO (s.known,s.news)).2,read:=s.read+1}) (by simp[cO]) rfl rfl rfl rfl rfl (by show q.rd+1=s.read+1; rw[HT8.out.rd]) HT8.out.kp hcb (by omega))
   have hncb:w.heap.size+1≠cb:=by omega
   have HFB:=ab (show WT.heap[w.heap.size+1]? =some (.cells #[.string e.path, .int .i64 e.kind, .int .i64 e.mode, .int .i64 e.time, .int .i64 (dl:Int), .string e.link, .slice ra rn rc] 27 (0,0)) by rw[hWT,Below.heap_setCell _ _ _ _ hncb]; exact HFB0.out);obtain⟨ps,hps⟩: ∃ps,ps=(cE q.cut e.data).map bP:=⟨_,rfl⟩;have HPV:=ab (show WT.ownsRow base 62 2 (.slice ra rn rc) ps.length (bg ps) by
    rw[hps,<-HPS.out,<-HRN.out,hWT];refine bA HP10.out (fun i hi hv=>Below.heap_setCell _ _ _ _ (fun e1=> ?_));obtain⟨cs2,hc2⟩:=aK HP10.out hv;rw[e1]at hc2;exact absurd (aQ HC10.out hc2) (by decide))
   have HFOK:=ab (show dj ⟨e.path,e.kind,e.mode,e.time,(dl:Int),e.link,ps⟩from⟨HOK.out.pth,HOK.out.lnk,HOK.out.knd,HOK.out.mde,HOK.out.tim,nC (by omega)⟩);have HPOK:=ab (show ∀p∈ps,dk p by
    rw[hps];intro p hp;obtain⟨y,hy,rfl⟩:=List.mem_map.1 hp;have h1:=(pd hc e.data y hy).2;have h2:=fo.1 hc;exact⟨by show(jI y).size<=_; rw[kU]; unfold maxLen; omega,nC (by omega)⟩)
   have HRES:=ab (show jO q.at0 prev q.cut s e=⟨s.files++[⟨e.path,e.kind,e.mode,e.time,(dl:Int),e.link,ps⟩],((cE q.cut e.data).foldl bO (s.known,s.news)).1,((cE q.cut e.data).foldl bO (s.known,s.news)).2,s.read+1,s.kept⟩ by rw[rj HK.out HNO.out,hps,HDL.out]);have HBT:=ab (show Below base w WT by rw[hWT]; exact HB10.out.grown (aG _ _ _ _) (by omega) (fun i e1=>by cases e1; exact hcb))
   have HS2F:=ab (show s.files.length<=4096 from hfl);have hzW:w.heap.size<=WT.heap.size:=HBT.out.size;clear hWT hps k4 f4;obtain⟨zs,hzs,hzr,hzd⟩:=HTT.out.files.row;obtain⟨xa,xc,hfv,-,-⟩:=au hzr;have HZS:=ab hzs;have HZD:=ab hzd;have HZR:=ab hzr;have HFV:=ab (show q.fv= .slice xa zs.length xc from hfv);have hzl:zs.length<=4096:=by
    have h1:zs.length=s.files.length:=by have h3:=congrArg List.length hzs; rw[List.length_map]at h3; exact h3
    have h2:=HS2F.out;omega
   obtain⟨W12,hW12⟩: ∃W12:World,W12=WT.drew:=⟨_,rfl⟩;have HB12:=ab (show Below WT.heap.size WT W12 by rw[hW12]; exact(Below.refl _ _).drew);have hzT:=HB12.out.size;have HR12:=ab (show W12.ownsRow base 27 7 (.slice xa zs.length xc) zs.length (cP zs) by rw[<-hfv]; exact aV hzr HB12.out);have HF12:=ab ((HB12.out.block _ (lt_of_block HFB.out)).trans HFB.out);have HC12:=ab ((HB12.out.block _ (lt_of_block HTT.out.col.box)).trans HTT.out.col.box)
   have hne12:(Value.slice xa zs.length xc).ownBlock≠some (w.heap.size+1):=fun e1=>by
    have h1:=HFL.out (w.heap.size+1) (by rw[HFV.out]; exact e1);omega
   have HNE12:=ab hne12;clear hzs hzr hzd hfv hne12;have k1:=ai (k:=1) HC12.out;simp only[cO,cT,List.cons_append,List.nil_append,List.getElem?_toArray,bV,HFV.out]at k1;have S12:=ab (And.intro k1 HF12.out);clear k1;refine cL (fun w'=>w'.cell? ⟨cb,1,none⟩=some (.slice xa zs.length xc)/\w'.heap[w.heap.size+1]? =some (.cells #[.string e.path, .int .i64 e.kind, .int .i64 e.mode, .int .i64 e.time, .int .i64 (dl:Int), .string e.link, .slice ra rn rc] 27 (0,0))) (by kernel_rfl) (by kernel_rfl) ?_
   simp only[List.dropLast_cons_cons,List.dropLast_singleton,List.length_cons,List.length_nil,Nat.reduceAdd,Nat.reduceSub];rw[<-hW12];clear hW12;refine ag 0 rfl (by kernel_rfl) (by kernel_rfl) (by kernel_rfl) (fun _ _ _ h=>h) rfl S12.out (by rintro w' ⟨hw1,hw2⟩; go_simp; rfl) ?_;simp only[Act.put,aH,aI,aJ];refine ag 1 rfl (by kernel_rfl) (by kernel_rfl) (by kernel_rfl) (fun _ _ _ h=>h) rfl S12.out (by rintro w' ⟨hw1,hw2⟩; go_simp; rfl) ?_
   simp only[Act.put,aH,aI,aJ];refine ag 2 rfl (by kernel_rfl) (by kernel_rfl) (by kernel_rfl) (fun _ _ _ h=>h) rfl S12.out (by rintro w' ⟨hw1,hw2⟩; go_simp; rfl) ?_;simp only[Act.put,aH,aI,aJ];refine ag 3 rfl (by kernel_rfl) (by kernel_rfl) (by kernel_rfl) (fun _ _ _ h=>h) rfl S12.out (by rintro w' ⟨hw1,hw2⟩; go_simp; rfl) ?_;simp only[Act.put,aH,aI,aJ];refine ag 4 rfl (by kernel_rfl) (by kernel_rfl) (by kernel_rfl) (fun _ _ _ h=>h) rfl S12.out (by rintro w' ⟨hw1,hw2⟩; go_simp; rfl) ?_
   simp only[Act.put,aH,aI,aJ];refine ag 5 rfl (by kernel_rfl) (by kernel_rfl) (by kernel_rfl) (fun _ _ _ h=>h) rfl S12.out (by rintro w' ⟨hw1,hw2⟩; go_simp; rfl) ?_;simp only[Act.put,aH,aI,aJ];refine ag 6 rfl (by kernel_rfl) (by kernel_rfl) (by kernel_rfl) (fun _ _ _ h=>h) rfl S12.out (by rintro w' ⟨hw1,hw2⟩; go_simp; rfl) ?_;simp only[Act.put,aH,aI,aJ];refine ag 7 rfl (by kernel_rfl) (by kernel_rfl) (by kernel_rfl) (fun _ _ _ h=>h) rfl S12.out (by rintro w' ⟨hw1,hw2⟩; have o0:=ai (k:=0) hw2; have o1:=ai (k:=1) hw2; have o2:=ai (k:=2) hw2; have o3:=ai (k:=3) hw2; have o4:=ai (k:=4) hw2; have o5:=ai (k:=5) hw2; have o6:=ai (k:=6) hw2; simp only[List.getElem?_toArray,bV]at o0 o1 o2 o3 o4 o5 o6; clear hw2; go_simp; rfl) ?_
   simp only[Act.put,aH,aI,aJ];refine aC 8 rfl (by kernel_rfl) rfl (fun K hK=> ?_);go_wp2_with fail;have hal:=(Below.refl W12.heap.size W12).alloc (Nat.le_refl _) (.cells #[.string e.path, .int .i64 e.kind, .int .i64 e.mode, .int .i64 e.time, .int .i64 (dl:Int), .string e.link, .slice ra rn rc] 27);refine⟨⟨(hal.cell (p:=⟨cb,1,none⟩) (lt_of_block HC12.out)).trans S12.out.1,(hal.block _ (lt_of_block HF12.out)).trans HF12.out⟩, ?_⟩
   refine aC 9 rfl (by kernel_rfl) rfl (fun K hK=> ?_);go_wp2_with (at_builtin; go_must (refine bK Tryz.appFiles rfl _ _ rfl base (.slice xa zs.length xc) zs.length (cP zs) rfl W12 [.string e.path, .int .i64 e.kind, .int .i64 e.mode, .int .i64 e.time, .int .i64 (dl:Int), .string e.link, .slice ra rn rc] _ rfl rfl (gB (f:=⟨e.path,e.kind,e.mode,e.time,(dl:Int),e.link,[]⟩)) HR12.out (by omega) (by omega) ?_); intro vp wc hown3 hg3 _ hpl3; obtain⟨ea,ec,rfl,-,-⟩:=au hown3)
   have hcb9:(Value.slice xa zs.length xc).ownBlock≠some cb:=fun e1=>by
    obtain⟨cs2,hc2⟩:=aK HR12.out e1;exact absurd (aQ HC12.out hc2) (by decide)
   have HCC:=ab ((hg3.block cb (lt_of_block HC12.out) (fun e1=>hcb9 e1.symm)).trans HC12.out);have HFC:=ab ((hg3.block _ (lt_of_block HF12.out) (fun e1=>HNE12.out e1.symm)).trans HF12.out);have HFIN:=ab (HTT.out.file (s':=jO q.at0 prev q.cut s e) (f:=⟨e.path,e.kind,e.mode,e.time,(dl:Int),e.link,ps⟩) (pv:= .slice ra rn rc) (fv':= .slice ea (zs.length+1) ec) HZS.out HZR.out HZD.out HB12.out (aV HPV.out HB12.out) HFOK.out HPOK.out hown3 (by show W12.grownBy wc q.fv.ownBlock; rw[HFV.out]; exact hg3) (by show ∀k,_->q.fv.ownBlock=some k\/_; rw[HFV.out]; exact hpl3) (by rw[HRES.out]) (by rw[HRES.out]) (by rw[HRES.out]) (by rw[HRES.out]) (by rw[HRES.out]) hcb (by omega))
   have hb1:Below base w wc:=(HBT.out.trans (HB12.out.mono (by omega))).grown hg3 (by omega) (fun i e1=>(HR12.out.lt i e1).1);have HBE:=ab (hb1.grown (aG wc cb 1 (.slice ea (zs.length+1) ec)) (by have:=hb1.size; omega) (fun i e1=>by cases e1; exact hcb));have k1:=ai (k:=1) HCC.out;have f1:=aO (k:=1) HCC.out;simp only[cO,cT,List.cons_append,List.nil_append,List.getElem?_toArray,bV,HFV.out]at k1
   have SC:=ab (And.intro k1 HFC.out);clear hown3 hg3 hpl3 hcb9 hb1 hal;refine⟨SC.out, ?_⟩;refine ag 10 rfl (by kernel_rfl) (by kernel_rfl) (by kernel_rfl) (fun _ _ _ h=>h) rfl SC.out (by rintro w' ⟨hw1,hw2⟩; go_simp; rfl) ?_;simp only[Act.put,aH,aI,aJ];refine ag 11 rfl (by kernel_rfl) (by kernel_rfl) (by kernel_rfl) (fun _ _ _ h=>h) rfl SC.out (by rintro w' ⟨hw1,hw2⟩; go_simp; rfl) ?_
   simp only[Act.put,aH,aI,aJ];refine ag 12 rfl (by kernel_rfl) (by kernel_rfl) (by kernel_rfl) (fun _ _ _ h=>h) rfl SC.out (by rintro w' ⟨hw1,hw2⟩; go_simp; rfl) ?_;simp only[Act.put,aH,aI,aJ];refine ag 13 rfl (by kernel_rfl) (by kernel_rfl) (by kernel_rfl) (fun _ _ _ h=>h) rfl SC.out (by rintro w' ⟨hw1,hw2⟩; go_simp; rfl) ?_;simp only[Act.put,aH,aI,aJ];refine bu (by kernel_rfl) ?_
   refine dd rfl rfl (fun K hK=> ?_);go_wp2_with fail;go_ret;exact⟨_,_,_,_,rfl,HFIN.out,HBE.out⟩
 ·have hk2:(e.kind == 1)=false:=by simp[hk]
  have HK:=ab hk;clear hk;have x1:=ai (k:=1) HX.out;simp only[List.getElem?_toArray,bV]at x1
  go_upto_region 12 with fail
  clear x1;obtain⟨WT,hWT⟩: ∃WT:World,WT=W:=⟨_,rfl⟩;rw[<-hWT];obtain⟨ra,rn,rc,ps,hra,hrn,hrc,hps⟩: ∃(ra:Option Addr) (rn rc:Nat) (ps:List bm),ra=none/\rn=0/\rc=0/\ps=[]:=⟨_,_,_,_,rfl,rfl,rfl,rfl⟩;have HTT:=ab (show dE W0 WT base cb kb q nv prev s by rw[hWT]; exact HT0.out);have HFB:=ab (show WT.heap[w.heap.size+1]? =some (.cells #[.string e.path, .int .i64 e.kind, .int .i64 e.mode, .int .i64 e.time, .int .i64 (dl:Int), .string e.link, .slice ra rn rc] 27 (0,0)) by rw[hWT,hra,hrn,hrc]; exact HY.out)
  have HPV:=ab (show WT.ownsRow base 62 2 (.slice ra rn rc) ps.length (bg ps) by rw[hra,hrn,hrc,hps]; exact World.ownsRow_nil _ _ _ _);have HFOK:=ab (show dj ⟨e.path,e.kind,e.mode,e.time,(dl:Int),e.link,ps⟩from⟨HOK.out.pth,HOK.out.lnk,HOK.out.knd,HOK.out.mde,HOK.out.tim,nC (by omega)⟩);have HPOK:=ab (show ∀p∈ps,dk p by rw[hps]; simp);have HRES:=ab (show jO q.at0 prev q.cut s e=⟨s.files++[⟨e.path,e.kind,e.mode,e.time,(dl:Int),e.link,ps⟩],s.known,s.news,s.read,s.kept⟩ by rw[zt HK.out,hps,HDL.out])
  have HBT:=ab (show Below base w WT by rw[hWT]; exact HBW.out.mono hbz);have HS2F:=ab (show s.files.length<=4096 from hfl);have hzW:w.heap.size<=WT.heap.size:=HBT.out.size;clear hWT hra hrn hrc hps;obtain⟨zs,hzs,hzr,hzd⟩:=HTT.out.files.row;obtain⟨xa,xc,hfv,-,-⟩:=au hzr;have HZS:=ab hzs;have HZD:=ab hzd;have HZR:=ab hzr;have HFV:=ab (show q.fv= .slice xa zs.length xc from hfv)
  have hzl:zs.length<=4096:=by
   have h1:zs.length=s.files.length:=by have h3:=congrArg List.length hzs; rw[List.length_map]at h3; exact h3
   have h2:=HS2F.out;omega
  obtain⟨W12,hW12⟩: ∃W12:World,W12=WT.drew:=⟨_,rfl⟩;have HB12:=ab (show Below WT.heap.size WT W12 by rw[hW12]; exact(Below.refl _ _).drew);have hzT:=HB12.out.size;have HR12:=ab (show W12.ownsRow base 27 7 (.slice xa zs.length xc) zs.length (cP zs) by rw[<-hfv]; exact aV hzr HB12.out);have HF12:=ab ((HB12.out.block _ (lt_of_block HFB.out)).trans HFB.out);have HC12:=ab ((HB12.out.block _ (lt_of_block HTT.out.col.box)).trans HTT.out.col.box)
  have hne12:(Value.slice xa zs.length xc).ownBlock≠some (w.heap.size+1):=fun e1=>by
   have h1:=HFL.out (w.heap.size+1) (by rw[HFV.out]; exact e1);omega
  have HNE12:=ab hne12;clear hzs hzr hzd hfv hne12;have k1:=ai (k:=1) HC12.out;simp only[cO,cT,List.cons_append,List.nil_append,List.getElem?_toArray,bV,HFV.out]at k1;have S12:=ab (And.intro k1 HF12.out);clear k1;refine cL (fun w'=>w'.cell? ⟨cb,1,none⟩=some (.slice xa zs.length xc)/\w'.heap[w.heap.size+1]? =some (.cells #[.string e.path, .int .i64 e.kind, .int .i64 e.mode, .int .i64 e.time, .int .i64 (dl:Int), .string e.link, .slice ra rn rc] 27 (0,0))) (by kernel_rfl) (by kernel_rfl) ?_
  simp only[List.dropLast_cons_cons,List.dropLast_singleton,List.length_cons,List.length_nil,Nat.reduceAdd,Nat.reduceSub];rw[<-hW12];clear hW12;refine ag 0 rfl (by kernel_rfl) (by kernel_rfl) (by kernel_rfl) (fun _ _ _ h=>h) rfl S12.out (by rintro w' ⟨hw1,hw2⟩; go_simp; rfl) ?_;simp only[Act.put,aH,aI,aJ];refine ag 1 rfl (by kernel_rfl) (by kernel_rfl) (by kernel_rfl) (fun _ _ _ h=>h) rfl S12.out (by rintro w' ⟨hw1,hw2⟩; go_simp; rfl) ?_
  simp only[Act.put,aH,aI,aJ];refine ag 2 rfl (by kernel_rfl) (by kernel_rfl) (by kernel_rfl) (fun _ _ _ h=>h) rfl S12.out (by rintro w' ⟨hw1,hw2⟩; go_simp; rfl) ?_;simp only[Act.put,aH,aI,aJ];refine ag 3 rfl (by kernel_rfl) (by kernel_rfl) (by kernel_rfl) (fun _ _ _ h=>h) rfl S12.out (by rintro w' ⟨hw1,hw2⟩; go_simp; rfl) ?_;simp only[Act.put,aH,aI,aJ];refine ag 4 rfl (by kernel_rfl) (by kernel_rfl) (by kernel_rfl) (fun _ _ _ h=>h) rfl S12.out (by rintro w' ⟨hw1,hw2⟩; go_simp; rfl) ?_
  simp only[Act.put,aH,aI,aJ];refine ag 5 rfl (by kernel_rfl) (by kernel_rfl) (by kernel_rfl) (fun _ _ _ h=>h) rfl S12.out (by rintro w' ⟨hw1,hw2⟩; go_simp; rfl) ?_;simp only[Act.put,aH,aI,aJ];refine ag 6 rfl (by kernel_rfl) (by kernel_rfl) (by kernel_rfl) (fun _ _ _ h=>h) rfl S12.out (by rintro w' ⟨hw1,hw2⟩; go_simp; rfl) ?_;simp only[Act.put,aH,aI,aJ];refine ag 7 rfl (by kernel_rfl) (by kernel_rfl) (by kernel_rfl) (fun _ _ _ h=>h) rfl S12.out (by rintro w' ⟨hw1,hw2⟩; have o0:=ai (k:=0) hw2; have o1:=ai (k:=1) hw2; have o2:=ai (k:=2) hw2; have o3:=ai (k:=3) hw2; have o4:=ai (k:=4) hw2; have o5:=ai (k:=5) hw2; have o6:=ai (k:=6) hw2; simp only[List.getElem?_toArray,bV]at o0 o1 o2 o3 o4 o5 o6; clear hw2; go_simp; rfl) ?_
  simp only[Act.put,aH,aI,aJ];refine aC 8 rfl (by kernel_rfl) rfl (fun K hK=> ?_);go_wp2_with fail;have hal:=(Below.refl W12.heap.size W12).alloc (Nat.le_refl _) (.cells #[.string e.path, .int .i64 e.kind, .int .i64 e.mode, .int .i64 e.time, .int .i64 (dl:Int), .string e.link, .slice ra rn rc] 27);refine⟨⟨(hal.cell (p:=⟨cb,1,none⟩) (lt_of_block HC12.out)).trans S12.out.1,(hal.block _ (lt_of_block HF12.out)).trans HF12.out⟩, ?_⟩
  refine aC 9 rfl (by kernel_rfl) rfl (fun K hK=> ?_);go_wp2_with (at_builtin; go_must (refine bK Tryz.appFiles rfl _ _ rfl base (.slice xa zs.length xc) zs.length (cP zs) rfl W12 [.string e.path, .int .i64 e.kind, .int .i64 e.mode, .int .i64 e.time, .int .i64 (dl:Int), .string e.link, .slice ra rn rc] _ rfl rfl (gB (f:=⟨e.path,e.kind,e.mode,e.time,(dl:Int),e.link,[]⟩)) HR12.out (by omega) (by omega) ?_); intro vp wc hown3 hg3 _ hpl3; obtain⟨ea,ec,rfl,-,-⟩:=au hown3)
  have hcb9:(Value.slice xa zs.length xc).ownBlock≠some cb:=fun e1=>by
   obtain⟨cs2,hc2⟩:=aK HR12.out e1;exact absurd (aQ HC12.out hc2) (by decide)
  have HCC:=ab ((hg3.block cb (lt_of_block HC12.out) (fun e1=>hcb9 e1.symm)).trans HC12.out);have HFC:=ab ((hg3.block _ (lt_of_block HF12.out) (fun e1=>HNE12.out e1.symm)).trans HF12.out);have HFIN:=ab (HTT.out.file (s':=jO q.at0 prev q.cut s e) (f:=⟨e.path,e.kind,e.mode,e.time,(dl:Int),e.link,ps⟩) (pv:= .slice ra rn rc) (fv':= .slice ea (zs.length+1) ec) HZS.out HZR.out HZD.out HB12.out (aV HPV.out HB12.out) HFOK.out HPOK.out hown3 (by show W12.grownBy wc q.fv.ownBlock; rw[HFV.out]; exact hg3) (by show ∀k,_->q.fv.ownBlock=some k\/_; rw[HFV.out]; exact hpl3) (by rw[HRES.out]) (by rw[HRES.out]) (by rw[HRES.out]) (by rw[HRES.out]) (by rw[HRES.out]) hcb (by omega))
  have hb1:Below base w wc:=(HBT.out.trans (HB12.out.mono (by omega))).grown hg3 (by omega) (fun i e1=>(HR12.out.lt i e1).1);have HBE:=ab (hb1.grown (aG wc cb 1 (.slice ea (zs.length+1) ec)) (by have:=hb1.size; omega) (fun i e1=>by cases e1; exact hcb));have k1:=ai (k:=1) HCC.out;have f1:=aO (k:=1) HCC.out;simp only[cO,cT,List.cons_append,List.nil_append,List.getElem?_toArray,bV,HFV.out]at k1
  have SC:=ab (And.intro k1 HFC.out);clear hown3 hg3 hpl3 hcb9 hb1 hal;refine⟨SC.out, ?_⟩;refine ag 10 rfl (by kernel_rfl) (by kernel_rfl) (by kernel_rfl) (fun _ _ _ h=>h) rfl SC.out (by rintro w' ⟨hw1,hw2⟩; go_simp; rfl) ?_;simp only[Act.put,aH,aI,aJ];refine ag 11 rfl (by kernel_rfl) (by kernel_rfl) (by kernel_rfl) (fun _ _ _ h=>h) rfl SC.out (by rintro w' ⟨hw1,hw2⟩; go_simp; rfl) ?_
  simp only[Act.put,aH,aI,aJ];refine ag 12 rfl (by kernel_rfl) (by kernel_rfl) (by kernel_rfl) (fun _ _ _ h=>h) rfl SC.out (by rintro w' ⟨hw1,hw2⟩; go_simp; rfl) ?_;simp only[Act.put,aH,aI,aJ];refine ag 13 rfl (by kernel_rfl) (by kernel_rfl) (by kernel_rfl) (fun _ _ _ h=>h) rfl SC.out (by rintro w' ⟨hw1,hw2⟩; go_simp; rfl) ?_;simp only[Act.put,aH,aI,aJ];refine bu (by kernel_rfl) ?_
  refine dd rfl rfl (fun K hK=> ?_);go_wp2_with fail;go_ret;exact⟨_,_,_,_,rfl,HFIN.out,HBE.out⟩
end Go.Proofs.YtnjkpcalgoefhaaGreatDoor
namespace Go.Proofs.YtnjkpcalgoefhaaGreatDoor
open Go.RowKit
def eM :List UInt8->Nat
 | []=>0
 | b::l=>b.toNat%128+128*eM l
def nB (l:List UInt8):Nat:=eM l%18446744073709551616
def qT (data:List UInt8) (off:Nat):Nat->Nat->Except Int (Nat×Nat)
 | 0,_=> .error 3
 | f+1,k=>match data[off+k]? with
  | none=> .error 3
  | some b=>if 128<=b.toNat then qT data off f (k+1)
   else if aB (nB ((data.drop off).take (k+1)))=(data.drop off).take (k+1)then .ok (nB ((data.drop off).take (k+1)),off+k+1)else .error 3
theorem tR : ∀l:List UInt8,eM l<2^(7*l.length)
 | []=>by simp[eM]
 | b::l=>by
  have:=tR l;rw[eM,List.length_cons,show 7*(l.length+1)=7*l.length+7 by omega,Nat.pow_add];omega
theorem nA : ∀(l:List UInt8) (b:UInt8),eM (l++[b])=eM l+b.toNat%128*2^(7*l.length)
 | [],b=>by simp[eM]
 | c::l,b=>by
  rw[List.cons_append,eM,nA l b,eM,List.length_cons,show 7*(l.length+1)=7*l.length+7 by omega,Nat.pow_add,Nat.mul_add];have:128*(b.toNat%128*2^(7*l.length))=b.toNat%128*(2^(7*l.length)*2^7):=by
   rw[Nat.mul_left_comm,Nat.mul_comm 128]
  omega
theorem qy : ∀(f n:Nat),n<2^(7*(f+1))->eM (ep f n)=n
 | 0,n,h=>by
  have h1:n<128:=h;rw[ep,eM,eM,UInt8.toNat_ofNat_of_lt' (by show n<256; omega)]; omega
 | f+1,n,h=>by
  rw[ep]
  split
  ·rw[eM,qy f (n/128) (by
    rw[show 7*(f+1+1)=7*(f+1)+7 by omega,Nat.pow_add]at h;exact Nat.div_lt_of_lt_mul (by omega)),UInt8.toNat_ofNat_of_lt' (by show _<256; omega)]
   omega
  ·rw[eM,eM,UInt8.toNat_ofNat_of_lt' (by show n<256; omega)]; omega
theorem vg : ∀(f n:Nat) (c:UInt8) (l:List UInt8),0<n->n<2^(7*(f+1))->ep f n=l++[c]->c.toNat≠0
 | 0,n,c,l,h0,h,he=>by
  have h1:n<128:=h;rw[ep]at he;have:c=UInt8.ofNat n:=by
   have:=congrArg List.getLast? he
   simpa using this.symm
  rw[this,UInt8.toNat_ofNat_of_lt' (by show n<256; omega)]; omega
 | f+1,n,c,l,h0,h,he=>by
  rw[ep]at he
  split at he
  ·cases l with
   | nil=>
    simp only[List.nil_append,List.cons.injEq]at he;have:=congrArg List.length he.2;have h3:(ep f (n/128)).length≠0:=by cases f<;> (rw[ep]; try split)<;> simp
    simp at this; exact absurd (by simp[this]) h3
   | cons d l=>
    simp only[List.cons_append,List.cons.injEq]at he;exact vg f (n/128) c l (by omega) (by
     rw[show 7*(f+1+1)=7*(f+1)+7 by omega,Nat.pow_add]at h;exact Nat.div_lt_of_lt_mul (by omega)) he.2
  ·have:c=UInt8.ofNat n:=by
    have:=congrArg List.getLast? he
    simpa using this.symm
   rw[this,UInt8.toNat_ofNat_of_lt' (by show n<256; omega)]; omega
theorem yR : ∀(f:Nat) (l:List UInt8) (c:UInt8),(∀b∈l,128<=b.toNat)->c.toNat<128->(l≠[]->c.toNat≠0)->l.length<=f->ep f (eM (l++[c]))=l++[c]
 | f,[],c,_,h2,_,_=>by
  have hv:eM ([]++[c])=c.toNat:=by simp[eM]; omega
  rw[hv];have hc:UInt8.ofNat c.toNat=c:=UInt8.ofNat_toNat
  cases f with
  | zero=>rw[ep,hc]; rfl
  | succ f=>rw[ep,if_neg (by omega),hc]; rfl
 | 0,b::l,c,_,_,_,h4=>by simp at h4
 | f+1,b::l,c,h1,h2,h3,h4=>by
  have hb:=h1 b (by simp);have hb8:=b.toNat_lt;have hr:=yR f l c (fun x hx=>h1 x (by simp[hx])) h2 (fun _=>h3 (by simp)) (by simpa using h4);have hp:0<eM (l++[c]):=by
   rw[nA];have hc:=h3 (by simp);have:0<c.toNat%128*2^(7*l.length):=Nat.mul_pos (by omega) (Nat.two_pow_pos _);omega
  rw[List.cons_append,ep,eM,if_pos (by omega),show(b.toNat%128+128*eM (l++[c]))/128=eM (l++[c]) by omega,hr,
   show(b.toNat%128+128*eM (l++[c]))%128+128=b.toNat by omega,UInt8.ofNat_toNat]
theorem CJ (m x k:Nat) (h:m<2^k):m ||| (x*2^k)=m+x*2^k:=by
 rw[Nat.or_comm,Nat.mul_comm,<-Nat.two_pow_add_eq_or_of_lt h,Nat.add_comm]
theorem CH (m:Nat) (b:UInt8) (k:Nat) (hk:k<=9) (h:m<2^(7*k)):qS m b k=(m+b.toNat%128*2^(7*k))%18446744073709551616:=by
 unfold qS;have hb:b.toNat%128<128:=by omega
 generalize b.toNat%128=x at hb
 by_cases h9:k=9
 ·subst h9;have e:x*2^(7*9)%18446744073709551616=x%2*2^(7*9):=by
   simp only[Nat.reduceMul,Nat.reducePow]; omega
  rw[e,CJ _ _ _ h];simp only[Nat.reduceMul,Nat.reducePow]at *;omega
 ·have hp:2^(7*k)*128<=18446744073709551616:=by
   rw[show(128:Nat)=2^7 from rfl,show(18446744073709551616:Nat)=2^64 from rfl,<-Nat.pow_add];exact Nat.pow_le_pow_right (by omega) (by omega)
  have hx:x*2^(7*k)+2^(7*k)<=2^(7*k)*128:=by
   rw[Nat.mul_comm (2^(7*k)),<-Nat.succ_mul]; exact Nat.mul_le_mul_right _ (by omega)
  rw[Nat.mod_eq_of_lt (by omega),CJ _ _ _ h,Nat.mod_eq_of_lt (by omega)]
theorem vo (data:List UInt8) (off:Nat): ∀(f k:Nat),k+f=10->(∀b∈(data.drop off).take k,128<=b.toNat)->off+k<=data.length->
  iA data f k (off+k) (eM ((data.drop off).take k))=qT data off f k
 | 0,_,_,_,_=>rfl
 | f+1,k,hk,hp,hle=>by
  rw[iA,qT]
  cases hd:data[off+k]? with
  | none=>rfl
  | some b=>
   have hb8:=b.toNat_lt;have hlt:off+k<data.length:=(List.getElem?_eq_some_iff.1 hd).1;have hlen:((data.drop off).take k).length=k:=by simp; omega
   have htk:(data.drop off).take (k+1)=(data.drop off).take k++[b]:=by
    rw[List.take_add_one,List.getElem?_drop,hd]; rfl
   have hm:=tR ((data.drop off).take k);rw[hlen]at hm;have hs:=nA ((data.drop off).take k) b;rw[hlen,<-htk]at hs;have hnn:=CH _ b k (by omega) hm;rw[<-hs]at hnn;simp only
   by_cases h128:128<=b.toNat
   ·rw[if_pos h128,if_pos h128]
    by_cases hf:f=0
    ·subst hf; rfl
    ·have hlt2:eM ((data.drop off).take (k+1))<18446744073709551616:=by
      have:=tR ((data.drop off).take (k+1));refine Nat.lt_of_lt_of_le this ?_;rw[show(18446744073709551616:Nat)=2^64 from rfl];exact Nat.pow_le_pow_right (by omega) (by simp; omega)
     rw[hnn,Nat.mod_eq_of_lt hlt2];have:=vo data off f (k+1) (by omega) (by
      intro x hx;rw[htk,List.mem_append]at hx
      rcases hx with hx | hx
      ·exact hp x hx
      ·simp at hx; subst hx; exact h128) (by omega)
     exact this
   ·rw[if_neg h128,if_neg h128,hnn];have hval:nB ((data.drop off).take (k+1))=eM ((data.drop off).take (k+1))%18446744073709551616:=rfl;have hvl:nB ((data.drop off).take (k+1))<2^(7*(10+1)):=by rw[hval]; exact Nat.lt_trans (Nat.mod_lt _ (by decide)) (by decide)
    by_cases hbad:iz b k=true
    ·rw[if_pos hbad,if_neg];intro he;have h1:=qy 10 _ hvl;rw[show ep 10 _=_ from he]at h1;simp only[iz,Bool.or_eq_true,Bool.and_eq_true,decide_eq_true_eq]at hbad
     rcases hbad with⟨h2,h3⟩ | ⟨h2,h3⟩
     ·have hpos:0<eM ((data.drop off).take (k+1))%18446744073709551616:=by
       rcases Nat.eq_zero_or_pos (eM ((data.drop off).take (k+1))%18446744073709551616)with h0 | h0
       ·exfalso
        rw[hval,h0]at he;have:=congrArg List.length he;simp[aB,ep]at this;omega
       ·exact h0
      exact vg 10 _ b ((data.drop off).take k) (by rw[hval]; exact hpos) hvl (by rw[<-htk]; exact he) h3
     ·subst h2;rw[hs]at h1;have h5:nB ((data.drop off).take (9+1))<18446744073709551616:=by rw[hval]; exact Nat.mod_lt _ (by decide)
      rw[<-h1]at h5;simp only[Nat.reduceMul,Nat.reducePow]at h5;omega
    ·rw[if_neg hbad];have hbad':iz b k=false:=by simpa using hbad
     simp only[iz,Bool.or_eq_false_iff,Bool.and_eq_false_iff,decide_eq_false_iff_not]at hbad';have hsm:eM ((data.drop off).take (k+1))<18446744073709551616:=by
      rw[hs]
      by_cases h9:k=9
      ·subst h9;have: ¬1<b.toNat:=hbad'.2.elim (fun h=>absurd rfl h) id;simp only[Nat.reduceMul,Nat.reducePow]at hm ⊢;omega
      ·have hp:2^(7*k)*128<=18446744073709551616:=by
        rw[show(128:Nat)=2^7 from rfl,show(18446744073709551616:Nat)=2^64 from rfl,<-Nat.pow_add];exact Nat.pow_le_pow_right (by omega) (by omega)
       have hx:b.toNat%128*2^(7*k)+2^(7*k)<=2^(7*k)*128:=by
        rw[Nat.mul_comm (2^(7*k)),<-Nat.succ_mul]; exact Nat.mul_le_mul_right _ (by omega)
       omega
     have hvv:nB ((data.drop off).take (k+1))=eM ((data.drop off).take (k+1)):=by rw[hval,Nat.mod_eq_of_lt hsm]
     have henc:aB (nB ((data.drop off).take (k+1)))=(data.drop off).take (k+1):=by
      rw[hvv,htk];refine yR 10 _ b hp (by omega) ?_ (by omega);intro hne;have:0<k:=by
       rcases Nat.eq_zero_or_pos k with h0 | h0
       ·subst h0; simp at hne
       ·exact h0
      rcases hbad'.1 with h | h
      ·exact absurd this h
      ·exact h
     rw[if_pos henc,Nat.mod_eq_of_lt hsm,hvv]
theorem CF (data:List UInt8) (off:Nat) (h:off<=data.length):ic data off=qT data off 10 0:=by
 have:=vo data off 10 0 rfl (by simp) (by omega)
 simpa [eM,ic]using this
theorem EM {data:List UInt8} {off f k:Nat} {b:UInt8} (h:data[off+k]? =some b) (h1: ¬128<=b.toNat) (h2:aB (nB ((data.drop off).take (k+1)))=(data.drop off).take (k+1)):qT data off (f+1) k= .ok (nB ((data.drop off).take (k+1)),off+(k+1)):=by
 rw[qT,h]; simp only[if_neg h1,if_pos h2]; rfl
theorem Ad {data:List UInt8} {off f k:Nat} {b:UInt8} (h:data[off+k]? =some b) (h1:128<=b.toNat):qT data off (f+1) k=qT data off f (k+1):=by
 rw[qT,h]; simp only[if_pos h1]
theorem qw {n:Nat} (h:n<256):(UInt8.ofNat n).toNat=n:=UInt8.toNat_ofNat_of_lt' (by exact h)
theorem rY : ∀(f n:Nat),n<2^(7*(f+1))-> ∃l c,ep f n=l++[c]/\(∀b∈l,128<=b.toNat)/\c.toNat<128
 | 0,n,h=>⟨[],UInt8.ofNat n,rfl,by simp,by
  rw[qw (by simp at h; omega)]; simpa using h⟩
 | f+1,n,h=>by
  rw[ep]
  by_cases hn:127<n
  ·rw[if_pos hn];obtain⟨l,c,h1,h2,h3⟩:=rY f (n/128) (by
    rw[show 7*(f+1+1)=7*(f+1)+7 by omega,Nat.pow_add]at h;exact Nat.div_lt_of_lt_mul (by omega))
   refine⟨UInt8.ofNat (n%128+128)::l,c,by rw[h1]; rfl,fun b hb=> ?_,h3⟩
   rcases List.mem_cons.1 hb with rfl | hb
   ·rw[qw (by omega)]; omega
   ·exact h2 b hb
  ·rw[if_neg hn];exact⟨[],UInt8.ofNat n,rfl,by simp,by rw[qw (by omega)]; omega⟩
theorem pI : ∀(f n j:Nat),1<=j->n<2^(7*j)->(ep f n).length<=j
 | 0,n,j,hj,_=>by simpa [ep]using hj
 | f+1,n,j,hj,h=>by
  rw[ep]
  by_cases hn:127<n
  ·rw[if_pos hn,List.length_cons];obtain⟨j,rfl⟩: ∃k,j=k+1:=⟨j-1,by omega⟩;have hj1:1<=j:=by
    rcases Nat.eq_zero_or_pos j with e | e
    ·subst e; simp at h; omega
    ·exact e
   have:=pI f (n/128) j hj1 (by
    rw[show 7*(j+1)=7*j+7 by omega,Nat.pow_add]at h;exact Nat.div_lt_of_lt_mul (by omega))
   omega
  ·rw[if_neg hn]; simpa using hj
theorem bT {n:Nat} (h:n<18446744073709551616):(aB n).length<=10:=pI 10 n 10 (by decide) (Nat.lt_trans h (by decide))
theorem wW (n:Nat):1<=(aB n).length:=by
 unfold aB ep; split<;> simp
theorem yQ {data:List UInt8} {off:Nat} {c:UInt8} (hc:c.toNat<128) (rest:List UInt8): ∀(q p:List UInt8) (f:Nat),data.drop off=(p++q++[c])++rest->(∀b∈q,128<=b.toNat)->
  aB (nB (p++q++[c]))=p++q++[c]->q.length<f->qT data off f p.length= .ok (nB (p++q++[c]),off+(p++q++[c]).length)
 | [],p,f,hd,_,he,hf=>by
  obtain⟨f,rfl⟩: ∃g,f=g+1:=⟨f-1,by simp at hf; omega⟩;rw[List.append_nil]at hd he ⊢;have h1:data[off+p.length]? =some c:=by rw[<-List.getElem?_drop,hd]; simp
  have h2:(data.drop off).take (p.length+1)=p++[c]:=by rw[hd,List.take_left' (by simp)]
  rw[EM h1 (by omega) (by rw[h2]; exact he),h2,List.length_append,List.length_singleton,<-Nat.add_assoc]
 | b::q,p,f,hd,hq,he,hf=>by
  obtain⟨f,rfl⟩: ∃g,f=g+1:=⟨f-1,by simp at hf; omega⟩;have h1:data[off+p.length]? =some b:=by rw[<-List.getElem?_drop,hd]; simp
  rw[Ad h1 (hq b (by simp))];have:=yQ hc rest q (p++[b]) f (by rw[hd]; simp) (fun x hx=>hq x (by simp[hx])) (by simpa using he) (by simp at hf; omega);rw[List.length_append,List.length_singleton]at this;rw[this]; simp
theorem pK {data rest:List UInt8} {off n:Nat} (ho:off<=data.length) (hn:n<18446744073709551616) (h:data.drop off=aB n++rest):ic data off= .ok (n,off+(aB n).length):=by
 obtain⟨l,c,h1,h2,h3⟩:=rY 10 n (Nat.lt_trans hn (by decide));have hv:nB (aB n)=n:=by
  unfold nB aB;rw[qy 10 n (Nat.lt_trans hn (by decide)),Nat.mod_eq_of_lt hn]
 have hs:=bT hn;have he:aB n=l++[c]:=h1;rw[CF data off ho];have:=yQ (data:=data) (off:=off) h3 rest l [] 10 (by rw[h,he]; simp) h2 (by rw[List.nil_append,<-he,hv]) (by rw[he]at hs; simp at hs; omega);rw[List.length_nil,List.nil_append,<-he,hv]at this;exact this
def Ok (data:List UInt8) (s:RS):Prop:=s.err=0/\s.off<=data.length
theorem yY {α:Type} {z x:α} {r:Except Int (α×Nat)} {s:RS} {o:Nat} (h:s.err=0) (hr:r= .ok (x,o)):rv z r s=(x,⟨o,s.off,0⟩):=by unfold rv; rw[if_pos h,hr]
theorem iO {data a rest:List UInt8} {off:Nat} (ho:off<=data.length) (h:data.drop off=a++rest):off+a.length<=data.length/\data.drop (off+a.length)=rest:=by
 have h1:=congrArg List.length h;rw[List.length_drop,List.length_append]at h1;refine⟨by omega, ?_⟩;rw[<-List.drop_drop,h,List.drop_left]
theorem ny {data rest:List UInt8} {s:RS} {n:Nat} (hs:Ok data s) (hn:n<18446744073709551616) (h:data.drop s.off=aB n++rest): ∃s',jJ data s=(n,s')/\Ok data s'/\data.drop s'.off=rest:=by
 have h1:=iO hs.2 h;exact⟨_,yY hs.1 (pK hs.2 hn h),⟨rfl,h1.1⟩,h1.2⟩
theorem BZ {data rest:List UInt8} {s:RS} {n most:Nat} (hs:Ok data s) (hn:n<18446744073709551616) (hm:n<=most) (h:data.drop s.off=aB n++rest): ∃s',BW data most s=(n,s')/\Ok data s'/\data.drop s'.off=rest:=by
 have h1:=iO hs.2 h;refine⟨_,yY hs.1 (o:=s.off+(aB n).length) ?_,⟨rfl,h1.1⟩,h1.2⟩;unfold go;rw[pK hs.2 hn h];simp only;rw[if_neg (by omega)]
theorem wh {data a rest:List UInt8} {off:Nat} (ho:off<=data.length) (h:data.drop off=a++rest):el data off a.length= .ok (a,off+a.length):=by
 have h1:=(iO ho h).1;unfold el;rw[if_neg (by omega),h,List.take_left]
theorem Ga {data a rest:List UInt8} {s:RS} (hs:Ok data s) (ha:a.length=32) (h:data.drop s.off=a++rest): ∃s',smP data s=(a,s')/\Ok data s'/\data.drop s'.off=rest:=by
 have h1:=iO hs.2 h;have h2:=wh hs.2 h;rw[ha]at h2 h1;exact⟨_,yY hs.1 h2,⟨rfl,h1.1⟩,h1.2⟩
theorem DB {data a rest:List UInt8} {s:RS} {most:Nat} (hs:Ok data s) (ha:a.length<=most) (hm:most<18446744073709551616) (h:data.drop s.off=aB a.length++(a++rest)): ∃s',wm data most s=(a,s')/\Ok data s'/\data.drop s'.off=rest:=by
 have h1:=iO hs.2 h;have h3:=iO h1.1 h1.2;refine⟨_,yY hs.1 (o:=s.off+(aB a.length).length+a.length) ?_,⟨rfl,h3.1⟩,h3.2⟩;unfold dZ go;rw[pK hs.2 (by omega) h];simp only;rw[if_neg (by omega)];simp only;exact wh h1.1 h1.2
theorem kV {n:Nat} (h:n<9223372036854775808):qD n=(n:Int):=by unfold qD wrap64; omega
def dr (p:bm):List UInt8:=bl p.sum++aB p.size.toNat
def cK (f:aw):List UInt8:=aB f.path.size++(bl f.path++(aB f.kind.toNat++(aB f.mode.toNat++(aB f.time.toNat++(aB f.size.toNat++(aB f.link.size++(bl f.link++(aB f.parts.length++f.parts.flatMap dr))))))))
def cr (x:cA):List UInt8:=aB x.tm.toNat++(aB x.files.length++x.files.flatMap cK)
def vu (data:List UInt8) (s:RS):bm×RS:=(⟨⟨(smP data s).1.toArray⟩,qD (jJ data (smP data s).2).1⟩,(jJ data (smP data s).2).2)
def fi (data:List UInt8) (s0:RS):Nat->List bm×RS
 | 0=>([],s0)
 | k+1=>((fi data s0 k).1++[(vu data (fi data s0 k).2).1],(vu data (fi data s0 k).2).2)
def rM (data nm:List UInt8) (kd md td sz:Nat) (lk:List UInt8) (n:Nat) (s:RS):Option (aw×RS):=
 if(data.length-s.off)/33<n then none else some (⟨⟨nm.toArray⟩,qD kd,qD md,qD td,qD sz,⟨lk.toArray⟩,(fi data s n).1⟩,(fi data s n).2)
def ll (data:List UInt8) (s:RS):Option (aw×RS):=
 rM data (wm data 512 s).1 (jJ data (wm data 512 s).2).1 (jJ data (jJ data (wm data 512 s).2).2).1 (jJ data (jJ data (jJ data (wm data 512 s).2).2).2).1 (jJ data (jJ data (jJ data (jJ data (wm data 512 s).2).2).2).2).1
  (wm data 512 (jJ data (jJ data (jJ data (jJ data (wm data 512 s).2).2).2).2).2).1 (BW data 1048576 (wm data 512 (jJ data (jJ data (jJ data (jJ data (wm data 512 s).2).2).2).2).2).2).1 (BW data 1048576 (wm data 512 (jJ data (jJ data (jJ data (jJ data (wm data 512 s).2).2).2).2).2).2).2
theorem pw {data:List UInt8} {s s1 s2 s3 s4 s5 s6 s7:RS} {nm lk:List UInt8} {kd md td sz n:Nat} (h1:wm data 512 s=(nm,s1)) (h2:jJ data s1=(kd,s2)) (h3:jJ data s2=(md,s3)) (h4:jJ data s3=(td,s4)) (h5:jJ data s4=(sz,s5)) (h6:wm data 512 s5=(lk,s6)) (h7:BW data 1048576 s6=(n,s7)):
  ll data s=rM data nm kd md td sz lk n s7:=by
 unfold ll;simp only[h1,h2,h3,h4,h5,h6,h7]
def eD (data:List UInt8) (s0:RS):Nat->Option (List aw×RS)
 | 0=>some ([],s0)
 | k+1=>(eD data s0 k).bind fun p=>(ll data p.2).map fun q=>(p.1++[q.1],q.2)
theorem im (data:List UInt8) (s0:RS) (k:Nat):eD data s0 (k+1)=(eD data s0 k).bind fun p=>(ll data p.2).map fun q=>(p.1++[q.1],q.2):=rfl
theorem uJ {data:List UInt8} {s0:RS} {k:Nat} (h:eD data s0 k=none): ∀n,k<=n->eD data s0 n=none:=by
 intro n hn
 induction n with
 | zero=>
  obtain rfl:k=0:=by omega
  exact h
 | succ n ih=>
  by_cases e:k=n+1
  ·subst e; exact h
  ·rw[im,ih (by omega)]; rfl
def mX (data:List UInt8):Option cA:=
 (eD data (BW data 4096 (jJ data ⟨0,0,0⟩).2).2 (BW data 4096 (jJ data ⟨0,0,0⟩).2).1).bind fun p=>
  if oc data p.2=0/\cR ⟨qD (jJ data ⟨0,0,0⟩).1,p.1⟩=true then some ⟨qD (jJ data ⟨0,0,0⟩).1,p.1⟩else none
theorem fO {p:bm} :cW p=true<->p.sum.size=32/\1<=p.size/\p.size<=32768:=by unfold cW; simp[and_assoc]
theorem CL {data rest:List UInt8} {s:RS} {p:bm} (hs:Ok data s) (hp:cW p=true) (h:data.drop s.off=dr p++rest): ∃s',vu data s=(p,s')/\Ok data s'/\data.drop s'.off=rest:=by
 obtain⟨h1,h2,h3⟩:=fO.1 hp;unfold dr at h;rw[List.append_assoc]at h;obtain⟨s1,e1,o1,d1⟩:=Ga hs (by rw[<-ay]; exact h1) h;obtain⟨s2,e2,o2,d2⟩:=ny o1 (by omega) d1;refine⟨s2, ?_,o2,d2⟩;unfold vu;rw[e1];simp only;rw[e2,lr,kV (by omega)]
 congr 1
 cases p
 simp only[bm.mk.injEq,true_and]at *;omega
theorem so {data:List UInt8} : ∀(l pre:List bm) (rest:List UInt8) (s0 s:RS),fi data s0 pre.length=(pre,s)->Ok data s->(∀p∈l,cW p=true)->data.drop s.off=l.flatMap dr++rest->
  ∃s',fi data s0 (pre.length+l.length)=(pre++l,s')/\Ok data s'/\data.drop s'.off=rest
 | [],pre,rest,s0,s,h,ho,_,hd=>⟨s,by simpa using h,ho,by simpa using hd⟩
 | p::l,pre,rest,s0,s,h,ho,hv,hd=>by
  rw[List.flatMap_cons,List.append_assoc]at hd;obtain⟨s1,e1,o1,d1⟩:=CL ho (hv p (by simp)) hd;have h2:fi data s0 (pre++[p]).length=(pre++[p],s1):=by
   rw[List.length_append,List.length_singleton,fi,h];simp only;rw[e1]
  obtain⟨s2,e2,o2,d2⟩:=so l (pre++[p]) rest s0 s1 h2 o1 (fun q hq=>hv q (by simp[hq])) d1;refine⟨s2, ?_,o2,d2⟩;rw[List.length_cons,show pre.length+(l.length+1)=(pre++[p]).length+l.length by simp; omega,e2];simp
theorem uD {p:bm} (h:cW p=true):33<=(dr p).length:=by
 obtain⟨h1,_⟩:=fO.1 h;unfold dr;rw[List.length_append,<-ay,h1];have:=wW p.size.toNat
 omega
theorem jb : ∀ {l:List bm},(∀p∈l,cW p=true)->33*l.length<=(l.flatMap dr).length
 | [],_=>by simp
 | p::l,h=>by
  rw[List.flatMap_cons,List.length_append,List.length_cons];have h1:=uD (h p (by simp));have h2:=jb (l:=l) fun q hq=>h q (by simp[hq])
  omega
structure wC (f : aw) : Prop where
 path:f.path.size<=512
 link:f.link.size<=512
 kind:0<=f.kind/\f.kind<9223372036854775808
 mode:0<=f.mode/\f.mode<9223372036854775808
 time:0<=f.time/\f.time<9223372036854775808
 size:0<=f.size/\f.size<9223372036854775808
 parts: ∀p∈f.parts,cW p=true
theorem Cp {data rest:List UInt8} {s:RS} {f:aw} (hs:Ok data s) (hf:wC f) (hl:data.length<=1048576) (h:data.drop s.off=cK f++rest): ∃s',ll data s=some (f,s')/\Ok data s'/\data.drop s'.off=rest:=by
 unfold cK at h;simp only[List.append_assoc]at h;rw[ay,ay]at h;have k1:=hf.path;have k2:=hf.link;have k3:=hf.kind;have k4:=hf.mode;have k5:=hf.time;have k6:=hf.size;obtain⟨s1,e1,o1,d1⟩:=DB (most:=512) hs (by rw[<-ay]; omega) (by decide) h;obtain⟨s2,e2,o2,d2⟩:=ny o1 (by omega) d1;obtain⟨s3,e3,o3,d3⟩:=ny o2 (by omega) d2;obtain⟨s4,e4,o4,d4⟩:=ny o3 (by omega) d3
 obtain⟨s5,e5,o5,d5⟩:=ny o4 (by omega) d4;obtain⟨s6,e6,o6,d6⟩:=DB (most:=512) o5 (by rw[<-ay]; omega) (by decide) d5;have h7:33*f.parts.length<=(f.parts.flatMap dr).length:=jb hf.parts;have h8:=congrArg List.length d6;rw[List.length_drop,List.length_append,List.length_append]at h8;obtain⟨s7,e7,o7,d7⟩:=BZ (most:=1048576) o6 (by omega) (by omega) d6
 have h9:=congrArg List.length d7;rw[List.length_drop,List.length_append]at h9;obtain⟨s8,e8,o8,d8⟩:=so f.parts [] rest s7 s7 rfl o7 hf.parts d7;rw[List.length_nil,Nat.zero_add,List.nil_append]at e8;refine⟨s8, ?_,o8,d8⟩;rw[pw e1 e2 e3 e4 e5 e6 e7];unfold rM;rw[if_neg (by omega),e8];simp only;rw[lr,lr,kV (by omega),kV (by omega),kV (by omega),kV (by omega),Int.toNat_of_nonneg k3.1,Int.toNat_of_nonneg k4.1,Int.toNat_of_nonneg k5.1,Int.toNat_of_nonneg k6.1]
theorem rN {data:List UInt8} (hl:data.length<=1048576): ∀(l pre:List aw) (rest:List UInt8) (s0 s:RS),eD data s0 pre.length=some (pre,s)->Ok data s->(∀f∈l,wC f)->data.drop s.off=l.flatMap cK++rest->
  ∃s',eD data s0 (pre.length+l.length)=some (pre++l,s')/\Ok data s'/\data.drop s'.off=rest
 | [],pre,rest,s0,s,h,ho,_,hd=>⟨s,by simpa using h,ho,by simpa using hd⟩
 | p::l,pre,rest,s0,s,h,ho,hv,hd=>by
  rw[List.flatMap_cons,List.append_assoc]at hd;obtain⟨s1,e1,o1,d1⟩:=Cp ho (hv p (by simp)) hl hd;have h2:eD data s0 (pre++[p]).length=some (pre++[p],s1):=by
   rw[List.length_append,List.length_singleton,im,h];simp only[Option.bind_some];rw[e1]; rfl
  obtain⟨s2,e2,o2,d2⟩:=rN hl l (pre++[p]) rest s0 s1 h2 o1 (fun q hq=>hv q (by simp[hq])) d1;refine⟨s2, ?_,o2,d2⟩;rw[List.length_cons,show pre.length+(l.length+1)=(pre++[p]).length+l.length by simp; omega,e2];simp
theorem wk : ∀(l:List bm) (a:Int),0<=a->l.all cW=true->a+32768*(l.length:Int)<=9223372036854775807->0<=l.foldl (fun a p=>wrap64 (a+p.size)) a/\l.foldl (fun a p=>wrap64 (a+p.size)) a<=a+32768*(l.length:Int)
 | [],a,h0,_,_=>by simp; omega
 | p::l,a,h0,ha,h=>by
  rw[List.all_cons,Bool.and_eq_true]at ha;have h4:=fO.1 ha.1;rw[List.length_cons]at h ⊢;rw[List.foldl_cons,sQ (by omega) (by omega)];have:=wk l (a+p.size) (by omega) ha.2 (by omega);omega
theorem Fo {l:List bm} (h:l.all cW=true) (hl:l.length<=1048576):0<=jo l:=(wk l 0 (by omega) h (by omega)).1
def wfF (f:aw):Prop:=(Lit.int .i64 f.kind).wf=true/\(Lit.int .i64 f.mode).wf=true/\(Lit.int .i64 f.time).wf=true/\f.parts.length<=1048576
theorem mw {f:aw} (he:cC (fH f)=true) (hs:cJ f=true) (hw:wfF f):wC f:=by
 obtain⟨pa,kd,md,tm,sz,li,ps⟩:=f;have he:cC ⟨pa,kd,md,tm,[],li⟩=true:=he;obtain⟨w1,w2,w3,w4⟩:=hw;have e:IntKind.i64.max=9223372036854775807:=by decide
 simp only[Lit.wf,Bool.and_eq_true,decide_eq_true_eq,e]at w1 w2 w3;have hp:=cB he;have hp2:pa.size<=512:=by
  simp only[bJ,Bool.and_eq_true,decide_eq_true_eq]at hp;have:=hp.1.1;rw[ay];exact this
 unfold cC iB ez at he;simp only[Bool.and_eq_true,decide_eq_true_eq]at he;obtain⟨⟨_,⟨m0,m1⟩,t0⟩,hk⟩:=he;have hkl:(kd=1\/kd=2\/kd=3)/\li.size<=512:=by
  by_cases k1:kd=1
  ·rw[if_pos k1]at hk; simp only[Bool.and_eq_true,decide_eq_true_eq]at hk; exact⟨.inl k1,by omega⟩
  ·rw[if_neg k1]at hk
   by_cases k2:kd=2
   ·rw[if_pos k2]at hk; simp only[Bool.and_eq_true,decide_eq_true_eq]at hk; exact⟨.inr (.inl k2),by omega⟩
   ·rw[if_neg k2]at hk
    by_cases k3:kd=3
    ·rw[if_pos k3]at hk;unfold jp at hk;simp only[Bool.and_eq_true,decide_eq_true_eq]at hk;exact⟨.inr (.inr k3),by rw[ay]; exact hk.2.1.2⟩
    ·rw[if_neg k3]at hk; cases hk
 refine⟨hp2,hkl.2,⟨show 0<=kd by omega,show kd<_ by omega⟩,⟨m0,show md<_ by omega⟩,⟨t0,show tm<_ by omega⟩, ?_, ?_⟩
 ·show 0<=sz/\sz<_
  by_cases k1:kd=1
  ·rw[jq k1]at hs;simp only[Bool.and_eq_true,decide_eq_true_eq]at hs;obtain⟨ha,h1,h2⟩:=hs;have:=Fo ha w4;omega
  ·rw[ky k1]at hs;simp only[Bool.and_eq_true,decide_eq_true_eq]at hs;omega
 ·show ∀p∈ps,cW p=true
  by_cases k1:kd=1
  ·rw[jq k1]at hs;simp only[Bool.and_eq_true]at hs;exact List.all_eq_true.1 hs.1
  ·rw[ky k1]at hs;simp only[Bool.and_eq_true,decide_eq_true_eq]at hs;rw[hs.2]; simp
theorem gC {x:cA} (h:cR x=true):0<=x.tm/\x.files.length<=4096/\ ∀f∈x.files,cC (fH f)=true/\cJ f=true:=by
 unfold cR at h;simp only[Bool.and_eq_true,decide_eq_true_eq]at h;have hT:=fE.1 h.2;exact⟨h.1.1.1,h.1.1.2,fun f hf=>⟨hT.val (fH f) (List.mem_map_of_mem hf),List.all_eq_true.1 h.1.2 f hf⟩⟩
theorem Ev {x:cA} (h:cR x=true) (hw: ∀f∈x.files,wfF f) (ht:x.tm<9223372036854775808) (hl:(cr x).length<=1048576):mX (cr x)=some x:=by
 obtain⟨h1,h2,h3⟩:=gC h;obtain⟨s1,e1,o1,d1⟩:=ny (data:=cr x) (s:=⟨0,0,0⟩) (n:=x.tm.toNat) ⟨rfl,Nat.zero_le _⟩ (by omega) rfl;obtain⟨s2,e2,o2,d2⟩:=BZ (most:=4096) o1 (by omega) h2 d1;obtain⟨s3,e3,o3,d3⟩:=rN hl x.files [] [] s2 s2 rfl o2 (fun f hf=>mw (h3 f hf).1 (h3 f hf).2 (hw f hf)) (by rw[d2,List.append_nil]);rw[List.length_nil,Nat.zero_add,List.nil_append]at e3
 have he:oc (cr x) s3=0:=by
  unfold oc;rw[if_pos o3.1,if_neg];have:=congrArg List.length d3;rw[List.length_drop,List.length_nil]at this;omega
 unfold mX;rw[e1];simp only;rw[e2];simp only;rw[e3];simp only[Option.bind_some];have hx:(⟨qD x.tm.toNat,x.files⟩:cA)=x:=by
  rw[kV (by omega),Int.toNat_of_nonneg h1]
 rw[hx,if_pos ⟨he,h⟩]
open Go Go.RowKit
theorem Cy (rb:Nat) (v:Value) (data:List UInt8) (s:RS) (w:World) (hr:mQ w rb v data s):
  Calls Tryz.prog 52 #[.pointer (some ⟨rb,0,none⟩)] w fun e w'=> ∃lf:Nat,lf=data.length-s.off/\lf<=32768/\e= .returned (.int .i64 (lf:Int))/\Below w.heap.size w w':=by
 obtain⟨a,cap,rfl,hc,hcm,-⟩:=aW.shape hr;unfold maxLen at hcm;have c0:=aW.c0 hr;have c1:=aW.c1 hr;have hsm:=aW.small hr;have hle:=aW.le hr;clear hr;obtain⟨lf,hlf⟩: ∃lf,lf=data.length-s.off:=⟨_,rfl⟩;have e1:IntKind.i64.wrap ((data.length:Int)-(s.off:Int))=(lf:Int):=by rw[IntWalk.i64_in _ (by omega)]; omega
 have HL:=ab hlf;clear hlf
 go_enter Tryz.func52,Tryz.ntmps52
 go_wp2_with fail
 go_quiet (fail)
 go_wp2_with fail;go_ret;exact⟨lf,HL.out,by have:=HL.out; omega,rfl,cu (Below.refl _ _) _⟩
theorem Dz (n:Nat):IntKind.i64.wrap (n:Int)=qD n:=by unfold qD wrap64; rw[IntKind.wrap_i64]
theorem vB {data:List UInt8} {s0 s s1 s2:RS} {j n:Nat} {l:List bm} {bs:List UInt8} (h:fi data s0 j=(l,s)) (h1:smP data s=(bs,s1)) (h2:jJ data s1=(n,s2)):fi data s0 (j+1)=(l++[⟨⟨bs.toArray⟩,qD n⟩],s2):=by
 rw[fi,h];simp only;unfold vu;rw[h1];simp only;rw[h2]
theorem uK {data:List UInt8} {s0 s s':RS} {k:Nat} {l:List aw} {f:aw} (h:eD data s0 k=some (l,s)) (h1:ll data s=some (f,s')):eD data s0 (k+1)=some (l++[f],s'):=by
 rw[im,h,Option.bind_some]
 show Option.map _ (ll data s)=_
 rw[h1]
 rfl
theorem uL {data:List UInt8} {s0 s:RS} {k n:Nat} {l:List aw} (h:eD data s0 k=some (l,s)) (h1:ll data s=none) (hn:k<n):eD data s0 n=none:=by
 refine uJ (k:=k+1) ?_ n (by omega);rw[im,h,Option.bind_some]
 show Option.map _ (ll data s)=_
 rw[h1]
 rfl
theorem xe {data nm lk:List UInt8} {kd md td sz n:Nat} {s s':RS} {ps:List bm} (h: ¬(data.length-s.off)/33<n) (hp:fi data s n=(ps,s')):rM data nm kd md td sz lk n s=some (⟨⟨nm.toArray⟩,qD kd,qD md,qD td,qD sz,⟨lk.toArray⟩,ps⟩,s'):=by
 unfold rM;rw[if_neg h,hp]
theorem xd {data nm lk:List UInt8} {kd md td sz n:Nat} {s:RS} (h:(data.length-s.off)/33<n):rM data nm kd md td sz lk n s=none:=if_pos h
theorem zE {data:List UInt8} {s1 s2:RS} {tm n:Nat} (h1:jJ data ⟨0,0,0⟩=(tm,s1)) (h2:BW data 4096 s1=(n,s2)) (h3:eD data s2 n=none):mX data=none:=by
 unfold mX;simp only[h1,h2,h3]
 rfl
theorem zF {data:List UInt8} {s1 s2 s3:RS} {tm n:Nat} {l:List aw} (h1:jJ data ⟨0,0,0⟩=(tm,s1)) (h2:BW data 4096 s1=(n,s2)) (h3:eD data s2 n=some (l,s3)):mX data=if oc data s3=0/\cR ⟨qD tm,l⟩=true then some ⟨qD tm,l⟩else none:=by
 unfold mX;simp only[h1,h2,h3]
 rfl
structure gG (B rb xb : Nat) (W w1 wr : World) (dv fv : Value) (data : List UInt8) (s : RS) (tm : Int) (l : List aw) : Prop where
 rd:mQ wr rb dv data s
 rd1: ∃s0,mQ w1 rb dv data s0
 box:wr.heap[xb]? =some (.cells #[.int .i64 tm,fv] 24 (0,0))
 res:wr.heap[B]? =some (.cells #[.int .i64 0, .slice none 0 0] 24 (0,0))
 own:bQ wr (xb+1) fv l
 below:Below B W wr
 lo:B<rb
 hi:w1.heap.size<=xb
 hb:B<=W.heap.size
theorem gG.next {B rb xb ib:Nat} {W w1 wr wc w':World} {dv fv fv' pv:Value} {data:List UInt8} {s s':RS} {tm:Int} {l:List aw} {f:aw} {zs:List jN} {cs:Array Value} (h:gG B rb xb W w1 wr dv fv data s tm l) (hm:ed rb ib wr wc dv data s' cs)
  (hz:zs.map Prod.snd=l) (hr:wr.ownsRow (xb+1) 27 7 fv zs.length (cP zs)) (hd: ∀z∈zs,wr.ownsRow (xb+1) 62 2 z.1 z.2.parts.length (bg z.2.parts)/\dj z.2/\ ∀p∈z.2.parts,dk p)
  (hp:wc.ownsRow (xb+1) 62 2 pv f.parts.length (bg f.parts)) (hok:dj f) (hpk: ∀p∈f.parts,dk p) (hown:w'.ownsRow (xb+1) 27 7 fv' (zs.length+1) (cP zs++bM pv f)) (hg:wc.grownBy w' fv.ownBlock) (hpl: ∀k,fv'.ownBlock=some k->fv.ownBlock=some k\/wc.heap.size<=k):
  gG B rb xb W w1 (w'.setCell ⟨xb,1,none⟩ fv') dv fv' data s' tm (l++[f]):=by
 have hlt:=hm.lt;have hgs:=hm.grown.size;have hxb:=lt_of_block h.box;have hlo:=h.lo;have hhi:=h.hi;have hbb:=h.hb;have hbz:=h.below.size;obtain⟨s0,h0⟩:=h.rd1;have hlt1:=aW.lt h0;have hfo: ∀k,fv.ownBlock=some k->xb+1<=k/\k<wr.heap.size:=fun k hk=>hr.lt k hk
 have hfx:fv'.ownBlock≠some xb:=fun e=>by
  rcases hpl xb e with e | e
  ·have:=hfo xb e; omega
  ·omega
 have hoth: ∀k,k≠xb->(w'.setCell ⟨xb,1,none⟩ fv').heap[k]? =w'.heap[k]? :=fun k hk=>Below.heap_setCell _ _ _ _ hk
 have hlow: ∀k,k<wc.heap.size->k<=xb->w'.heap[k]? =wc.heap[k]? :=fun k hk hx=>hg.block k hk (fun e=>by have:=hfo k e.symm; omega)
 have hbx:wc.heap[xb]? =some (.cells #[.int .i64 tm,fv] 24 (0,0)):=(hm.grown.block xb hxb (by simp; omega)).trans h.box;have hrdb:wr.heap[rb]? =_:=(show aW wr rb dv data s.off s.last s.err from h.rd).box;have hpart: ∀(u:Value) (q:List bm),wc.ownsRow (xb+1) 62 2 u q.length (bg q)->(w'.setCell ⟨xb,1,none⟩ fv').ownsRow (xb+1) 62 2 u q.length (bg q):=by
  intro u q hu;refine bA hu (fun i hi hv=> ?_);obtain⟨cs,hc⟩:=aK hu hv;have hi1:=(hu.lt i hv).1;rw[hoth i (by omega)];refine hg.block i hi (fun e=> ?_);obtain⟨cs2,hc2⟩:=aK hr e.symm;have hc3:=(hm.grown.block i (lt_of_block hc2) (by simp; omega)).trans hc2;exact absurd (aQ hc hc3) (by decide)
 have hold: ∀(u:Value) (q:List bm),wr.ownsRow (xb+1) 62 2 u q.length (bg q)->wc.ownsRow (xb+1) 62 2 u q.length (bg q):=fun u q hu=>bA hu (fun i hi hv=>hm.grown.block i hi (fun e=>by
  have:=(hu.lt i hv).1
  cases e
  omega))
 have hbel:Below B W wc:=h.below.grown hm.grown (by omega) (fun k e=>by cases e; omega);have hbe2:Below B W w':=hbel.grown hg (by omega) (fun k e=>by have:=hfo k e; omega);refine⟨?_,h.rd1, ?_, ?_,⟨zs++[(pv,f)],by rw[List.map_append,hz]; rfl, ?_,fun z hzm=> ?_⟩,hbe2.grown (aG w' xb 1 fv') (by have:=hg.size; omega) (fun k e=>by cases e; omega),hlo,hhi,hbb⟩
 ·exact aW.keep h0 hm.rd (fun k hk=>(hoth k (by omega)).trans (hlow k (by omega) (by omega)))
 ·rw[heap_setCell_same _ _ _ _ _ _ ((hlow xb (by omega) (Nat.le_refl _)).trans hbx)]; rfl
 ·rw[hoth B (by omega),hlow B (by omega) (by omega),hm.grown.block B (by omega) (by simp; omega)]; exact h.res
 ·rw[List.length_append,List.length_singleton,ka];exact hown.kept (aG _ _ _ _) (.inr (fun e=>hfx e))
 ·rcases List.mem_append.1 hzm with hzm | hzm
  ·exact⟨hpart _ _ (hold _ _ (hd z hzm).1),(hd z hzm).2⟩
  ·rw[List.mem_singleton]at hzm;subst hzm;exact⟨hpart _ _ hp,hok,hpk⟩
theorem gG.call {B rb xb:Nat} {W w1 wr w':World} {dv fv:Value} {data:List UInt8} {s s':RS} {tm:Int} {l:List aw} (h:gG B rb xb W w1 wr dv fv data s tm l) (h1:mQ w' rb dv data s') (hg:wr.grownBy w' (some rb)):gG B rb xb W w1 w' dv fv data s' tm l:=by
 have h2:=lt_of_block h.box;have h3:=lt_of_block h.res;have h4:=h.hb;have h5:=h.lo;have h6:=h.hi;have h7:=h.below.size;obtain⟨s0,h0⟩:=h.rd1;have hlt1:=aW.lt h0;exact⟨h1,h.rd1,(hg.block _ h2 (by simp; omega)).trans h.box,(hg.block _ h3 (by simp; omega)).trans h.res,h.own.same (fun k cs t hk hB hc ht=>hg.block k hk (by simp; omega)),h.below.grown hg (by omega) (fun k e=>by cases e; omega),h5,h6,h4⟩
theorem gG.into {B rb xb:Nat} {W w1 wr w':World} {dv fv:Value} {data:List UInt8} {s:RS} {tm:Int} {l:List aw} (h:gG B rb xb W w1 wr dv fv data s tm l) (hb:Below wr.heap.size wr w'):gG B rb xb W w1 w' dv fv data s tm l:=by
 have h1:=h.below.size;have h2:=lt_of_block h.box;have h3:=lt_of_block h.res;have h4:=h.hb;exact⟨aW.below h.rd hb,h.rd1,(hb.block _ h2).trans h.box,(hb.block _ h3).trans h.res,h.own.below hb,h.below.grown (cw hb none) (by omega) (fun k e=>by cases e),h.lo,h.hi,h.hb⟩
section
variable {w : World} {b : Nat} {a0 a1 x0 x1 : Value}
theorem Ef {a:Act} {e7:Value} (h:w.heap[b]? =some (.cells #[x0,x1] 24 (0,0)))
  (h10:a.tmps[2]? =some (.pointer (some ⟨b,0,none⟩))) (h11:a.tmps[3]? =some e7):(results Tryz.f26 a.tmps).run Tryz.prog w= .ok (.tuple #[.agg #[x0,x1],e7]) w:=by
 have m0:=ai (k:=0) h;have m1:=ai (k:=1) h;simp only[eE]at m0 m1;simp[results,Tryz.results26,go_sem,h10,h11,m0,m1]
theorem ox {a:Act} {e7:Value} {Q:Ending->World->Prop} (h:w.heap[b]? =some (.cells #[a0,a1] 24 (0,0)))
  (h10:a.tmps[2]? =some (.pointer (some ⟨b,0,none⟩))) (h11:a.tmps[3]? =some e7) (hd:a.defers=[])
  (hQ:Q (.returned (.tuple #[.agg #[x0,x1],e7])) ((w.setCell ⟨b,0,none⟩ x0).setCell ⟨b,1,none⟩ x1)):
  bodyPost Tryz.prog Tryz.f26 Q Exit.ret a ((w.setCell ⟨b,0,none⟩ x0).setCell ⟨b,1,none⟩ x1):=
 bodyPost_ret (Ef (by have h2:=heap_setCell_same _ b 1 _ _ x1 (heap_setCell_same _ b 0 _ _ x0 h); simpa using h2) h10 h11) hd hQ
theorem te {B:Nat} {u:World} (hb:Below B u w) (hB:B<=b) (hz:B<=w.heap.size):Below B u ((w.setCell ⟨b,0,none⟩ x0).setCell ⟨b,1,none⟩ x1):=by
 have hk: ∀(i:Nat),(some b)=some i->B<=i:=fun i e=>by cases e; exact hB
 have h1:=hb.grown (aG w b 0 x0) hz hk;exact h1.grown (aG _ b 1 x1) (Nat.le_trans hz (aG w b 0 x0).size) hk
end
def oE (data:List UInt8) (w:World) (e:Ending) (w':World):Prop:=Below w.heap.size w w'/\match mX data with
 | none=>e= .returned (.tuple #[.agg #[.int .i64 0, .slice none 0 0], .int .i64 3])
 | some x=> ∃fv,e= .returned (.tuple #[dQ fv x.tm, .int .i64 0])/\aT (w.heap.size<= ·) w' fv x.files
theorem jX {data:List UInt8} {w w':World} (h:mX data=none) (hb:Below w.heap.size w w'):oE data w (.returned (.tuple #[.agg #[.int .i64 0, .slice none 0 0], .int .i64 3])) w':=by
 unfold oE;rw[h];exact⟨hb,rfl⟩
theorem uv {data:List UInt8} {w w':World} {x:cA} {fv:Value} (h:mX data=some x) (hb:Below w.heap.size w w') (hf:aT (w.heap.size<= ·) w' fv x.files):oE data w (.returned (.tuple #[.agg #[.int .i64 x.tm,fv], .int .i64 0])) w':=by
 unfold oE;rw[h];exact⟨hb,fv,rfl,hf⟩
end Go.Proofs.YtnjkpcalgoefhaaGreatDoor
namespace Go.Proofs.YtnjkpcalgoefhaaGreatDoor
open Go.RowKit
theorem grownBy.refl (w:World) (r:Option Nat):w.grownBy w r:=⟨rfl,rfl,rfl,Nat.le_refl _,fun _ _ _=>rfl⟩
theorem grownBy.trans {a b c:World} {r:Option Nat} (h:a.grownBy b r) (k:b.grownBy c r):a.grownBy c r:=
 ⟨k.os.trans h.os,k.tape.trans h.tape,k.output.trans h.output,Nat.le_trans h.size k.size,fun i hi hr=>(k.block i (Nat.lt_of_lt_of_le hi h.size) hr).trans (h.block i hi hr)⟩
theorem grownBy.setCell (w:World) (a:Addr) (u:Value):w.grownBy (w.setCell a u) (some a.block):=
 ⟨rfl,rfl,rfl,by simp[World.setCell],fun k _ hr=>Below.heap_setCell _ _ _ _ (fun e=>hr (by rw[e]))⟩
theorem grownBy.of_below {w w':World} {r:Option Nat} (h:Below w.heap.size w w'):w.grownBy w' r:=⟨h.os,h.tape,h.output,h.size,fun k hk _=>h.block k hk⟩
theorem grownBy.below {B:Nat} {w0 w w':World} {b:Nat} (hb:Below B w0 w) (h:w.grownBy w' (some b)) (h1:B<=b) (h2:B<=w.heap.size):Below B w0 w':=
 hb.grown h h2 (fun k hk=>by cases hk; exact h1)
def bN (w:World) (sb:Nat) (rs:List Int):Prop:=
 ∃v,w.heap[sb]? =some (.cells #[v] 200 (0,0))/\aS (· <sb) w 1 v rs.length (rs.map (Value.int .i32))
theorem bN.lt {w:World} {sb:Nat} {rs:List Int} (h:bN w sb rs):sb<w.heap.size:=by
 obtain⟨v,h1,_⟩:=h;exact(Array.getElem?_eq_some_iff.1 h1).1
theorem ah {w:World} {b j:Nat} {cs:Array Value} {t:TypeId} {fz:Nat×Nat} (h:w.heap[b]? =some (.cells cs t fz)):w.cell? ⟨b,j,none⟩=cs[j]? :=by simp[World.cell?,h]
theorem am {w:World} {b j:Nat} {cs:Array Value} {t:TypeId} (h:w.heap[b]? =some (.cells cs t (0,0))):w.frozen? ⟨b,j,none⟩=false:=by simp[World.frozen?,h]
theorem bN.open {w:World} {sb:Nat} {rs:List Int} (h:bN w sb rs):
  ∃a cap,w.cell? ⟨sb,0,none⟩=some (.slice a rs.length cap)/\w.frozen? ⟨sb,0,none⟩=false/\rs.length<=cap/\cap<=maxLen/\(∀r t,rs=r::t-> ∃b o,a=some ⟨b,o,none⟩/\w.cell? ⟨b,o,none⟩=some (.int .i32 r)/\
   bN (w.setCell ⟨sb,0,none⟩ (.slice (some (if cap=1 then⟨b,o,none⟩else⟨b,o+1,none⟩)) t.length (cap-1))) sb t):=by
 obtain⟨v,h1,hl,a,cap,rfl,hn,hm,h0⟩:=h;refine⟨a,cap,by rw[ah h1]; simp,am h1,hn,hm, ?_⟩;rintro r t rfl
 rcases h0 with h0 | ⟨b,o,rfl,hb,hc⟩
 ·simp at h0
 ·refine⟨b,o,rfl,by have:=hc 0 (.int .i32 r) (by simp); simpa using this, ?_⟩;have hlt:sb<w.heap.size:=(Array.getElem?_eq_some_iff.1 h1).1;refine⟨.slice (some (if cap=1 then⟨b,o,none⟩else⟨b,o+1,none⟩)) t.length (cap-1), ?_,by simp,_,_,rfl,by simp at hn; omega,by omega, ?_⟩
  ·simp only[World.setCell,Array.getElem?_modify,if_true,h1]
   rfl
  ·by_cases h1c:cap=1
   ·left; simp at hn; omega
   ·right
    refine⟨b,o+1,by rw[if_neg h1c],hb,fun j u hj=> ?_⟩;rw[World.cell?_of_block (w:=w) (a:=⟨b,o+1+j,none⟩) (Below.heap_setCell _ _ _ _ (by simp; omega))];have:=hc (j+1) u (by simpa using hj);rw[show o+1+j=o+(j+1) by omega]; exact this
theorem bN.grown {w w':World} {sb:Nat} {rs:List Int} (h:bN w sb rs) (hb:Below w.heap.size w w'):bN w' sb rs:=by
 have hlt:=h.lt;obtain⟨v,h1,h2⟩:=h;exact⟨v,by rw[hb.block sb hlt]; exact h1,h2.below (by omega) hb⟩
def iT (sb:Nat) (v:Value) (rs:List Int) (w:World) (e:Ending) (w':World):Prop:=e= .returned v/\bN w' sb rs/\w.grownBy w' (some sb)
theorem qo (sb:Nat) (w:World) (h:bN w sb []):Calls Tryz.prog 191 #[.pointer (some ⟨sb,0,none⟩)] w (iT sb (.tuple #[.int .i32 0, .bool false]) [] w):=by
 obtain⟨a,cap,hc,_,_,_,_⟩:=h.open;have H:=ab h;clear h;simp only[List.length_nil]at hc
 go_enter Tryz.func191,Tryz.ntmps191
 go_wp2
 go_ret2
 exact⟨rfl,H.out,grownBy.refl _ _⟩
theorem fN (sb:Nat) (r:Int) (t:List Int) (w:World) (h:bN w sb (r::t)):Calls Tryz.prog 191 #[.pointer (some ⟨sb,0,none⟩)] w (iT sb (.tuple #[.int .i32 r, .bool true]) t w):=by
 obtain⟨a,cap,hc,hf,hn,hm,hx⟩:=h.open;obtain⟨b,o,rfl,hr,hs⟩:=hx r t rfl;have HS:=ab hs;clear h hx hs;unfold maxLen at hm;simp only[List.length_cons]at hc hn;obtain⟨n,hnn⟩: ∃n,n=t.length:=⟨_,rfl⟩;rw[<-hnn]at hc hn;have HN:=ab hnn;clear hnn
 by_cases h1:cap=1
 ·subst h1;obtain rfl:n=0:=by omega
  go_enter Tryz.func191,Tryz.ntmps191
  go_wp2
  go_ret2
  refine⟨rfl, ?_,grownBy.setCell _ _ _⟩;have:=HS.out;simp only[if_true,<-HN.out]at this;exact this
 ·have h2:(cap == 1)=false:=by simpa using h1
  go_enter Tryz.func191,Tryz.ntmps191
  go_wp2
  go_ret2
  refine⟨rfl, ?_,grownBy.setCell _ _ _⟩;have:=HS.out;rw[if_neg h1,<-HN.out]at this;exact this
theorem Fg (sb:Nat) (rs:List Int) (c:Int) (w:World) (h:bN w sb rs) (hne:rs.head? ≠some c):Calls Tryz.prog 202 #[.pointer (some ⟨sb,0,none⟩), .int .i32 c] w (iT sb (.bool false) rs w):=by
 obtain⟨a,cap,hc,hf,hn,hm,hx⟩:=h.open;have H:=ab h;clear h
 cases rs with
 | nil=>
  clear hx hne;simp only[List.length_nil]at hc
  go_enter Tryz.func202,Tryz.ntmps202
  go_wp2
  go_ret;exact⟨rfl,H.out,grownBy.refl _ _⟩
 | cons r t=>
  obtain⟨b,o,rfl,hr,-⟩:=hx r t rfl;clear hx;have h1:(r != c)=true:=by rw[bne_iff_ne]; intro e; exact hne (by rw[e]; rfl)
  simp only[List.length_cons]at hc hn;obtain⟨n,hnn⟩: ∃n,n=t.length:=⟨_,rfl⟩;rw[<-hnn]at hc hn;clear hnn hne;unfold maxLen at hm
  go_enter Tryz.func202,Tryz.ntmps202
  go_wp2
  go_ret;exact⟨rfl,H.out,grownBy.refl _ _⟩
theorem Dp (sb:Nat) (t:List Int) (c:Int) (w:World) (h:bN w sb (c::t)):Calls Tryz.prog 202 #[.pointer (some ⟨sb,0,none⟩), .int .i32 c] w (iT sb (.bool true) t w):=by
 obtain⟨a,cap,hc,hf,hn,hm,hx⟩:=h.open;obtain⟨b,o,rfl,hr,hs⟩:=hx c t rfl;have HS:=ab hs;clear h hx hs;unfold maxLen at hm;simp only[List.length_cons]at hc hn;obtain⟨n,hnn⟩: ∃n,n=t.length:=⟨_,rfl⟩;rw[<-hnn]at hc hn;have HN:=ab hnn;clear hnn
 by_cases h1:cap=1
 ·subst h1;obtain rfl:n=0:=by omega
  go_enter Tryz.func202,Tryz.ntmps202
  go_wp2
  go_ret;refine⟨rfl, ?_,grownBy.setCell _ _ _⟩;have:=HS.out;simp only[if_true,<-HN.out]at this;exact this
 ·have h2:(cap == 1)=false:=by simpa using h1
  go_enter Tryz.func202,Tryz.ntmps202
  go_wp2
  go_ret;refine⟨rfl, ?_,grownBy.setCell _ _ _⟩;have:=HS.out;rw[if_neg h1,<-HN.out]at this;exact this
theorem ph (sb:Nat) (rs:List Int) (r:Int) (t:List Int) (w:World) (h:bN w sb rs) (he:jx rs=some (r,t)):Calls Tryz.prog 203 #[.pointer (some ⟨sb,0,none⟩)] w (iT sb (.tuple #[.int .i32 r, .bool true]) t w):=by
 cases rs with
 | nil=>simp[jx]at he
 | cons c l=>
  have H:=ab h;clear h;rw[jx]at he
  by_cases h92:c=92
  ·rw[if_pos h92]at he;subst h92
   cases l with
   | nil=>simp[mz]at he
   | cons q u=>
    simp only[mz,Option.some.injEq,Prod.mk.injEq]at he;obtain⟨rfl,rfl⟩:=he
    go_enter Tryz.func203,Tryz.ntmps203
    go_wp2_with fail;refine(fN sb 92 _ w H.out).mono ?_;rintro e w1 ⟨rfl,h1,hg1⟩;have H1:=ab h1;have G1:=ab hg1;clear h1 hg1;go_wp2_with fail;refine(fN sb q u w1 H1.out).mono ?_;rintro e w2 ⟨rfl,h2,hg2⟩;have H2:=ab h2;have G2:=ab hg2;clear h2 hg2;go_wp2_with fail
    go_ret2
    exact⟨rfl,H2.out,grownBy.trans G1.out G2.out⟩
  ·rw[if_neg h92]at he
   split at he
   ·simp at he
   ·rename_i hno;simp only[Option.some.injEq,Prod.mk.injEq]at he;obtain⟨rfl,rfl⟩:=he;have e1:(c == 92)=false:=by simpa using h92
    have e2:(c == 93)=false:=by simp; omega
    have e3:(c == 94)=false:=by simp; omega
    have e4:(c == 45)=false:=by simp; omega
    clear hno h92
    go_enter Tryz.func203,Tryz.ntmps203
    go_wp2_with fail;refine(fN sb c _ w H.out).mono ?_;rintro e w1 ⟨rfl,h1,hg1⟩;have H1:=ab h1;have G1:=ab hg1;clear h1 hg1;go_wp2_with fail
    go_ret2
    exact⟨rfl,H1.out,G1.out⟩
theorem nI (sb:Nat) (rs:List Int) (w:World) (h:bN w sb rs) (he:jx rs=none):Calls Tryz.prog 203 #[.pointer (some ⟨sb,0,none⟩)] w (fun e w'=> ∃rs',iT sb (.tuple #[.int .i32 0, .bool false]) rs' w e w'):=by
 have H:=ab h;clear h
 cases rs with
 | nil=>
  go_enter Tryz.func203,Tryz.ntmps203
  go_wp2_with fail;refine(qo sb w H.out).mono ?_;rintro e w1 ⟨rfl,h1,hg1⟩;have H1:=ab h1;have G1:=ab hg1;clear h1 hg1;go_wp2_with fail
  go_ret2
  exact⟨_,rfl,H1.out,G1.out⟩
 | cons c l=>
  rw[jx]at he
  by_cases h92:c=92
  ·rw[if_pos h92]at he;subst h92
   cases l with
   | nil=>
    clear he
    go_enter Tryz.func203,Tryz.ntmps203
    go_wp2_with fail;refine(fN sb 92 _ w H.out).mono ?_;rintro e w1 ⟨rfl,h1,hg1⟩;have H1:=ab h1;have G1:=ab hg1;clear h1 hg1;go_wp2_with fail;refine(qo sb w1 H1.out).mono ?_;rintro e w2 ⟨rfl,h2,hg2⟩;have H2:=ab h2;have G2:=ab hg2;clear h2 hg2;go_wp2_with fail
    go_ret2
    exact⟨_,rfl,H2.out,grownBy.trans G1.out G2.out⟩
   | cons q u=>simp[mz]at he
  ·rw[if_neg h92]at he
   split at he
   ·rename_i hyes;have e1:(c == 92)=false:=by simpa using h92
    clear he h92
    rcases hyes with rfl | rfl | rfl
    all_goals
     go_enter Tryz.func203,Tryz.ntmps203
     go_wp2_with fail;refine(fN sb _ _ w H.out).mono ?_;rintro e w1 ⟨rfl,h1,hg1⟩;have H1:=ab h1;have G1:=ab hg1;clear h1 hg1;go_wp2_with fail
     go_ret2
     exact⟨_,rfl,H1.out,G1.out⟩
   ·simp at he
theorem qm (sb:Nat) (rs:List Int) (c:Int) (w:World) (h:bN w sb rs):Calls Tryz.prog 202 #[.pointer (some ⟨sb,0,none⟩), .int .i32 c] w (fun e w'=> ∃b rs',b=decide (rs.head? =some c)/\rs'=(if b then rs.tail else rs)/\iT sb (.bool b) rs' w e w'):=by
 by_cases hc:rs.head? =some c
 ·cases rs with
  | nil=>simp at hc
  | cons r t=>
   simp at hc; subst hc;exact(Dp sb t r w h).mono fun e w' hr=>⟨true,t,by simp,by simp,hr⟩
 ·exact(Fg sb rs c w h hc).mono fun e w' hr=>⟨false,rs,by simp[hc],by simp,hr⟩
def oB (sb:Nat) (w:World):Nat:=match w.cell? ⟨sb,0,none⟩with | some (.slice _ n _)=>n | _=>0
theorem bN.len {w:World} {sb:Nat} {rs:List Int} (h:bN w sb rs):oB sb w=rs.length:=by
 obtain⟨a,cap,hc,_⟩:=h.open;simp[oB,hc]
def lm (rs:List (Int×Int)):List Value:=rs.flatMap fun x=>[.int .i32 x.1, .int .i32 x.2]
def eH (S:Nat->Prop) (w:World) (v:Value) (rs:List (Int×Int)):Prop:=aS S w 2 v rs.length (lm rs)
theorem Tryz.appRanges :cY Tryz.prog 206 237 2 8:=cY.mk' (z:= .agg #[.int .i32 0, .int .i32 0]) Tryz.underlying206 (by kernel_rfl) rfl (by decide) (by decide)
structure gk (w : World) (sb rb tb : Nat) (neg : Bool) (rest : List Int) (acc : List (Int × Int)) (v : Value) (wr : World) : Prop where
 scan:bN wr sb rest
 res:wr.heap[rb]? =some (.cells #[.bool false, .bool false, .bool false, .slice none 0 0] 208 (0,0))
 box:wr.heap[tb]? =some (.cells #[.bool false, .bool false, .bool neg,v] 208 (0,0))
 own:wr.ownsRow (tb+1) 237 2 v acc.length (lm acc)
 nil:acc=[]->v= .slice none 0 0
 grow:w.grownBy wr (some sb)
 lt:sb<rb/\w.heap.size<=rb/\rb<tb/\tb<wr.heap.size
theorem gk.scanned {w:World} {sb rb tb:Nat} {neg:Bool} {rest rest':List Int} {acc:List (Int×Int)} {v:Value} {wr w1:World} (h:gk w sb rb tb neg rest acc v wr) (hs:bN w1 sb rest') (hg:wr.grownBy w1 (some sb)):gk w sb rb tb neg rest' acc v w1:=by
 obtain⟨_,hr,hb,ho,hn,hgr,h1,h2,h3,h4⟩:=h;refine⟨hs, ?_, ?_, ?_,hn,grownBy.trans hgr hg,h1,h2,h3,Nat.lt_of_lt_of_le h4 hg.size⟩
 ·rw[hg.block rb (by omega) (by simp; omega)]; exact hr
 ·rw[hg.block tb h4 (by simp; omega)]; exact hb
 ·refine ho.kept hg ?_
  cases hv:v.ownBlock with
  | none=>exact .inl rfl
  | some k=>right; have:=(ho.lt k hv).1; simp; omega
theorem gk.added {w:World} {sb rb tb:Nat} {neg:Bool} {rest:List Int} {acc:List (Int×Int)} {v v':Value} {wr w1:World} {lo hi:Int} (h:gk w sb rb tb neg rest acc v wr)
  (ho:w1.ownsRow (tb+1) 237 2 v' (acc.length+1) (lm acc++[.int .i32 lo, .int .i32 hi])) (hg:wr.grownBy w1 v.ownBlock):gk w sb rb tb neg rest (acc++[(lo,hi)]) v' (w1.setCell ⟨tb,3,none⟩ v')/\w1.cell? ⟨tb,3,none⟩=some v/\w1.frozen? ⟨tb,3,none⟩=false:=by
 have hI:=h;obtain⟨⟨sv,hs1,hs2⟩,hr,hb,ho0,hn,hgr,h1,h2,h3,h4⟩:=h;have hne: ∀k,k<tb+1->k<wr.heap.size->w1.heap[k]? =wr.heap[k]? :=fun k hk hk2=>hg.block k hk2 (fun e=>by have:=(ho0.lt k e.symm).1; omega)
 have htb:w1.heap[tb]? =some (.cells #[.bool false, .bool false, .bool neg,v] 208 (0,0)):=by rw[hne tb (by omega) h4]; exact hb
 refine⟨⟨⟨sv, ?_, ?_⟩, ?_, ?_, ?_,by simp, ?_,h1,h2,h3, ?_⟩,by rw[ah htb]; simp,am htb⟩
 ·rw[Below.heap_setCell _ _ _ _ (by simp; omega),hne sb (by omega) (by omega)]; exact hs1
 ·refine hs2.same (fun k hk=> ?_);rw[Below.heap_setCell _ _ _ _ (by simp; omega),hne k (by omega) (by omega)]
 ·rw[Below.heap_setCell _ _ _ _ (by simp; omega),hne rb (by omega) (by omega)]; exact hr
 ·simp only[World.setCell,Array.getElem?_modify,if_true,htb]; rfl
 ·have:=ownsRow_setCell_below ho (a:=⟨tb,3,none⟩) (by simp) v'
  simpa [lm]using this
 ·refine⟨hg.os.trans hgr.os,hg.tape.trans hgr.tape,hg.output.trans hgr.output,by have:=hg.size; have:=hgr.size; simp[World.setCell]; omega,fun k hk hr2=> ?_⟩;rw[Below.heap_setCell _ _ _ _ (by simp; omega),hne k (by omega) (by have:=hgr.size; omega)];exact hgr.block k hk hr2
 ·have:=hg.size; simp[World.setCell]; omega
theorem gW {w:World} {sb:Nat} {rs:List Int} (h:bN w sb rs) (o:Obj):bN (w.alloc o) sb rs:=h.grown ((Below.refl _ _).alloc (Nat.le_refl _) _)
theorem gk.start {w w1:World} {sb:Nat} {t:List Int} {neg:Bool} (hsb:sb<w.heap.size) (hs:bN w1 sb t) (hg:(w.alloc (.cells #[.bool false, .bool false, .bool false, .slice none 0 0] 208)).grownBy w1 (some sb)):
  gk w sb w.heap.size w1.heap.size neg t [] (.slice none 0 0) (w1.alloc (.cells #[.bool false, .bool false, .bool neg, .slice none 0 0] 208)):=by
 have h1:=hg.size;simp at h1;refine⟨gW hs _, ?_,heap_alloc_new _ _,World.ownsRow_nil _ _ _ _,fun _=>rfl, ?_,hsb,Nat.le_refl _,by omega,by simp⟩
 ·rw[Below.heap_alloc _ _ _ (by omega),hg.block _ (by simp) (by simp; omega)];exact heap_alloc_new _ _
 ·refine⟨hg.os,hg.tape,hg.output,by simp; omega,fun k hk hr=> ?_⟩;rw[Below.heap_alloc _ _ _ (by omega),hg.block k (by simp; omega) hr];exact Below.heap_alloc _ _ _ hk
def Fu (sb:Nat) (it:bL) (u:List Int) (w:World) (e:Ending) (w':World):Prop:=
 ∃v,e= .returned (.tuple #[.agg #[.bool it.star, .bool it.any, .bool it.neg,v], .bool true])/\eH (w.heap.size<= ·) w' v it.ranges/\bN w' sb u/\w.grownBy w' (some sb)
def FG (sb:Nat) (w:World) (e:Ending) (w':World):Prop:=
 ∃b u,e= .returned (.tuple #[.agg #[.bool false, .bool false, .bool b, .slice none 0 0], .bool false])/\bN w' sb u/\w.grownBy w' (some sb)
def wE (sb:Nat) (o:Option (bL×List Int)) (w:World) (e:Ending) (w':World):Prop:=
 match o with
 | some (it,u)=>Fu sb it u w e w'
 | none=>FG sb w e w'
theorem kt {w:World} {b:Nat} {x0 x1 x2 x3:Value} {T:TypeId} (h:w.heap[b]? =some (.cells #[x0,x1,x2,x3] T (0,0))) (a0 a1 a2 a3:Value):
  ((((w.setCell ⟨b,0,none⟩ a0).setCell ⟨b,1,none⟩ a1).setCell ⟨b,2,none⟩ a2).setCell ⟨b,3,none⟩ a3).heap[b]? =some (.cells #[a0,a1,a2,a3] T (0,0))/\
  w.grownBy ((((w.setCell ⟨b,0,none⟩ a0).setCell ⟨b,1,none⟩ a1).setCell ⟨b,2,none⟩ a2).setCell ⟨b,3,none⟩ a3) (some b):=by
 refine⟨?_,grownBy.trans (grownBy.trans (grownBy.trans (grownBy.setCell w ⟨b,0,none⟩ a0) (grownBy.setCell _ ⟨b,1,none⟩ a1)) (grownBy.setCell _ ⟨b,2,none⟩ a2)) (grownBy.setCell _ ⟨b,3,none⟩ a3)⟩;simp only[World.setCell,Array.getElem?_modify,if_true,h,Option.map_some]
 rfl
theorem xg {w w':World} {r:Option Nat} (h:w.grownBy w' r):w.grownBy w'.drew r:=⟨h.os,h.tape,h.output,h.size,h.block⟩
theorem oW {sb:Nat} {w w1 w2 W:World} {neg:Bool} {rest:List Int} {acc:List (Int×Int)} {v:Value} {t:List Int} (HCL:ma t=none) (HI:gk w sb w.heap.size w1.heap.size neg rest acc v w2) (hg:w2.grownBy W (some w.heap.size)):
  wE sb (ma t) w (.returned (.tuple #[.agg #[.bool false, .bool false, .bool false, .slice none 0 0], .bool false])) W:=by
 obtain⟨hsc,hr,hb,ho,hn,hgr,h1,h2,h3,h4⟩:=HI;have hsW:bN W sb rest:=by
  obtain⟨sv,hs1,hs2⟩:=hsc;exact⟨sv,by rw[hg.block sb (by omega) (by simp; omega)]; exact hs1,hs2.same (fun k hk=>hg.block k (by omega) (by simp; omega))⟩
 have hgW:w.grownBy W (some sb):=⟨hg.os.trans hgr.os,hg.tape.trans hgr.tape,hg.output.trans hgr.output,Nat.le_trans hgr.size hg.size,fun k hk hk2=>(hg.block k (by have:=hgr.size; omega) (by simp; omega)).trans (hgr.block k hk hk2)⟩;rw[HCL];exact⟨false,rest,rfl,hsW,hgW⟩
theorem Ed {sb:Nat} {w w1 w2 W:World} {neg:Bool} {rest:List Int} {acc:List (Int×Int)} {v:Value} {t t':List Int} (HCL:ma t=match dm (t'.length+1) t' []with | none=>none | some (rs,u)=>if rs=[]then none else some (⟨false,false,neg,rs⟩,u))
  (HC:dm (t'.length+1) t' []=some (acc,rest)) (HI:gk w sb w.heap.size w1.heap.size neg rest acc v w2) (hg:w2.grownBy W (some w.heap.size)):
  wE sb (ma t) w (.returned (.tuple #[.agg #[.bool false, .bool false, .bool neg,v], .bool (decide (0<acc.length))])) W:=by
 obtain⟨hsc,hr,hb,ho,hn,hgr,h1,h2,h3,h4⟩:=HI;have hsW:bN W sb rest:=by
  obtain⟨sv,hs1,hs2⟩:=hsc;exact⟨sv,by rw[hg.block sb (by omega) (by simp; omega)]; exact hs1,hs2.same (fun k hk=>hg.block k (by omega) (by simp; omega))⟩
 have hgW:w.grownBy W (some sb):=⟨hg.os.trans hgr.os,hg.tape.trans hgr.tape,hg.output.trans hgr.output,Nat.le_trans hgr.size hg.size,fun k hk hk2=>(hg.block k (by have:=hgr.size; omega) (by simp; omega)).trans (hgr.block k hk hk2)⟩;rw[HCL,HC];simp only
 split
 ·rename_i hnil;subst hnil;have:=hn rfl;subst this;exact⟨neg,rest,rfl,hsW,hgW⟩
 ·rename_i hnil;have hpos:0<acc.length:=List.length_pos_iff.2 hnil;refine⟨v,by simp[hpos], ?_,hsW,hgW⟩;refine((bp ho).same (w':=W) (fun k hk=>hg.block k (ho.lt k hk.2).2 (by simp; omega))).weak (fun k hk=>by omega)
theorem ry (sb:Nat) (t:List Int) (w:World) (h:bN w sb t) (ht:t.length<1099511627775):Calls Tryz.prog 192 #[.pointer (some ⟨sb,0,none⟩)] w (wE sb (ma t) w):=by
 have hlt:=h.lt;have H:=ab h;clear h
 go_enter Tryz.func192,Tryz.ntmps192
 go_wp2_with fail;refine(qm sb t 94 _ (gW H.out _)).mono ?_;rintro e w1 ⟨neg,t',hneg,ht',rfl,h1,hg1⟩;have HI0:=ab (gk.start (neg:=neg) hlt h1 hg1);have hcls:ma t=match dm (t'.length+1) t' []with | none=>none | some (rs,u)=>if rs=[]then none else some (⟨false,false,neg,rs⟩,u):=by
  subst hneg ht'; rfl
 have hl':t'.length<=t.length:=by
  subst ht'; split
  ·rw[List.length_tail]; omega
  ·exact Nat.le_refl _
 have HCL:=ab hcls;clear h1 hg1 hneg ht' hcls;go_wp2_with fail
 go_loopw [3] (fun _ wr=> ∃(rest:List Int) (acc:List (Int×Int)) (v:Value) (f:Nat),gk w sb w.heap.size w1.heap.size neg rest acc v wr/\rest.length<f/\acc.length+rest.length<=t.length/\dm (t'.length+1) t' []=dm f rest acc) (fun _ wr=>oB sb wr)
 case atStart=>exact⟨t',[],_,_,HI0.out,Nat.lt_succ_self _,by simp; omega,rfl⟩
 case round=>
  obtain⟨rest,acc,v,f,hI,hf,hal,hc⟩:=hrel;have HI:=ab hI;have HC:=ab hc;clear hI hc;go_wp2_with fail;refine(qm sb rest 93 wr HI.out.scan).mono ?_;rintro e w2 ⟨b2,rest2,hb2,hr2,rfl,h2,hg2⟩;have HI2:=ab (HI.out.scanned h2 hg2);clear h2 hg2
  cases b2 with
  | true=>
   obtain⟨a4,c4,hv,hn4,hm4⟩:=au HI2.out.own;subst hv;have hres:=HI2.out.res;have hbox:=HI2.out.box;have k0:w2.cell? ⟨w1.heap.size,0,none⟩=some (.bool false):=by rw[ah hbox]; rfl
   have k1:w2.cell? ⟨w1.heap.size,1,none⟩=some (.bool false):=by rw[ah hbox]; rfl
   have k2:w2.cell? ⟨w1.heap.size,2,none⟩=some (.bool neg):=by rw[ah hbox]; rfl
   have k3:w2.cell? ⟨w1.heap.size,3,none⟩=some (.slice a4 acc.length c4):=by rw[ah hbox]; rfl
   have r0:w2.cell? ⟨w.heap.size,0,none⟩=some (.bool false):=by rw[ah hres]; rfl
   have r1:w2.cell? ⟨w.heap.size,1,none⟩=some (.bool false):=by rw[ah hres]; rfl
   have r2:w2.cell? ⟨w.heap.size,2,none⟩=some (.bool false):=by rw[ah hres]; rfl
   have r3:w2.cell? ⟨w.heap.size,3,none⟩=some (.slice none 0 0):=by rw[ah hres]; rfl
   have f0:w2.frozen? ⟨w.heap.size,0,none⟩=false:=am hres;have f1:w2.frozen? ⟨w.heap.size,1,none⟩=false:=am hres;have f2:w2.frozen? ⟨w.heap.size,2,none⟩=false:=am hres;have f3:w2.frozen? ⟨w.heap.size,3,none⟩=false:=am hres;have hne: ¬w1.heap.size=w.heap.size:=by have:=HI2.out.lt; omega
   have HR:=ab hres;have hr93:rest.head? =some 93:=by simpa using hb2.symm
   have hcs:dm (t'.length+1) t' []=some (acc,rest2):=by
    obtain⟨f',rfl⟩: ∃f',f=f'+1:=⟨f-1,by omega⟩;rw[HC.out,dm,if_pos hr93,hr2]; rfl
   have HCS:=ab hcs;clear hres hbox hr2 hb2 hr93 hcs;go_wp2_with fail
   go_region
   go_wp2_with fail;obtain⟨W,hW⟩: ∃W,W=((((w2.setCell ⟨w.heap.size,0,none⟩ (.bool false)).setCell ⟨w.heap.size,1,none⟩ (.bool false)).setCell ⟨w.heap.size,2,none⟩ (.bool neg)).setCell ⟨w.heap.size,3,none⟩ (.slice a4 acc.length c4)):=⟨_,rfl⟩;rw[<-hW];have h4:=kt HR.out (.bool false) (.bool false) (.bool neg) (.slice a4 acc.length c4);rw[<-hW]at h4;obtain⟨h41,h42⟩:=h4;have m0:W.cell? ⟨w.heap.size,0,none⟩=some (.bool false):=by rw[ah h41]; rfl
   have m1:W.cell? ⟨w.heap.size,1,none⟩=some (.bool false):=by rw[ah h41]; rfl
   have m2:W.cell? ⟨w.heap.size,2,none⟩=some (.bool neg):=by rw[ah h41]; rfl
   have m3:W.cell? ⟨w.heap.size,3,none⟩=some (.slice a4 acc.length c4):=by rw[ah h41]; rfl
   clear hW;refine bodyPost_ret (v:= .tuple #[.agg #[.bool false, .bool false, .bool neg, .slice a4 acc.length c4], .bool (decide (0<acc.length))]) (by simp[results,Tryz.results192,go_sem,m0,m1,m2,m3]) rfl ?_;exact Ed HCL.out HCS.out HI2.out (xg h42)
  | false=>
   have hr93: ¬rest.head? =some 93:=by simpa using hb2.symm
   have hr2':rest2=rest:=by simpa using hr2
   subst hr2';clear hr2 hb2;obtain⟨f',rfl⟩: ∃f',f=f'+1:=⟨f-1,by omega⟩;have HN93:=ab hr93;clear hr93;have HRES:=ab HI2.out.res;go_wp2_with fail
   cases he:jx rest2 with
   | none=>
    have hfail:ma t=none:=by rw[HCL.out,HC.out,dm,if_neg HN93.out,he]
    have HF:=ab hfail;have HEl:=ab he;clear hfail he;refine(nI sb rest2 w2 HI2.out.scan HEl.out).mono ?_;rintro e w3 ⟨rest3,rfl,h3,hg3⟩;have HI3:=ab (HI2.out.scanned h3 hg3);clear h3 hg3;have hres:=HI3.out.res;have r0:w3.cell? ⟨w.heap.size,0,none⟩=some (.bool false):=by rw[ah hres]; rfl
    have r1:w3.cell? ⟨w.heap.size,1,none⟩=some (.bool false):=by rw[ah hres]; rfl
    have r2:w3.cell? ⟨w.heap.size,2,none⟩=some (.bool false):=by rw[ah hres]; rfl
    have r3:w3.cell? ⟨w.heap.size,3,none⟩=some (.slice none 0 0):=by rw[ah hres]; rfl
    have f0:w3.frozen? ⟨w.heap.size,0,none⟩=false:=am hres;have f1:w3.frozen? ⟨w.heap.size,1,none⟩=false:=am hres;have f2:w3.frozen? ⟨w.heap.size,2,none⟩=false:=am hres;have f3:w3.frozen? ⟨w.heap.size,3,none⟩=false:=am hres;have HR:=ab hres;clear hres;go_wp2_with fail;obtain⟨W,hW⟩: ∃W,W=((((w3.setCell ⟨w.heap.size,0,none⟩ (.bool false)).setCell ⟨w.heap.size,1,none⟩ (.bool false)).setCell ⟨w.heap.size,2,none⟩ (.bool false)).setCell ⟨w.heap.size,3,none⟩ (.slice none 0 0)):=⟨_,rfl⟩
    rw[<-hW];have h4:=kt HR.out (.bool false) (.bool false) (.bool false) (.slice none 0 0);rw[<-hW]at h4;obtain⟨h41,h42⟩:=h4;have m0:W.cell? ⟨w.heap.size,0,none⟩=some (.bool false):=by rw[ah h41]; rfl
    have m1:W.cell? ⟨w.heap.size,1,none⟩=some (.bool false):=by rw[ah h41]; rfl
    have m2:W.cell? ⟨w.heap.size,2,none⟩=some (.bool false):=by rw[ah h41]; rfl
    have m3:W.cell? ⟨w.heap.size,3,none⟩=some (.slice none 0 0):=by rw[ah h41]; rfl
    clear hW;refine bodyPost_ret (v:= .tuple #[.agg #[.bool false, .bool false, .bool false, .slice none 0 0], .bool false]) (by simp[results,Tryz.results192,go_sem,m0,m1,m2,m3]) rfl ?_;exact oW HF.out HI3.out h42
   | some p=>
    obtain⟨lo,t1⟩:=p;have hl1:=kF he;have HEl:=ab he;clear he;refine(ph sb rest2 lo t1 w2 HI2.out.scan HEl.out).mono ?_;rintro e w3 ⟨rfl,h3,hg3⟩;have HI3:=ab (HI2.out.scanned h3 hg3);clear h3 hg3;go_wp2_with fail;refine(qm sb t1 45 w3 HI3.out.scan).mono ?_;rintro e w4 ⟨b4,t4,hb4,hr4,rfl,h4,hg4⟩;have HI4:=ab (HI3.out.scanned h4 hg4);clear h4 hg4
    cases b4 with
    | false=>
     have hr45: ¬t1.head? =some 45:=by simpa using hb4.symm
     have hr4':t4=t1:=by simpa using hr4
     subst hr4';have hcs:dm (t'.length+1) t' []=dm f' t4 (acc++[(lo,lo)]):=by rw[HC.out,dm,if_neg HN93.out,HEl.out]; simp only; rw[if_neg hr45]
     have HCS:=ab hcs;clear hr4 hb4 hr45 hcs;have hbox:=HI4.out.box;have k3:w4.cell? ⟨w1.heap.size,3,none⟩=some v:=by rw[ah hbox]; rfl
     have HBX:=ab hbox;clear hbox;go_wp2_with (at_builtin; go_must (refine dB Tryz.appRanges rfl _ _ rfl (w1.heap.size+1) v acc.length (lm acc) rfl w4 [.int .i32 lo, .int .i32 lo] _ rfl rfl (by simp; first | rfl | exact⟨rfl,rfl⟩) HI4.out.own (by omega) (by have:=HI4.out.lt; omega) ?_); intro v' w5 hown5 hgrow5 _; obtain⟨a5,c5,rfl,-,-⟩:=au hown5; obtain⟨hI5,hc5,hf5⟩:=HI4.out.added hown5 hgrow5; have HI5:=ab hI5; clear hI5 hown5 hgrow5)
     go_wp2_with fail
     go_roundw
     case rel=>exact⟨t4,acc++[(lo,lo)],_,f',HI5.out,by omega,by simp; omega,HCS.out⟩
     case measure=>
      rw[HI5.out.scan.len,HI.out.scan.len];omega
    | true=>
     have hr45:t1.head? =some 45:=by simpa using hb4.symm
     have hr4':t4=t1.tail:=by simpa using hr4
     subst hr4';have hl4:t1.tail.length+1<=t1.length:=by
      cases t1 with
      | nil=>simp at hr45
      | cons=>simp
     have HR45:=ab hr45;clear hr4 hb4 hr45;go_wp2_with fail
     cases he6:jx t1.tail with
     | none=>
      have hfail:ma t=none:=by rw[HCL.out,HC.out,dm,if_neg HN93.out,HEl.out]; simp only; rw[if_pos HR45.out,he6]
      have HF:=ab hfail;have HE6:=ab he6;clear hfail he6;refine(nI sb _ w4 HI4.out.scan HE6.out).mono ?_;rintro e w6 ⟨rest6,rfl,h6,hg6⟩;have HI6:=ab (HI4.out.scanned h6 hg6);clear h6 hg6;have hres:=HI6.out.res;have r0:w6.cell? ⟨w.heap.size,0,none⟩=some (.bool false):=by rw[ah hres]; rfl
      have r1:w6.cell? ⟨w.heap.size,1,none⟩=some (.bool false):=by rw[ah hres]; rfl
      have r2:w6.cell? ⟨w.heap.size,2,none⟩=some (.bool false):=by rw[ah hres]; rfl
      have r3:w6.cell? ⟨w.heap.size,3,none⟩=some (.slice none 0 0):=by rw[ah hres]; rfl
      have f0:w6.frozen? ⟨w.heap.size,0,none⟩=false:=am hres;have f1:w6.frozen? ⟨w.heap.size,1,none⟩=false:=am hres;have f2:w6.frozen? ⟨w.heap.size,2,none⟩=false:=am hres;have f3:w6.frozen? ⟨w.heap.size,3,none⟩=false:=am hres;have HR:=ab hres;clear hres;go_wp2_with fail;obtain⟨W,hW⟩: ∃W,W=((((w6.setCell ⟨w.heap.size,0,none⟩ (.bool false)).setCell ⟨w.heap.size,1,none⟩ (.bool false)).setCell ⟨w.heap.size,2,none⟩ (.bool false)).setCell ⟨w.heap.size,3,none⟩ (.slice none 0 0)):=⟨_,rfl⟩
      rw[<-hW];have h4:=kt HR.out (.bool false) (.bool false) (.bool false) (.slice none 0 0);rw[<-hW]at h4;obtain⟨h41,h42⟩:=h4;have m0:W.cell? ⟨w.heap.size,0,none⟩=some (.bool false):=by rw[ah h41]; rfl
      have m1:W.cell? ⟨w.heap.size,1,none⟩=some (.bool false):=by rw[ah h41]; rfl
      have m2:W.cell? ⟨w.heap.size,2,none⟩=some (.bool false):=by rw[ah h41]; rfl
      have m3:W.cell? ⟨w.heap.size,3,none⟩=some (.slice none 0 0):=by rw[ah h41]; rfl
      clear hW;refine bodyPost_ret (v:= .tuple #[.agg #[.bool false, .bool false, .bool false, .slice none 0 0], .bool false]) (by simp[results,Tryz.results192,go_sem,m0,m1,m2,m3]) rfl ?_;exact oW HF.out HI6.out h42
     | some p=>
      obtain⟨hi,u⟩:=p;have hl6:=kF he6;have HE6:=ab he6;clear he6;refine(ph sb _ hi u w4 HI4.out.scan HE6.out).mono ?_;rintro e w6 ⟨rfl,h6,hg6⟩;have HI6:=ab (HI4.out.scanned h6 hg6);clear h6 hg6
      by_cases hlo:hi<lo
      ·have hfail:ma t=none:=by rw[HCL.out,HC.out,dm,if_neg HN93.out,HEl.out]; simp only; rw[if_pos HR45.out,HE6.out]; simp only; rw[if_pos hlo]
       have HF:=ab hfail;clear hfail;have hres:=HI6.out.res;have r0:w6.cell? ⟨w.heap.size,0,none⟩=some (.bool false):=by rw[ah hres]; rfl
       have r1:w6.cell? ⟨w.heap.size,1,none⟩=some (.bool false):=by rw[ah hres]; rfl
       have r2:w6.cell? ⟨w.heap.size,2,none⟩=some (.bool false):=by rw[ah hres]; rfl
       have r3:w6.cell? ⟨w.heap.size,3,none⟩=some (.slice none 0 0):=by rw[ah hres]; rfl
       have f0:w6.frozen? ⟨w.heap.size,0,none⟩=false:=am hres;have f1:w6.frozen? ⟨w.heap.size,1,none⟩=false:=am hres;have f2:w6.frozen? ⟨w.heap.size,2,none⟩=false:=am hres;have f3:w6.frozen? ⟨w.heap.size,3,none⟩=false:=am hres;have HR:=ab hres;clear hres;go_wp2_with fail;obtain⟨W,hW⟩: ∃W,W=((((w6.setCell ⟨w.heap.size,0,none⟩ (.bool false)).setCell ⟨w.heap.size,1,none⟩ (.bool false)).setCell ⟨w.heap.size,2,none⟩ (.bool false)).setCell ⟨w.heap.size,3,none⟩ (.slice none 0 0)):=⟨_,rfl⟩
       rw[<-hW];have h4:=kt HR.out (.bool false) (.bool false) (.bool false) (.slice none 0 0);rw[<-hW]at h4;obtain⟨h41,h42⟩:=h4;have m0:W.cell? ⟨w.heap.size,0,none⟩=some (.bool false):=by rw[ah h41]; rfl
       have m1:W.cell? ⟨w.heap.size,1,none⟩=some (.bool false):=by rw[ah h41]; rfl
       have m2:W.cell? ⟨w.heap.size,2,none⟩=some (.bool false):=by rw[ah h41]; rfl
       have m3:W.cell? ⟨w.heap.size,3,none⟩=some (.slice none 0 0):=by rw[ah h41]; rfl
       clear hW;refine bodyPost_ret (v:= .tuple #[.agg #[.bool false, .bool false, .bool false, .slice none 0 0], .bool false]) (by simp[results,Tryz.results192,go_sem,m0,m1,m2,m3]) rfl ?_;exact oW HF.out HI6.out h42
      ·have hcs:dm (t'.length+1) t' []=dm f' u (acc++[(lo,hi)]):=by rw[HC.out,dm,if_neg HN93.out,HEl.out]; simp only; rw[if_pos HR45.out,HE6.out]; simp only; rw[if_neg hlo]
       have HCS:=ab hcs;clear hcs;have hbox:=HI6.out.box;have k3:w6.cell? ⟨w1.heap.size,3,none⟩=some v:=by rw[ah hbox]; rfl
       have HBX:=ab hbox;clear hbox;go_wp2_with (at_builtin; go_must (refine dB Tryz.appRanges rfl _ _ rfl (w1.heap.size+1) v acc.length (lm acc) rfl w6 [.int .i32 lo, .int .i32 hi] _ rfl rfl (by simp; first | rfl | exact⟨rfl,rfl⟩) HI6.out.own (by omega) (by have:=HI6.out.lt; omega) ?_); intro v' w5 hown5 hgrow5 _; obtain⟨a5,c5,rfl,-,-⟩:=au hown5; obtain⟨hI5,hc5,hf5⟩:=HI6.out.added hown5 hgrow5; have HI5:=ab hI5; clear hI5 hown5 hgrow5)
       go_wp2_with fail
       go_roundw
       case rel=>exact⟨u,acc++[(lo,hi)],_,f',HI5.out,by omega,by simp; omega,HCS.out⟩
       case measure=>
        rw[HI5.out.scan.len,HI.out.scan.len];omega
structure gI (w : World) (sb : Nat) (rest : List Int) (wr : World) : Prop where
 scan:bN wr sb rest
 res:wr.heap[w.heap.size]? =some (.cells #[.bool false, .bool false, .bool false, .slice none 0 0] 208 (0,0))
 grow:w.grownBy wr (some sb)
 lt:sb<w.heap.size/\w.heap.size<wr.heap.size
theorem gI.start {w:World} {sb:Nat} {t:List Int} (hs:bN w sb t):gI w sb t (w.alloc (.cells #[.bool false, .bool false, .bool false, .slice none 0 0] 208)):=
 ⟨gW hs _,heap_alloc_new _ _,World.grownBy_alloc _ _ _,hs.lt,by simp⟩
theorem gI.scanned {w:World} {sb:Nat} {rest rest':List Int} {wr w1:World} (h:gI w sb rest wr) (hs:bN w1 sb rest') (hg:wr.grownBy w1 (some sb)):gI w sb rest' w1:=by
 obtain⟨_,hr,hgr,h1,h2⟩:=h;refine⟨hs, ?_,grownBy.trans hgr hg,h1,Nat.lt_of_lt_of_le h2 hg.size⟩;rw[hg.block _ h2 (by simp; omega)]; exact hr
theorem gI.alloc {w:World} {sb:Nat} {rest:List Int} {wr:World} (h:gI w sb rest wr) (o:Obj):gI w sb rest (wr.alloc o):=
 h.scanned (gW h.scan _) (World.grownBy_alloc _ _ _)
theorem gI.done {w:World} {sb:Nat} {rest:List Int} {wr W:World} (h:gI w sb rest wr) (hg:wr.grownBy W (some w.heap.size)):bN W sb rest/\w.grownBy W (some sb):=by
 obtain⟨⟨sv,hs1,hs2⟩,hr,hgr,h1,h2⟩:=h;refine⟨⟨sv,by rw[hg.block sb (by omega) (by simp; omega)]; exact hs1,hs2.same (fun k hk=>hg.block k (by omega) (by simp; omega))⟩, ?_⟩;exact⟨hg.os.trans hgr.os,hg.tape.trans hgr.tape,hg.output.trans hgr.output,Nat.le_trans hgr.size hg.size,fun k hk hk2=>(hg.block k (by have:=hgr.size; omega) (by simp; omega)).trans (hgr.block k hk hk2)⟩
def DP (sb:Nat) (w:World) (e:Ending) (w':World):Prop:=
 ∃a b c x n cp u,e= .returned (.tuple #[.agg #[.bool a, .bool b, .bool c, .slice x n cp], .bool false])/\bN w' sb u/\w.grownBy w' (some sb)
def DQ (sb:Nat) (o:Option (bL×List Int)) (w:World) (e:Ending) (w':World):Prop:=
 match o with
 | some (it,u)=>Fu sb it u w e w'
 | none=>DP sb w e w'
theorem lM {w W:World} {B:Nat} {r:Int} {cap:Nat} (hb:B<=w.heap.size) (hc:1<=cap/\cap<=maxLen) (h:W.heap[w.heap.size]? =(w.alloc (.cells #[.int .i32 r, .int .i32 r] 237)).heap[w.heap.size]?):eH (B<= ·) W (.slice (some ⟨w.heap.size,0,none⟩) 1 cap) [(r,r)]:=by
 rw[heap_alloc_new]at h;refine⟨rfl,_,cap,rfl,hc.1,hc.2, .inr ⟨w.heap.size,0,rfl,hb,fun j u hj=> ?_⟩⟩;rw[Nat.zero_add,ah h]
 simpa [lm]using hj
theorem uY (sb:Nat) (r:Int) (t:List Int) (w:World) (h:bN w sb (r::t)) (ht:t.length<1099511627775):Calls Tryz.prog 170 #[.pointer (some ⟨sb,0,none⟩)] w (DQ sb (fA (r::t)) w):=by
 have hlt:=h.lt;have H0:=ab (gI.start h);clear h
 go_enter Tryz.func170,Tryz.ntmps170
 go_wp2_with fail;refine(fN sb r t _ H0.out.scan).mono ?_;rintro e w1 ⟨rfl,h1,hg1⟩;have HI1:=ab (H0.out.scanned h1 hg1);clear h1 hg1 H0
 by_cases h42:r=42
 ·have hi:fA (r::t)=some (FF,t):=by rw[fA,if_pos h42]
  rw[hi];subst h42;have hres:=HI1.out.res;have r0:w1.cell? ⟨w.heap.size,0,none⟩=some (.bool false):=by rw[ah hres]; rfl
  have r1:w1.cell? ⟨w.heap.size,1,none⟩=some (.bool false):=by rw[ah hres]; rfl
  have r2:w1.cell? ⟨w.heap.size,2,none⟩=some (.bool false):=by rw[ah hres]; rfl
  have r3:w1.cell? ⟨w.heap.size,3,none⟩=some (.slice none 0 0):=by rw[ah hres]; rfl
  have f0:w1.frozen? ⟨w.heap.size,0,none⟩=false:=am hres;have f1:w1.frozen? ⟨w.heap.size,1,none⟩=false:=am hres;have f2:w1.frozen? ⟨w.heap.size,2,none⟩=false:=am hres;have f3:w1.frozen? ⟨w.heap.size,3,none⟩=false:=am hres;have HR:=ab hres;clear hres;go_wp2_with fail;obtain⟨W,hW⟩: ∃W,W=((((w1.setCell ⟨w.heap.size,0,none⟩ (.bool true)).setCell ⟨w.heap.size,1,none⟩ (.bool false)).setCell ⟨w.heap.size,2,none⟩ (.bool false)).setCell ⟨w.heap.size,3,none⟩ (.slice none 0 0)):=⟨_,rfl⟩
  rw[<-hW];have h4:=kt HR.out (.bool true) (.bool false) (.bool false) (.slice none 0 0);rw[<-hW]at h4;obtain⟨h41,h42⟩:=h4;have m0:W.cell? ⟨w.heap.size,0,none⟩=some (.bool true):=by rw[ah h41]; rfl
  have m1:W.cell? ⟨w.heap.size,1,none⟩=some (.bool false):=by rw[ah h41]; rfl
  have m2:W.cell? ⟨w.heap.size,2,none⟩=some (.bool false):=by rw[ah h41]; rfl
  have m3:W.cell? ⟨w.heap.size,3,none⟩=some (.slice none 0 0):=by rw[ah h41]; rfl
  clear hW;refine bodyPost_ret (v:= .tuple #[.agg #[.bool true, .bool false, .bool false, .slice none 0 0], .bool true]) (by simp[results,Tryz.results170,go_sem,m0,m1,m2,m3]) rfl ?_;obtain⟨hs,hg⟩:=HI1.out.done h42;exact⟨_,rfl,aS.nil _ _ _,hs,hg⟩
 ·have e42:(r == 42)=false:=by simpa using h42
  by_cases h63:r=63
  ·have hi:fA (r::t)=some (Gm,t):=by rw[fA,if_neg h42,if_pos h63]
   rw[hi];subst h63;clear h42;have hres:=HI1.out.res;have r0:w1.cell? ⟨w.heap.size,0,none⟩=some (.bool false):=by rw[ah hres]; rfl
   have r1:w1.cell? ⟨w.heap.size,1,none⟩=some (.bool false):=by rw[ah hres]; rfl
   have r2:w1.cell? ⟨w.heap.size,2,none⟩=some (.bool false):=by rw[ah hres]; rfl
   have r3:w1.cell? ⟨w.heap.size,3,none⟩=some (.slice none 0 0):=by rw[ah hres]; rfl
   have f0:w1.frozen? ⟨w.heap.size,0,none⟩=false:=am hres;have f1:w1.frozen? ⟨w.heap.size,1,none⟩=false:=am hres;have f2:w1.frozen? ⟨w.heap.size,2,none⟩=false:=am hres;have f3:w1.frozen? ⟨w.heap.size,3,none⟩=false:=am hres;have HR:=ab hres;clear hres;go_wp2_with fail;obtain⟨W,hW⟩: ∃W,W=((((w1.setCell ⟨w.heap.size,0,none⟩ (.bool false)).setCell ⟨w.heap.size,1,none⟩ (.bool true)).setCell ⟨w.heap.size,2,none⟩ (.bool false)).setCell ⟨w.heap.size,3,none⟩ (.slice none 0 0)):=⟨_,rfl⟩
   rw[<-hW];have h4:=kt HR.out (.bool false) (.bool true) (.bool false) (.slice none 0 0);rw[<-hW]at h4;obtain⟨h41,h42⟩:=h4;have m0:W.cell? ⟨w.heap.size,0,none⟩=some (.bool false):=by rw[ah h41]; rfl
   have m1:W.cell? ⟨w.heap.size,1,none⟩=some (.bool true):=by rw[ah h41]; rfl
   have m2:W.cell? ⟨w.heap.size,2,none⟩=some (.bool false):=by rw[ah h41]; rfl
   have m3:W.cell? ⟨w.heap.size,3,none⟩=some (.slice none 0 0):=by rw[ah h41]; rfl
   clear hW;refine bodyPost_ret (v:= .tuple #[.agg #[.bool false, .bool true, .bool false, .slice none 0 0], .bool true]) (by simp[results,Tryz.results170,go_sem,m0,m1,m2,m3]) rfl ?_;obtain⟨hs,hg⟩:=HI1.out.done h42;exact⟨_,rfl,aS.nil _ _ _,hs,hg⟩
  ·have e63:(r == 63)=false:=by simpa using h63
   by_cases h91:r=91
   ·have hi:fA (r::t)=ma t:=by rw[fA,if_neg h42,if_neg h63,if_pos h91]
    have HIi:=ab hi;subst h91;clear h42 h63 hi;go_wp2_with fail
    cases hc:ma t with
    | none=>
     have HCl:=ab hc;clear hc;refine(ry sb t w1 HI1.out.scan ht).mono ?_;rw[HCl.out];rintro e w2 ⟨bn,u,rfl,hs2,hg2⟩;have HI2:=ab (HI1.out.scanned hs2 hg2);clear hs2 hg2;have hres:=HI2.out.res;have r0:w2.cell? ⟨w.heap.size,0,none⟩=some (.bool false):=by rw[ah hres]; rfl
     have r1:w2.cell? ⟨w.heap.size,1,none⟩=some (.bool false):=by rw[ah hres]; rfl
     have r2:w2.cell? ⟨w.heap.size,2,none⟩=some (.bool false):=by rw[ah hres]; rfl
     have r3:w2.cell? ⟨w.heap.size,3,none⟩=some (.slice none 0 0):=by rw[ah hres]; rfl
     have f0:w2.frozen? ⟨w.heap.size,0,none⟩=false:=am hres;have f1:w2.frozen? ⟨w.heap.size,1,none⟩=false:=am hres;have f2:w2.frozen? ⟨w.heap.size,2,none⟩=false:=am hres;have f3:w2.frozen? ⟨w.heap.size,3,none⟩=false:=am hres;have HR:=ab hres;clear hres;go_wp2_with fail;obtain⟨W,hW⟩: ∃W,W=((((w2.setCell ⟨w.heap.size,0,none⟩ (.bool false)).setCell ⟨w.heap.size,1,none⟩ (.bool false)).setCell ⟨w.heap.size,2,none⟩ (.bool bn)).setCell ⟨w.heap.size,3,none⟩ (.slice none 0 0)):=⟨_,rfl⟩
     rw[<-hW];have h4:=kt HR.out (.bool false) (.bool false) (.bool bn) (.slice none 0 0);rw[<-hW]at h4;obtain⟨h41,h42⟩:=h4;have m0:W.cell? ⟨w.heap.size,0,none⟩=some (.bool false):=by rw[ah h41]; rfl
     have m1:W.cell? ⟨w.heap.size,1,none⟩=some (.bool false):=by rw[ah h41]; rfl
     have m2:W.cell? ⟨w.heap.size,2,none⟩=some (.bool bn):=by rw[ah h41]; rfl
     have m3:W.cell? ⟨w.heap.size,3,none⟩=some (.slice none 0 0):=by rw[ah h41]; rfl
     clear hW;refine bodyPost_ret (v:= .tuple #[.agg #[.bool false, .bool false, .bool bn, .slice none 0 0], .bool false]) (by simp[results,Tryz.results170,go_sem,m0,m1,m2,m3]) rfl ?_;obtain⟨hs,hg⟩:=HI2.out.done h42;rw[HIi.out,HCl.out];exact⟨_,_,_,_,_,_,_,rfl,hs,hg⟩
    | some p=>
     obtain⟨it,u⟩:=p;have HCl:=ab hc;clear hc;refine(ry sb t w1 HI1.out.scan ht).mono ?_;rw[HCl.out];rintro e w2 ⟨v,rfl,hr2,hs2,hg2⟩;obtain⟨_,av,cv,rfl,_⟩:=id hr2;have HR2:=ab hr2;have HI2:=ab (HI1.out.scanned hs2 hg2);clear hs2 hg2 hr2;have hres:=HI2.out.res;have r0:w2.cell? ⟨w.heap.size,0,none⟩=some (.bool false):=by rw[ah hres]; rfl
     have r1:w2.cell? ⟨w.heap.size,1,none⟩=some (.bool false):=by rw[ah hres]; rfl
     have r2:w2.cell? ⟨w.heap.size,2,none⟩=some (.bool false):=by rw[ah hres]; rfl
     have r3:w2.cell? ⟨w.heap.size,3,none⟩=some (.slice none 0 0):=by rw[ah hres]; rfl
     have f0:w2.frozen? ⟨w.heap.size,0,none⟩=false:=am hres;have f1:w2.frozen? ⟨w.heap.size,1,none⟩=false:=am hres;have f2:w2.frozen? ⟨w.heap.size,2,none⟩=false:=am hres;have f3:w2.frozen? ⟨w.heap.size,3,none⟩=false:=am hres;have HR:=ab hres;clear hres;go_wp2_with fail;obtain⟨W,hW⟩: ∃W,W=((((w2.setCell ⟨w.heap.size,0,none⟩ (.bool it.star)).setCell ⟨w.heap.size,1,none⟩ (.bool it.any)).setCell ⟨w.heap.size,2,none⟩ (.bool it.neg)).setCell ⟨w.heap.size,3,none⟩ (.slice av it.ranges.length cv)):=⟨_,rfl⟩
     rw[<-hW];have h4:=kt HR.out (.bool it.star) (.bool it.any) (.bool it.neg) (.slice av it.ranges.length cv);rw[<-hW]at h4;obtain⟨h41,h42⟩:=h4;have m0:W.cell? ⟨w.heap.size,0,none⟩=some (.bool it.star):=by rw[ah h41]; rfl
     have m1:W.cell? ⟨w.heap.size,1,none⟩=some (.bool it.any):=by rw[ah h41]; rfl
     have m2:W.cell? ⟨w.heap.size,2,none⟩=some (.bool it.neg):=by rw[ah h41]; rfl
     have m3:W.cell? ⟨w.heap.size,3,none⟩=some (.slice av it.ranges.length cv):=by rw[ah h41]; rfl
     clear hW;refine bodyPost_ret (v:= .tuple #[.agg #[.bool it.star, .bool it.any, .bool it.neg, .slice av it.ranges.length cv], .bool true]) (by simp[results,Tryz.results170,go_sem,m0,m1,m2,m3]) rfl ?_;obtain⟨hs,hg⟩:=HI2.out.done h42;rw[HIi.out,HCl.out];have hb1:=HI1.out.lt;refine⟨_,rfl, ?_,hs,hg⟩;have h5:=HR2.out.mono (T:=fun k=>w1.heap.size<=k/\k<w2.heap.size) (fun k h1 h2=>⟨h2,h1⟩) (by omega)
     exact(h5.same (w':=W) (fun k hk=>h42.block k hk.2 (by simp; omega))).weak (fun k hk=>by omega)
   ·have e91:(r == 91)=false:=by simpa using h91
    by_cases h92:r=92
    ·subst h92;clear h42 h63 h91;go_wp2_with fail
     cases t with
     | nil=>
      have hi:fA [92]=none:=rfl;have HIi:=ab hi;clear hi;refine(qo sb w1 HI1.out.scan).mono ?_;rintro e w2 ⟨rfl,h2,hg2⟩;have HI3:=ab (HI1.out.scanned h2 hg2);clear h2 hg2;have HI2:=ab (HI3.out.alloc (.cells #[.int .i32 0, .int .i32 0] 237));have hres:=HI2.out.res;have r0:(w2.alloc (.cells #[.int .i32 0, .int .i32 0] 237)).cell? ⟨w.heap.size,0,none⟩=some (.bool false):=by rw[ah hres]; rfl
      have r1:(w2.alloc (.cells #[.int .i32 0, .int .i32 0] 237)).cell? ⟨w.heap.size,1,none⟩=some (.bool false):=by rw[ah hres]; rfl
      have r2:(w2.alloc (.cells #[.int .i32 0, .int .i32 0] 237)).cell? ⟨w.heap.size,2,none⟩=some (.bool false):=by rw[ah hres]; rfl
      have r3:(w2.alloc (.cells #[.int .i32 0, .int .i32 0] 237)).cell? ⟨w.heap.size,3,none⟩=some (.slice none 0 0):=by rw[ah hres]; rfl
      have f0:(w2.alloc (.cells #[.int .i32 0, .int .i32 0] 237)).frozen? ⟨w.heap.size,0,none⟩=false:=am hres;have f1:(w2.alloc (.cells #[.int .i32 0, .int .i32 0] 237)).frozen? ⟨w.heap.size,1,none⟩=false:=am hres;have f2:(w2.alloc (.cells #[.int .i32 0, .int .i32 0] 237)).frozen? ⟨w.heap.size,2,none⟩=false:=am hres;have f3:(w2.alloc (.cells #[.int .i32 0, .int .i32 0] 237)).frozen? ⟨w.heap.size,3,none⟩=false:=am hres
      have HR:=ab hres;clear hres;go_wp2_with fail;obtain⟨W,hW⟩: ∃W,W=(((((w2.alloc (.cells #[.int .i32 0, .int .i32 0] 237)).setCell ⟨w.heap.size,0,none⟩ (.bool false)).setCell ⟨w.heap.size,1,none⟩ (.bool false)).setCell ⟨w.heap.size,2,none⟩ (.bool false)).setCell ⟨w.heap.size,3,none⟩ (.slice (some ⟨w2.heap.size,0,none⟩) 1 1)):=⟨_,rfl⟩;rw[<-hW];have h4:=kt HR.out (.bool false) (.bool false) (.bool false) (.slice (some ⟨w2.heap.size,0,none⟩) 1 1)
      rw[<-hW]at h4;obtain⟨h41,h42⟩:=h4;have m0:W.cell? ⟨w.heap.size,0,none⟩=some (.bool false):=by rw[ah h41]; rfl
      have m1:W.cell? ⟨w.heap.size,1,none⟩=some (.bool false):=by rw[ah h41]; rfl
      have m2:W.cell? ⟨w.heap.size,2,none⟩=some (.bool false):=by rw[ah h41]; rfl
      have m3:W.cell? ⟨w.heap.size,3,none⟩=some (.slice (some ⟨w2.heap.size,0,none⟩) 1 1):=by rw[ah h41]; rfl
      clear hW;refine bodyPost_ret (v:= .tuple #[.agg #[.bool false, .bool false, .bool false, .slice (some ⟨w2.heap.size,0,none⟩) 1 1], .bool false]) (by simp[results,Tryz.results170,go_sem,m0,m1,m2,m3]) rfl ?_;obtain⟨hs,hg⟩:=HI2.out.done h42;rw[HIi.out];have hb2:=HI2.out.lt;have hb1:=HI3.out.lt;have hrg:=lM (W:=W) (B:=w.heap.size) (r:=0) (cap:=1) (w:=w2) (by omega) ⟨Nat.le_refl _,by unfold maxLen; omega⟩ (h42.block _ (by simp) (by simp; omega))
      first | exact⟨_,rfl,hrg,hs,hg⟩ | exact⟨_,_,_,_,_,_,_,rfl,hs,hg⟩
     | cons q u=>
      have hi:fA (92::q::u)=some (EB q,u):=rfl;have HIi:=ab hi;clear hi;refine(fN sb q u w1 HI1.out.scan).mono ?_;rintro e w2 ⟨rfl,h2,hg2⟩;have HI3:=ab (HI1.out.scanned h2 hg2);clear h2 hg2;have HI2:=ab (HI3.out.alloc (.cells #[.int .i32 q, .int .i32 q] 237));have hres:=HI2.out.res;have r0:(w2.alloc (.cells #[.int .i32 q, .int .i32 q] 237)).cell? ⟨w.heap.size,0,none⟩=some (.bool false):=by rw[ah hres]; rfl
      have r1:(w2.alloc (.cells #[.int .i32 q, .int .i32 q] 237)).cell? ⟨w.heap.size,1,none⟩=some (.bool false):=by rw[ah hres]; rfl
      have r2:(w2.alloc (.cells #[.int .i32 q, .int .i32 q] 237)).cell? ⟨w.heap.size,2,none⟩=some (.bool false):=by rw[ah hres]; rfl
      have r3:(w2.alloc (.cells #[.int .i32 q, .int .i32 q] 237)).cell? ⟨w.heap.size,3,none⟩=some (.slice none 0 0):=by rw[ah hres]; rfl
      have f0:(w2.alloc (.cells #[.int .i32 q, .int .i32 q] 237)).frozen? ⟨w.heap.size,0,none⟩=false:=am hres;have f1:(w2.alloc (.cells #[.int .i32 q, .int .i32 q] 237)).frozen? ⟨w.heap.size,1,none⟩=false:=am hres;have f2:(w2.alloc (.cells #[.int .i32 q, .int .i32 q] 237)).frozen? ⟨w.heap.size,2,none⟩=false:=am hres;have f3:(w2.alloc (.cells #[.int .i32 q, .int .i32 q] 237)).frozen? ⟨w.heap.size,3,none⟩=false:=am hres
      have HR:=ab hres;clear hres;go_wp2_with fail;obtain⟨W,hW⟩: ∃W,W=(((((w2.alloc (.cells #[.int .i32 q, .int .i32 q] 237)).setCell ⟨w.heap.size,0,none⟩ (.bool false)).setCell ⟨w.heap.size,1,none⟩ (.bool false)).setCell ⟨w.heap.size,2,none⟩ (.bool false)).setCell ⟨w.heap.size,3,none⟩ (.slice (some ⟨w2.heap.size,0,none⟩) 1 1)):=⟨_,rfl⟩;rw[<-hW];have h4:=kt HR.out (.bool false) (.bool false) (.bool false) (.slice (some ⟨w2.heap.size,0,none⟩) 1 1)
      rw[<-hW]at h4;obtain⟨h41,h42⟩:=h4;have m0:W.cell? ⟨w.heap.size,0,none⟩=some (.bool false):=by rw[ah h41]; rfl
      have m1:W.cell? ⟨w.heap.size,1,none⟩=some (.bool false):=by rw[ah h41]; rfl
      have m2:W.cell? ⟨w.heap.size,2,none⟩=some (.bool false):=by rw[ah h41]; rfl
      have m3:W.cell? ⟨w.heap.size,3,none⟩=some (.slice (some ⟨w2.heap.size,0,none⟩) 1 1):=by rw[ah h41]; rfl
      clear hW;refine bodyPost_ret (v:= .tuple #[.agg #[.bool false, .bool false, .bool false, .slice (some ⟨w2.heap.size,0,none⟩) 1 1], .bool true]) (by simp[results,Tryz.results170,go_sem,m0,m1,m2,m3]) rfl ?_;obtain⟨hs,hg⟩:=HI2.out.done h42;rw[HIi.out];have hb2:=HI2.out.lt;have hb1:=HI3.out.lt;have hrg:=lM (W:=W) (B:=w.heap.size) (r:=q) (cap:=1) (w:=w2) (by omega) ⟨Nat.le_refl _,by unfold maxLen; omega⟩ (h42.block _ (by simp) (by simp; omega))
      first | exact⟨_,rfl,hrg,hs,hg⟩ | exact⟨_,_,_,_,_,_,_,rfl,hs,hg⟩
    ·have e92:(r == 92)=false:=by simpa using h92
     have hi:fA (r::t)=some (EB r,t):=by rw[fA,if_neg h42,if_neg h63,if_neg h91,if_neg h92]
     have HIi:=ab hi;clear h42 h63 h91 h92 hi;have HI2:=ab (HI1.out.alloc (.cells #[.int .i32 r, .int .i32 r] 237));have hres:=HI2.out.res;have r0:(w1.alloc (.cells #[.int .i32 r, .int .i32 r] 237)).cell? ⟨w.heap.size,0,none⟩=some (.bool false):=by rw[ah hres]; rfl
     have r1:(w1.alloc (.cells #[.int .i32 r, .int .i32 r] 237)).cell? ⟨w.heap.size,1,none⟩=some (.bool false):=by rw[ah hres]; rfl
     have r2:(w1.alloc (.cells #[.int .i32 r, .int .i32 r] 237)).cell? ⟨w.heap.size,2,none⟩=some (.bool false):=by rw[ah hres]; rfl
     have r3:(w1.alloc (.cells #[.int .i32 r, .int .i32 r] 237)).cell? ⟨w.heap.size,3,none⟩=some (.slice none 0 0):=by rw[ah hres]; rfl
     have f0:(w1.alloc (.cells #[.int .i32 r, .int .i32 r] 237)).frozen? ⟨w.heap.size,0,none⟩=false:=am hres;have f1:(w1.alloc (.cells #[.int .i32 r, .int .i32 r] 237)).frozen? ⟨w.heap.size,1,none⟩=false:=am hres;have f2:(w1.alloc (.cells #[.int .i32 r, .int .i32 r] 237)).frozen? ⟨w.heap.size,2,none⟩=false:=am hres;have f3:(w1.alloc (.cells #[.int .i32 r, .int .i32 r] 237)).frozen? ⟨w.heap.size,3,none⟩=false:=am hres
     have HR:=ab hres;clear hres;go_wp2_with fail;obtain⟨W,hW⟩: ∃W,W=(((((w1.alloc (.cells #[.int .i32 r, .int .i32 r] 237)).setCell ⟨w.heap.size,0,none⟩ (.bool false)).setCell ⟨w.heap.size,1,none⟩ (.bool false)).setCell ⟨w.heap.size,2,none⟩ (.bool false)).setCell ⟨w.heap.size,3,none⟩ (.slice (some ⟨w1.heap.size,0,none⟩) 1 1)):=⟨_,rfl⟩;rw[<-hW];have h4:=kt HR.out (.bool false) (.bool false) (.bool false) (.slice (some ⟨w1.heap.size,0,none⟩) 1 1)
     rw[<-hW]at h4;obtain⟨h41,h42⟩:=h4;have m0:W.cell? ⟨w.heap.size,0,none⟩=some (.bool false):=by rw[ah h41]; rfl
     have m1:W.cell? ⟨w.heap.size,1,none⟩=some (.bool false):=by rw[ah h41]; rfl
     have m2:W.cell? ⟨w.heap.size,2,none⟩=some (.bool false):=by rw[ah h41]; rfl
     have m3:W.cell? ⟨w.heap.size,3,none⟩=some (.slice (some ⟨w1.heap.size,0,none⟩) 1 1):=by rw[ah h41]; rfl
     clear hW;refine bodyPost_ret (v:= .tuple #[.agg #[.bool false, .bool false, .bool false, .slice (some ⟨w1.heap.size,0,none⟩) 1 1], .bool true]) (by simp[results,Tryz.results170,go_sem,m0,m1,m2,m3]) rfl ?_;obtain⟨hs,hg⟩:=HI2.out.done h42;rw[HIi.out];have hb2:=HI2.out.lt;have hb1:=HI1.out.lt;have hrg:=lM (W:=W) (B:=w.heap.size) (r:=r) (cap:=1) (w:=w1) (by omega) ⟨Nat.le_refl _,by unfold maxLen; omega⟩ (h42.block _ (by simp) (by simp; omega))
     first | exact⟨_,rfl,hrg,hs,hg⟩ | exact⟨_,_,_,_,_,_,_,rfl,hs,hg⟩
def iG (S:Nat->Prop) (w:World) (c:List Value) (it:bL):Prop:= ∃v,c=[.bool it.star, .bool it.any, .bool it.neg,v]/\eH S w v it.ranges
theorem iG.len {S:Nat->Prop} {w:World} (c:List Value) (it:bL) (h:iG S w c it):c.length=4:=by obtain⟨v,rfl,_⟩:=h; rfl
def dg (S:Nat->Prop) (w:World) (v:Value) (its:List bL):Prop:=aY S w 4 (iG S w) v its
theorem iG.move {S T:Nat->Prop} {w w':World} {c:List Value} {it:bL} (h:iG S w c it) (hs: ∀k,k<w.heap.size->S k->T k/\w'.heap[k]? =w.heap[k]?):iG T w' c it:=by
 obtain⟨v,rfl,hr⟩:=h;refine⟨v,rfl, ?_⟩;have h1:=aS.mono (T:=fun k=>T k/\w'.heap[k]? =w.heap[k]?) hr hs (by omega);exact(h1.same (w':=w') (fun k hk=>hk.2)).weak (fun k hk=>hk.1)
theorem dg.move {S T:Nat->Prop} {w w':World} {v:Value} {its:List bL} (h:dg S w v its) (hs: ∀k,k<w.heap.size->S k->T k/\w'.heap[k]? =w.heap[k]?):dg T w' v its:=by
 obtain⟨cells,h1,h2⟩:=h;have h3:=aS.mono (T:=fun k=>T k/\w'.heap[k]? =w.heap[k]?) h1 hs (by omega);exact⟨cells,(h3.same (w':=w') (fun k hk=>hk.2)).weak (fun k hk=>hk.1),h2.mono fun c x _ hc=>hc.move hs⟩
theorem Tryz.appItems :cY Tryz.prog 182 208 4 32:=cY.mk' (z:= .agg #[.bool false, .bool false, .bool false, .slice none 0 0]) Tryz.underlying182 (by kernel_rfl) rfl (by decide) (by decide)
structure ir (w : World) (sb : Nat) (rest : List Int) (its : List bL) (v : Value) (wr : World) : Prop where
 scan:bN wr sb rest
 own: ∃cells,wr.ownsRow w.heap.size 208 4 v its.length cells/\bB (iG (fun k=>w.heap.size<=k/\some k≠v.ownBlock) wr) cells its
 grow:w.grownBy wr (some sb)
 lt:sb<w.heap.size
theorem ir.scanned {w:World} {sb:Nat} {rest rest':List Int} {its:List bL} {v:Value} {wr w1:World} (h:ir w sb rest its v wr) (hs:bN w1 sb rest') (hg:wr.grownBy w1 (some sb)):ir w sb rest' its v w1:=by
 obtain⟨_,⟨cells,ho,hr⟩,hgr,hl⟩:=h;refine⟨hs,⟨cells,ho.kept hg ?_,hr.mono fun c x _ hc=>hc.move fun k hk h2=>⟨h2,hg.block k hk (by simp; omega)⟩⟩,grownBy.trans hgr hg,hl⟩
 cases hv:v.ownBlock with
 | none=>exact .inl rfl
 | some k=>right; have:=(ho.lt k hv).1; simp; omega
theorem ir.alloc {w:World} {sb:Nat} {rest:List Int} {its:List bL} {v:Value} {wr:World} (h:ir w sb rest its v wr) (o:Obj):ir w sb rest its v (wr.alloc o):=
 h.scanned (gW h.scan _) (World.grownBy_alloc _ _ _)
theorem ir.added {w:World} {sb:Nat} {rest:List Int} {its:List bL} {v v' rv:Value} {wr w1:World} {it:bL} {cells:List Value} (h:ir w sb rest its v wr)
  (hcells:wr.ownsRow w.heap.size 208 4 v its.length cells/\bB (iG (fun k=>w.heap.size<=k/\some k≠v.ownBlock) wr) cells its)
  (hrv:eH (fun k=>w.heap.size<=k/\some k≠v.ownBlock) wr rv it.ranges)
  (ho:w1.ownsRow w.heap.size 208 4 v' (its.length+1) (cells++[.bool it.star, .bool it.any, .bool it.neg,rv])) (hg:wr.grownBy w1 v.ownBlock) (hnew: ∀k,v'.ownBlock=some k->v.ownBlock=some k\/wr.heap.size<=k):ir w sb rest (its++[it]) v' w1:=by
 obtain⟨⟨sv,hs1,hs2⟩,_,hgr,hl⟩:=h;obtain⟨ho0,hr0⟩:=hcells;have hsz:=hgr.size;have hmove: ∀k,k<wr.heap.size->(w.heap.size<=k/\some k≠v.ownBlock)->(w.heap.size<=k/\some k≠v'.ownBlock)/\w1.heap[k]? =wr.heap[k]? :=by
  intro k hk ⟨h1,h2⟩;refine⟨⟨h1,fun e=> ?_⟩,hg.block k hk h2⟩
  rcases hnew k e.symm with h3 | h3
  ·exact h2 h3.symm
  ·omega
 have hold: ∀k,k<w.heap.size->w1.heap[k]? =wr.heap[k]? :=fun k hk=>hg.block k (by omega) (fun e=>by have:=(ho0.lt k e.symm).1; omega)
 refine⟨⟨sv,by rw[hold sb hl]; exact hs1,hs2.same fun k hk=>hold k (by omega)⟩,⟨_,by simpa using ho, ?_⟩, ?_,hl⟩
 ·refine bB.snoc (hr0.mono fun c x _ hc=>hc.move hmove) ?_;exact iG.move (w:=wr) ⟨rv,rfl,hrv⟩ hmove
 ·exact⟨hg.os.trans hgr.os,hg.tape.trans hgr.tape,hg.output.trans hgr.output,by have:=hg.size; omega,fun k hk hk2=>(hold k hk).trans (hgr.block k hk hk2)⟩
def DR (sb:Nat) (its:List bL) (w:World) (e:Ending) (w':World):Prop:=
 ∃v,e= .returned (.tuple #[v, .bool true])/\dg (w.heap.size<= ·) w' v its/\w.grownBy w' (some sb)
def BA (sb:Nat) (o:Option (List bL)) (w:World) (e:Ending) (w':World):Prop:=
 match o with
 | some its=>DR sb its w e w'
 | none=>e= .returned (.tuple #[.slice none 0 0, .bool false])/\w.grownBy w' (some sb)
theorem rV (sb:Nat) (rs:List Int) (w:World) (h:bN w sb rs) (ht:rs.length<1099511627775):Calls Tryz.prog 139 #[.pointer (some ⟨sb,0,none⟩)] w (BA sb (fh rs) w):=by
 have hlt:=h.lt;have H0:=ab h;clear h
 go_enter Tryz.func139,Tryz.ntmps139
 go_wp2_with fail
 go_loopw [4] (fun v wr=> ∃(rest:List Int) (its:List bL),ir w sb rest its v wr/\its.length+rest.length<=rs.length/\fh rs=(fh rest).map (its++ ·)) (fun _ wr=>oB sb wr)
 case atStart=>exact⟨rs,[],⟨H0.out,⟨[],World.ownsRow_nil _ _ _ _,rfl⟩,grownBy.refl _ _,hlt⟩,by simp,by cases fh rs<;> simp⟩
 case round=>
  obtain⟨rest,its,hI,hal,hc⟩:=hrel;have HI:=ab hI;have HC:=ab hc;clear hc;obtain⟨a,cap,k0,-⟩:=hI.scan.open;clear hI
  cases rest with
  | nil=>
   simp only[List.length_nil]at k0;go_wp2_with fail
   go_ret2
   have hnil:fh rs=some its:=by rw[HC.out]; simp[fh,gT]
   rw[hnil];obtain⟨cells,ho,hr⟩:=HI.out.own;refine⟨u4,rfl,⟨cells,(bp ho).weak (fun k hk=>hk.1),hr.mono fun c x _ hc=>hc.move fun k _ hk=>⟨hk.1,rfl⟩⟩,HI.out.grow⟩
  | cons r t=>
   simp only[List.length_cons]at k0 hal;have ht':t.length<1099511627775:=by omega
   obtain⟨n,hn⟩: ∃n,n=t.length:=⟨_,rfl⟩;rw[<-hn]at k0;have HN:=ab hn;clear hn;go_wp2_with fail
   cases hi:fA (r::t)with
   | none=>
    have HIt:=ab hi;clear hi;refine(uY sb r t wr HI.out.scan ht').mono ?_;rw[HIt.out];rintro e w1 ⟨b0,b1,b2,x,nx,cx,u,rfl,hs1,hg1⟩;have HI1:=ab (HI.out.scanned hs1 hg1);clear hs1 hg1;go_wp2_with fail
    go_ret2
    rw[HC.out,xq (by simp) HIt.out];exact⟨rfl,grownBy.trans HI1.out.grow (World.grownBy_alloc _ _ _)⟩
   | some p=>
    obtain⟨it,u⟩:=p;have hl1:=kJ hi;simp only[List.length_cons]at hl1;have HIt:=ab hi;clear hi;refine(uY sb r t wr HI.out.scan ht').mono ?_;rw[HIt.out];rintro e w1 ⟨rv,rfl,hrv,hs1,hg1⟩;obtain⟨_,av,cv,rfl,_⟩:=id hrv;have HI1:=ab ((HI.out.scanned hs1 hg1).alloc (.cells #[.bool it.star, .bool it.any, .bool it.neg, .slice av it.ranges.length cv] 208));have hrv2:eH (fun k=>w.heap.size<=k/\some k≠u4.ownBlock) (w1.alloc (.cells #[.bool it.star, .bool it.any, .bool it.neg, .slice av it.ranges.length cv] 208)) (.slice av it.ranges.length cv) it.ranges:=by
     have hsz:=HI.out.grow.size;obtain⟨cells,ho,-⟩:=HI.out.own;have h5:=aS.weak (T:=fun k=>w.heap.size<=k/\some k≠u4.ownBlock) hrv (fun k hk=>⟨by omega,fun e=>by have:=(ho.lt k e.symm).2; omega⟩);exact h5.below (by omega) ((Below.refl _ _).alloc (Nat.le_refl _) _)
    have HRV:=ab hrv2;clear hs1 hg1 hrv hrv2;obtain⟨cells,hcells⟩:=HI1.out.own;have HCE:=ab hcells;clear hcells;go_wp2_with (at_builtin; go_must (refine bK Tryz.appItems rfl _ _ rfl w.heap.size u4 its.length cells rfl (w1.alloc (.cells #[.bool it.star, .bool it.any, .bool it.neg, .slice av it.ranges.length cv] 208)) [.bool it.star, .bool it.any, .bool it.neg, .slice av it.ranges.length cv] _ (by simp; rfl) rfl (by simp; exact⟨rfl,rfl,rfl,rfl⟩) HCE.out.1 (by omega) (by have:=HI1.out.grow.size; omega) ?_); intro v' w5 hown5 hgrow5 _ hnew5; have HI5:=ab (HI1.out.added HCE.out HRV.out hown5 hgrow5 hnew5); clear hown5 hgrow5 hnew5)
    go_roundw
    case rel=>
     refine⟨u,its++[it],HI5.out,by simp; omega, ?_⟩;rw[HC.out,uZ (by simp) HIt.out]
     cases fh u<;> simp
    case measure=>
     rw[HI5.out.scan.len,HI.out.scan.len]
     simp; omega
def fV (S:Nat->Prop) (w:World) (c:List Value) (cm:aU):Prop:= ∃v,c=[.bool cm.dbl,v]/\dg S w v cm.items
theorem fV.len {S:Nat->Prop} {w:World} (c:List Value) (cm:aU) (h:fV S w c cm):c.length=2:=by obtain⟨v,rfl,_⟩:=h; rfl
def dN (S:Nat->Prop) (w:World) (v:Value) (cs:List aU):Prop:=aY S w 2 (fV S w) v cs
theorem fV.move {S T:Nat->Prop} {w w':World} {c:List Value} {cm:aU} (h:fV S w c cm) (hs: ∀k,k<w.heap.size->S k->T k/\w'.heap[k]? =w.heap[k]?):fV T w' c cm:=by
 obtain⟨v,rfl,hr⟩:=h;exact⟨v,rfl,hr.move hs⟩
theorem dN.move {S T:Nat->Prop} {w w':World} {v:Value} {cs:List aU} (h:dN S w v cs) (hs: ∀k,k<w.heap.size->S k->T k/\w'.heap[k]? =w.heap[k]?):dN T w' v cs:=by
 obtain⟨cells,h1,h2⟩:=h;have h3:=aS.mono (T:=fun k=>T k/\w'.heap[k]? =w.heap[k]?) h1 hs (by omega);exact⟨cells,(h3.same (w':=w') (fun k hk=>hk.2)).weak (fun k hk=>hk.1),h2.mono fun c x _ hc=>hc.move hs⟩
def lA (z:List Value) (n:Nat):List Value:=(List.replicate n z).flatten
theorem eT (z:List Value) (n:Nat):lA z (n+1)=z++lA z n:=by simp[lA,List.replicate_succ]
theorem sS (z:List Value) (n:Nat):(lA z n).length=n*z.length:=by simp[lA]
theorem sR (z:List Value): ∀(n j:Nat),j<n*z.length->(lA z n)[j]? =z[j%z.length]?
 | 0,j,h=>by omega
 | n+1,j,h=>by
  rw[eT]
  by_cases hj:j<z.length
  ·rw[List.getElem?_append_left hj,Nat.mod_eq_of_lt hj]
  ·have h2:j-z.length<n*z.length:=by rw[Nat.add_mul]at h; omega
   rw[List.getElem?_append_right (by omega),sR z n _ h2,Nat.mod_eq_sub_mod (a:=j) (by omega)]
def made (z:List Value) (n:Nat):Array Value:=(lA z n).toArray
theorem EC (z:List Value) (n:Nat) (hz:0<z.length):madeCells z.toArray (n*z.length)=made z n:=by
 apply Array.ext
 ·simp[madeCells,made,sS]
 ·intro j h1 h2;simp[madeCells]at h1;have:=sR z n j h1;have hm:j%z.length<z.length:=Nat.mod_lt _ hz;simp only[madeCells,Array.getElem_map,Array.getElem_range,List.size_toArray];rw[getElem!_pos _ _ (by simpa using hm)];simp only[made,List.getElem_toArray];rw[List.getElem?_eq_getElem (by rw[sS]; exact h1),List.getElem?_eq_getElem hm]at this;exact(Option.some.inj this).symm
theorem mI {P:Program} {t e:TypeId} {sz bytes:Nat} {z:Value} (n:Nat) (zl:List Value) (ht:P.underlying t=some (.slice e)) (hi:(P.info? e).map (fun i=>(i.zero,i.size,i.bytes))=some (some z,sz,bytes)) (hz:z.cells=zl.toArray) (hl:zl.length=sz) (hp:0<sz) (hb:bytes<=128) (hn:n<=1099511627775) (w:World):
  (Instr.makeSlice t (.int .i64 (n:Int)) (.int .i64 (n:Int))).run P w= .ok (.slice (some ⟨w.heap.size,0,none⟩) n n) (w.alloc (.cells (made zl n) e)):=by
 obtain⟨i,h1,h2,h3,h4⟩:=info_parts hi;subst h3 h4;have hby:i.bytes*n<=128*1099511627775:=Nat.mul_le_mul hb hn;have hby2:(i.bytes:Int)*(n:Int)<=281474976710656:=by rw[<-Int.natCast_mul]; omega
 have:=run_make (P:=P) w t e i z ht h1 h2 .i64 .i64 (n:Int) (n:Int) (by omega) (by omega) hby2 (by omega);rw[this,hz];simp only[Int.toNat_natCast];rw[show i.size=zl.length by omega,EC zl n (by omega)]
structure gl (w : World) (cb n k : Nat) (cs : List aU) (wr : World) : Prop where
 box: ∃done,bB (fV (cb< ·) wr) done cs/\wr.heap[cb]? =some (.cells (done++lA [.bool false, .slice none 0 0] (n-k)).toArray 184 (0,0))
 below:Below cb w wr
 lt:cb<wr.heap.size
 len:cs.length=k
theorem gl.grown {w:World} {cb n k:Nat} {cs:List aU} {wr w':World} (h:gl w cb n k cs wr) (hb:Below wr.heap.size wr w'):gl w cb n k cs w':=by
 obtain⟨⟨done,hr,hbx⟩,hbl,hlt,hl⟩:=h;exact⟨⟨done,hr.mono fun c x _ hc=>hc.move fun k hk h2=>⟨h2,hb.block k hk⟩,by rw[hb.block cb hlt]; exact hbx⟩,hbl.trans (hb.mono (by omega)),Nat.lt_of_lt_of_le hlt hb.size,hl⟩
theorem gl.cells {w:World} {cb n k:Nat} {cs:List aU} {wr:World} (h:gl w cb n k cs wr) (hk:k<n):wr.cell? ⟨cb,k*2,none⟩=some (.bool false)/\wr.cell? ⟨cb,k*2+1,none⟩=some (.slice none 0 0)/\(∀j,wr.frozen? ⟨cb,j,none⟩=false):=by
 obtain⟨⟨done,hr,hbx⟩,hbl,hlt,hl⟩:=h;have hdl:=hr.len fV.len;obtain⟨m,hm⟩: ∃m,n-k=m+1:=⟨n-k-1,by omega⟩;rw[hm,eT]at hbx;refine⟨?_, ?_,fun j=>am hbx⟩
 ·rw[ah hbx,List.getElem?_toArray,List.getElem?_append_right (by omega),show k*2-done.length=0 by omega]; rfl
 ·rw[ah hbx,List.getElem?_toArray,List.getElem?_append_right (by omega),show k*2+1-done.length=1 by omega]; rfl
theorem EY (done:List Value) (a b x:Value) (rest:List Value) (i:Nat) (h:i=done.length):(done++a::b::rest).set i x=done++x::b::rest:=by
 subst h; simp
theorem Dm (done:List Value) (a b x:Value) (rest:List Value) (i:Nat) (h:i=done.length+1):(done++a::b::rest).set i x=done++a::x::rest:=by
 subst h; simp
theorem gl.double {w:World} {cb n k:Nat} {cs:List aU} {wr:World} (h:gl w cb n k cs wr) (hk:k<n):gl w cb n (k+1) (cs++[⟨true,[]⟩]) (wr.setCell ⟨cb,k*2,none⟩ (.bool true)):=by
 obtain⟨⟨done,hr,hbx⟩,hbl,hlt,hl⟩:=h;have hdl:=hr.len fV.len;obtain⟨m,hm⟩: ∃m,n-k=m+1:=⟨n-k-1,by omega⟩;rw[hm,eT]at hbx;refine⟨⟨done++[.bool true, .slice none 0 0], ?_, ?_⟩,hbl.setCell (by simp) _,by simp[World.setCell]; exact hlt,by simp[hl]⟩
 ·refine bB.snoc (hr.mono fun c x _ hc=>hc.move fun j hj h2=>⟨h2,Below.heap_setCell _ _ _ _ (by simp; omega)⟩) ?_;exact⟨_,rfl,aY.nil⟩
 ·simp only[World.setCell,Array.getElem?_modify,if_true,hbx,Option.map_some];rw[show n-(k+1)=m by omega];simp only[List.setIfInBounds_toArray,Option.some.injEq,Obj.cells.injEq,and_true];rw[List.cons_append,List.cons_append,List.nil_append,EY done _ _ _ _ (k*2) (by omega)];simp
theorem gl.items {w:World} {cb n k:Nat} {cs:List aU} {its:List bL} {wr:World} {v:Value} (h:gl w cb n k cs wr) (hk:k<n) (hv:dg (cb< ·) wr v its):gl w cb n (k+1) (cs++[⟨false,its⟩]) (wr.setCell ⟨cb,k*2+1,none⟩ v):=by
 obtain⟨⟨done,hr,hbx⟩,hbl,hlt,hl⟩:=h;have hdl:=hr.len fV.len;obtain⟨m,hm⟩: ∃m,n-k=m+1:=⟨n-k-1,by omega⟩;rw[hm,eT]at hbx;refine⟨⟨done++[.bool false,v], ?_, ?_⟩,hbl.setCell (by simp) _,by simp[World.setCell]; exact hlt,by simp[hl]⟩
 ·refine bB.snoc (hr.mono fun c x _ hc=>hc.move fun j hj h2=>⟨h2,Below.heap_setCell _ _ _ _ (by simp; omega)⟩) ?_;exact⟨_,rfl,hv.move fun j hj h2=>⟨h2,Below.heap_setCell _ _ _ _ (by simp; omega)⟩⟩
 ·simp only[World.setCell,Array.getElem?_modify,if_true,hbx,Option.map_some];rw[show n-(k+1)=m by omega];simp only[List.setIfInBounds_toArray,Option.some.injEq,Obj.cells.injEq,and_true];rw[List.cons_append,List.cons_append,List.nil_append,Dm done _ _ _ _ (k*2+1) (by omega)];simp
theorem nG : ∀(ps:List (List UInt8)) (p:List UInt8),cS (ps++[p])=match cS ps with | none=>none | some cs=>match ju p with | none=>none | some c=>some (cs++[c])
 | [],p=>by simp only[List.nil_append,cS]; cases ju p<;> simp
 | q::ps,p=>by
  simp only[List.cons_append,cS];rw[nG ps p]
  cases ju q<;> simp
  cases cS ps<;> simp
  cases ju p<;> simp
theorem jw (ps qs:List (List UInt8)) (h:cS ps=none):cS (ps++qs)=none:=by
 induction ps with
 | nil=>simp[cS]at h
 | cons p ps ih=>
  simp only[List.cons_append,cS]at h ⊢
  cases hp:ju p with
  | none=>rfl
  | some c=>
   rw[hp]at h;simp only at h
   cases hps:cS ps with
   | none=>simp[ih hps]
   | some cs=>rw[hps]at h; simp at h
theorem sy {P:Program} {src dst e:TypeId} (s:ByteArray) (hs:P.underlying src=some .string) (hd:P.underlying dst=some (.slice e)) (he:P.underlying e=some (.int .i32)) (hl:s.size<=70368744177664) (w:World):
  (convert src dst (.string s)).run P w= .ok (.slice (some ⟨w.heap.size,0,none⟩) (bt (bl s)).length (grownCap w (bt (bl s)).length 0 e))
   (w.drew.alloc (.cells (((bt (bl s)).map (Value.int .i32))++List.replicate (grownCap w (bt (bl s)).length 0 e-(bt (bl s)).length) (Value.int .i32 0)).toArray e)):=by
 have e1:=xM s;have h46:(Conv.runesFrom s s.size 0 #[]).size<=70368744177664:=by rw[e1]; simp; have:=eL s.data.toList; rw[<-Lib.size_eq]at this; omega
 have:=run_runes_of_string (P:=P) w src dst e s hs hd he h46;rw[this,e1];simp[yB]
 congr 2
 apply Array.ext'
 simp
theorem Dh {w:World} {x:ByteArray} {cap:Nat} (hc:(bt (bl x)).length<=cap) (hm:cap<=maxLen) (zs:List Value):
  bN ((w.alloc (.cells (((bt (bl x)).map (Value.int .i32))++zs).toArray 21)).alloc (.cells #[.slice (some ⟨w.heap.size,0,none⟩) (bt (bl x)).length cap] 200)).drew (w.heap.size+1) (bt (bl x)):=by
 refine⟨_, ?_,by simp,_,cap,rfl,hc,hm, .inr ⟨w.heap.size,0,rfl,by omega,fun j u hj=> ?_⟩⟩
 ·have:=heap_alloc_new (w.alloc (.cells (((bt (bl x)).map (Value.int .i32))++zs).toArray 21)) (.cells #[.slice (some ⟨w.heap.size,0,none⟩) (bt (bl x)).length cap] 200);rw[show(w.alloc (.cells (((bt (bl x)).map (Value.int .i32))++zs).toArray 21)).heap.size=w.heap.size+1 by simp]at this;exact this
 ·have h1:=heap_alloc_new w (.cells (((bt (bl x)).map (Value.int .i32))++zs).toArray 21);have h2:((w.alloc (.cells (((bt (bl x)).map (Value.int .i32))++zs).toArray 21)).alloc (.cells #[.slice (some ⟨w.heap.size,0,none⟩) (bt (bl x)).length cap] 200)).drew.heap[w.heap.size]? =some (.cells (((bt (bl x)).map (Value.int .i32))++zs).toArray 21 (0,0)):=by
   rw[<-h1]; exact Below.heap_alloc _ _ _ (by simp)
  rw[Nat.zero_add,ah h2,List.getElem?_toArray,List.getElem?_append_left]
  ·exact hj
  ·exact(List.getElem?_eq_some_iff.1 hj).1
theorem rm {w:World} {o p:Obj} :Below w.heap.size w ((w.alloc o).alloc p).drew:=(((Below.refl _ _).alloc (Nat.le_refl _) _).alloc (by simp) _).drew
def Gj (cs:List aU) (w:World) (e:Ending) (w':World):Prop:= ∃v,e= .returned (.tuple #[v, .bool true])/\dN (w.heap.size<= ·) w' v cs/\Below w.heap.size w w'
def wF (o:Option (List aU)) (w:World) (e:Ending) (w':World):Prop:=
 match o with
 | some cs=>Gj cs w e w'
 | none=>e= .returned (.tuple #[.slice none 0 0, .bool false])/\Below w.heap.size w w'
theorem eq (s:ByteArray) (w:World) (he:jE w) (hs:s.size<=9223372036854775807):Calls Tryz.prog 113 #[.string s] w (wF (iP (bl s)) w):=by
 have HE:=ab he;clear he
 by_cases h5:s.size<=512
 ·cases htx:lx (bl s)
  ·have HT:=ab htx;clear htx
   go_enter Tryz.func113,Tryz.ntmps113
   go_wp2_with fail;refine(lJ s w HE.out hs).mono ?_;rintro e w1 ⟨rfl,hb1⟩;rw[HT.out];have HB1:=ab hb1;clear hb1;go_wp2_with fail
   go_ret2
   have:iP (bl s)=none:=by unfold iP; rw[if_pos (.inr HT.out)]
   rw[this];exact⟨rfl,HB1.out⟩
  ·have HT:=ab htx;clear htx
   go_enter Tryz.func113,Tryz.ntmps113
   go_wp2_with fail;refine(lJ s w HE.out hs).mono ?_;rintro e w1 ⟨rfl,hb1⟩;rw[HT.out];have HB1:=ab hb1;clear hb1;go_wp2_with fail;refine(no s 47 w1 (HE.out.below HB1.out) (by omega)).mono ?_;rintro e w' ⟨xs,hx,rfl,rfl⟩;have hxl:xs.length<=513:=by
    have h1:(aF 47 (bl s)).length=xs.length:=by rw[<-hx]; simp
    have h2:=dY 47 (bl s);rw[<-ay]at h2;omega
   have HX:=ab hx;clear hx
   by_cases h16:xs.length<=16
   ·have hpat:iP (bl s)=cS (xs.map bl):=by
     unfold iP;rw[if_neg (by rw[<-ay,HT.out]; simp; omega),<-HX.out,if_neg (by simp; omega)]
    have HP:=ab hpat
    clear hpat
    have hmk:=mI (P:=Tryz.prog) (t:=147) (e:=184) (z:= .agg #[.bool false, .slice none 0 0]) xs.length [.bool false, .slice none 0 0] Tryz.underlying147 (bytes:=32) (sz:=2) (by kernel_rfl) rfl rfl (by omega) (by omega) (by omega);have hxl1:((xs.map Value.string).toArray.size)=xs.length:=by simp
    go_wp2_with fail;clear hmk
    go_loopw [29] (fun i wr=> ∃(k:Nat) (cs:List aU),k<=xs.length/\i= .int .i64 k/\gl (w1.alloc (.cells (xs.map Value.string).toArray 9)) (w1.heap.size+1) xs.length k cs wr/\cS ((xs.map bl).take k)=some cs) (fun i _=>xs.length-(intOf i).toNat)
    case atStart=>
     refine⟨0,[],Nat.zero_le _,rfl,⟨⟨[],rfl, ?_⟩,(Below.refl _ _).alloc (by simp) _,by simp,rfl⟩,by simp[cS]⟩;have:=heap_alloc_new (w1.alloc (.cells (xs.map Value.string).toArray 9)) (.cells (made [.bool false, .slice none 0 0] xs.length) 184)
     simpa [made]using this
    case round=>
     obtain⟨k,cs,hk,rfl,hI,hc⟩:=hrel;have HI:=ab hI;have HC:=ab hc;clear hc
     by_cases hlt:k<xs.length
     ·obtain⟨x,hx⟩: ∃x,xs[k]? =some x:=⟨xs[k],by simp[hlt]⟩;have hcell:wr.cell? ⟨w1.heap.size,k,none⟩=some (.string x):=(hI.below.cell (p:=⟨w1.heap.size,k,none⟩) (by simp)).trans (mG (tD hx));have hxs:x.size<=512:=by have:=kQ HX.out hx; omega
      obtain⟨c0,c1,cf⟩:=hI.cells hlt;have cf0:=cf (k*2);have cf1:=cf (k*2+1);have HK:=ab hx;clear hx hI cf;have hsn:cS ((xs.map bl).take (k+1))=match ju (bl x)with | none=>none | some c=>some (cs++[c]):=by
       have e1:(xs.map bl).take (k+1)=(xs.map bl).take k++[bl x]:=by
        rw[List.take_add_one]; simp[HK.out]
       rw[e1,nG,HC.out]
      have HSN:=ab hsn;clear hsn
      by_cases h2:bl x=[42,42]
      ·have e2:(x.toList == [42,42])=true:=by rw[bD,h2]; rfl
       have H2:=ab h2;clear h2;go_wp2_with fail
       go_roundw
       case rel=>exact⟨k+1,cs++[⟨true,[]⟩],by omega,by go_num,HI.out.double hlt,by rw[HSN.out,H2.out]; rfl⟩
       case measure=>simp[intOf]; omega
      ·have e2:(x.toList == [42,42])=false:=by rw[bD]; simpa using h2
       have H2:=ab h2;clear h2;have hcv:=fun w=>sy (P:=Tryz.prog) (src:=9) (dst:=198) (e:=21) x Tryz.underlying9 Tryz.underlying198 Tryz.underlying21 (by omega) w
       have hrl:=eL (bl x);rw[<-ay]at hrl;have hcg:=grownCap_ge wr (bt (bl x)).length 0 21;have hcm:=grownCap_le_maxLen wr (bt (bl x)).length 0 21 (by unfold maxLen; omega);have HSC:=ab (Dh (w:=wr) hcg hcm (List.replicate (grownCap wr (bt (bl x)).length 0 21-(bt (bl x)).length) (Value.int .i32 0)));clear hcg hcm;go_wp2_with fail;clear hcv
       cases hit:fh (bt (bl x))with
       | none=>
        have HIt:=ab hit;clear hit;refine(rV _ _ _ HSC.out (by omega)).mono ?_;rw[HIt.out];rintro e w3 ⟨rfl,hg3⟩;have hb3:Below wr.heap.size wr w3:=grownBy.below rm hg3 (by omega) (by simp; omega);have HI3:=ab (HI.out.grown hb3);clear hg3 hb3;go_wp2_with fail
        go_ret2
        have hnone:cS ((xs.map bl).take (k+1))=none:=by rw[HSN.out,ju,if_neg H2.out,HIt.out]
        have:iP (bl s)=none:=by
         rw[HP.out,<-List.take_append_drop (k+1) (xs.map bl)];exact jw _ _ hnone
        rw[this];exact⟨rfl,ak (ak HB1.out ((Below.refl _ _).alloc (Nat.le_refl _) _)) (by simpa using HI3.out.below)⟩
       | some its=>
        have HIt:=ab hit;clear hit;refine(rV _ _ _ HSC.out (by omega)).mono ?_;rw[HIt.out];rintro e w3 ⟨v,rfl,hv3,hg3⟩;have hb3:Below wr.heap.size wr w3:=grownBy.below rm hg3 (by omega) (by simp; omega);have HI3:=ab (HI.out.grown hb3);have hcblt:=HI.out.lt;have HV3:=ab (dg.move (T:=(w1.heap.size+1< ·)) (w':=w3) hv3 (fun j hj h2=>⟨by simp at h2; omega,rfl⟩))
        obtain⟨av,cv,rfl,hnv,hmv,-⟩:=hv3.shape iG.len;clear hg3 hb3 hv3;obtain⟨d0,d1,df⟩:=HI3.out.cells hlt;have df1:=df (k*2+1);clear df c0 c1 cf0 cf1 hcell
        by_cases hn0:its.length=0
        ·have e0:((its.length:Int) == 0)=true:=by simpa using hn0
         have hnil:its=[]:=List.eq_nil_of_length_eq_zero hn0;have HN:=ab hnil;clear hnil hn0;go_wp2_with fail
         go_ret2
         have hnone:cS ((xs.map bl).take (k+1))=none:=by rw[HSN.out,ju,if_neg H2.out,HIt.out,HN.out]; rfl
         have:iP (bl s)=none:=by
          rw[HP.out,<-List.take_append_drop (k+1) (xs.map bl)];exact jw _ _ hnone
         rw[this];exact⟨rfl,ak (ak HB1.out ((Below.refl _ _).alloc (Nat.le_refl _) _)) (by simpa using HI3.out.below)⟩
        ·have e0:((its.length:Int) == 0)=false:=by simpa using hn0
         have hnil:its≠[]:=fun e=>hn0 (by rw[e]; rfl)
         have HN:=ab hnil;clear hnil hn0;go_wp2_with fail
         go_roundw
         case rel=>exact⟨k+1,cs++[⟨false,its⟩],by omega,by go_num,HI3.out.items hlt HV3.out,by rw[HSN.out,ju,if_neg H2.out,HIt.out]; simp[HN.out]⟩
         case measure=>simp[intOf]; omega
     ·obtain rfl:k=xs.length:=by omega
      clear hI;go_wp2_with fail
      go_ret2
      have:iP (bl s)=some cs:=by
       rw[HP.out,<-HC.out,List.take_of_length_le (by simp)]
      rw[this];obtain⟨⟨done,hr,hbx⟩,hbl,hlt2,hl⟩:=HI.out;have hsz1:=HB1.out.size;refine⟨.slice (some ⟨w1.heap.size+1,0,none⟩) cs.length cs.length,by rw[hl]; rfl,⟨done,⟨by rw[hr.len fV.len],_,_,rfl,Nat.le_refl _,by rw[hl]; unfold maxLen; omega, .inr ⟨w1.heap.size+1,0,rfl,by omega,fun j u hj=> ?_⟩⟩,hr.mono fun c x _ hc=>hc.move fun j _ hj=>⟨by omega,rfl⟩⟩,ak (ak HB1.out ((Below.refl _ _).alloc (Nat.le_refl _) _)) (by simpa using hbl)⟩
      rw[Nat.zero_add,ah hbx,List.getElem?_toArray,List.getElem?_append_left (List.getElem?_eq_some_iff.1 hj).1];exact hj
   ·go_wp2_with fail
    go_ret2
    have:iP (bl s)=none:=by
     unfold iP;rw[if_neg (by rw[<-ay,HT.out]; simp; omega),<-HX.out,if_pos (by simp; omega)]
    rw[this];exact⟨rfl,ak HB1.out ((Below.refl _ _).alloc (Nat.le_refl _) _)⟩
 ·go_enter Tryz.func113,Tryz.ntmps113
  go_wp2_with fail
  go_ret2
  have:iP (bl s)=none:=by unfold iP; rw[if_pos (.inl (by rw[<-ay]; omega))]
  rw[this];exact⟨rfl,Below.refl _ _⟩
theorem nM (lo hi r:Int) (pb:Nat) (w:World) (hr:w.cell? ⟨pb,0,none⟩=some (.int .i32 r)):
  Calls Tryz.prog 173 #[.agg #[.int .i32 lo, .int .i32 hi], .pointer (some ⟨pb,0,none⟩)] w fun e w'=>e= .returned (.bool (Bs r (lo,hi)))/\Below w.heap.size w w':=by
 have hlt:=aE hr;simp only at hlt;have hne: ¬pb=w.heap.size:=by omega
 by_cases h1:lo<=r
 ·go_enter Tryz.func173,Tryz.ntmps173
  go_wp2
  go_ret;refine⟨az ?_,(Below.refl _ _).alloc (Nat.le_refl _) _⟩;simp[Bs,h1]
 ·have e1:decide (lo<=r)=false:=by simpa using h1
  go_enter Tryz.func173,Tryz.ntmps173
  go_wp2
  go_ret;refine⟨az ?_,(Below.refl _ _).alloc (Nat.le_refl _) _⟩;simp[Bs]; omega
def qL (r:Int):List (Int×Int)->Nat->Int
 | [],_=> -1
 | x::t,k=>if Bs r x then(k:Int)else qL r t (k+1)
theorem uU (r:Int): ∀(rs:List (Int×Int)) (k:Nat),decide (0<=qL r rs k)=rs.any (Bs r)
 | [],_=>by simp[qL]
 | x::t,k=>by
  unfold qL
  by_cases h:Bs r x=true
  ·simp[h]
  ·have h':Bs r x=false:=by simpa using h
   rw[if_neg h,uU r t (k+1)]; simp[h']
theorem rQ : ∀ {rs:List (Int×Int)} {k:Nat} {x:Int×Int},rs[k]? =some x->(lm rs)[k*2]? =some (.int .i32 x.1)/\(lm rs)[k*2+1]? =some (.int .i32 x.2)
 | [],k,x,h=>by simp at h
 | y::rs,0,x,h=>by simp at h; subst h; exact⟨rfl,rfl⟩
 | y::rs,k+1,x,h=>by
  have:=rQ (rs:=rs) (k:=k) (x:=x) (by simpa using h);rw[show(k+1)*2=k*2+1+1 by omega];simp only[lm,List.flatMap_cons,List.cons_append,List.nil_append,List.getElem?_cons_succ];exact this
theorem rT {r:Int} {rs:List (Int×Int)} {k:Nat} {x:Int×Int} (h:rs[k]? =some x):qL r (rs.drop k) k=if Bs r x then(k:Int)else qL r (rs.drop (k+1)) (k+1):=by
 obtain⟨hk,rfl⟩:=List.getElem?_eq_some_iff.1 h;rw[List.drop_eq_getElem_cons hk,qL]
theorem qN (S:Nat->Prop) (rs:List (Int×Int)) (r:Int) (pb:Nat) (v:Value) (w:World) (hv:eH S w v rs) (hr:w.cell? ⟨pb,0,none⟩=some (.int .i32 r)):
  Calls Tryz.prog 193 #[v, .func (.func 173) #[] #[.pointer (some ⟨pb,0,none⟩)]] w fun e w'=>e= .returned (.int .i64 (qL r rs 0))/\Below w.heap.size w w':=by
 obtain⟨hl,a,cap,rfl,hn,hm,h0⟩:=hv;have H0:=ab h0;have HR:=ab hr;clear h0 hl hr;unfold maxLen at hm
 go_enter Tryz.func193,Tryz.ntmps193
 go_wp2_with fail
 go_loopw [8] (fun i wr=> ∃k:Nat,k<=rs.length/\i= .int .i64 k/\Below w.heap.size w wr/\qL r rs 0=qL r (rs.drop k) k) (fun i _=>rs.length-(intOf i).toNat)
 case atStart=>exact⟨0,Nat.zero_le _,rfl,Below.refl _ _,rfl⟩
 case round=>
  obtain⟨k,hk,rfl,hb,hc⟩:=hrel;have HB:=ab hb;have HC:=ab hc;clear hb hc
  by_cases hlt:k<rs.length
  ·obtain⟨⟨lo,hi⟩,hx⟩: ∃x,rs[k]? =some x:=⟨rs[k],by simp[hlt]⟩;obtain⟨b,o,rfl,-,hcl⟩:=H0.out.resolve_left (by omega);obtain⟨g1,g2⟩:=rQ hx;have q1:=hcl _ _ g1;have q2:=hcl _ _ g2;have c1:wr.cell? ⟨b,o+k*2,none⟩=some (.int .i32 lo):=(HB.out.cell (p:=⟨b,o+k*2,none⟩) (aE q1)).trans q1;have c2:wr.cell? ⟨b,o+k*2+1,none⟩=some (.int .i32 hi):=by
    have:=(HB.out.cell (p:=⟨b,o+(k*2+1),none⟩) (aE q2)).trans q2;rw[show o+k*2+1=o+(k*2+1) by omega]; exact this
   have hr2:wr.cell? ⟨pb,0,none⟩=some (.int .i32 r):=(HB.out.cell (p:=⟨pb,0,none⟩) (aE HR.out)).trans HR.out;have HR2:=ab hr2;have HX:=ab hx;clear hcl g1 g2 q1 q2 hr2 hx
   cases hin:Bs r (lo,hi)
   ·have HIN:=ab hin;clear hin;go_wp2_with (go_at_call 173; refine(nM lo hi r pb _ HR2.out).mono ?_; rintro e w1 ⟨rfl,hb1⟩; rw[HIN.out]; have HB1:=ab hb1; clear hb1)
    go_roundw
    case rel=>exact⟨k+1,by omega,by go_num,ak HB.out HB1.out,by rw[HC.out,rT HX.out,HIN.out]; rfl⟩
    case measure=>simp[intOf]; omega
   ·have HIN:=ab hin;clear hin;go_wp2_with (go_at_call 173; refine(nM lo hi r pb _ HR2.out).mono ?_; rintro e w1 ⟨rfl,hb1⟩; rw[HIN.out]; have HB1:=ab hb1; clear hb1);go_ret;exact⟨bC (by rw[HC.out,rT HX.out,HIN.out]; rfl),ak HB.out HB1.out⟩
  ·go_wp2_with fail;go_ret;exact⟨bC (by rw[HC.out,List.drop_eq_nil_of_le (by omega)]; rfl),HB.out⟩
theorem mU (S:Nat->Prop) (rs:List (Int×Int)) (r:Int) (pb:Nat) (v:Value) (w:World) (hv:eH S w v rs) (hr:w.cell? ⟨pb,0,none⟩=some (.int .i32 r)):
  Calls Tryz.prog 172 #[v, .func (.func 173) #[] #[.pointer (some ⟨pb,0,none⟩)]] w fun e w'=>e= .returned (.bool (rs.any (Bs r)))/\Below w.heap.size w w':=by
 have HV:=ab hv;have HR:=ab hr;clear hv hr
 go_enter Tryz.func172,Tryz.ntmps172
 go_wp2_with fail;refine(qN S rs r pb v w HV.out HR.out).mono ?_;rintro e w1 ⟨rfl,hb1⟩;have HB:=ab hb1;clear hb1;go_wp2_with fail;go_ret;exact⟨az (uU r rs 0),HB.out⟩
theorem jz (S:Nat->Prop) (it:bL) (r:Int) (v:Value) (w:World) (hv:eH S w v it.ranges):
  Calls Tryz.prog 143 #[.agg #[.bool it.star, .bool it.any, .bool it.neg,v], .int .i32 r] w fun e w'=>e= .returned (.bool (ex it r))/\Below w.heap.size w w':=by
 obtain⟨a,cap,rfl⟩: ∃a cap,v= .slice a it.ranges.length cap:=by obtain⟨_,a,cap,h,_⟩:=hv; exact⟨a,cap,h⟩
 have HV:=ab hv;clear hv
 cases hany:it.any
 ·have HA:=ab hany;clear hany;have hbl:Below w.heap.size w ((w.alloc (.cells #[.bool it.star, .bool false, .bool it.neg, .slice a it.ranges.length cap] 208)).alloc (.cells #[.int .i32 r] 21)):=((Below.refl _ _).alloc (Nat.le_refl _) _).alloc (by simp) _;have HBL:=ab hbl;clear hbl
  go_enter Tryz.func143,Tryz.ntmps143
  go_wp2_with fail;refine(mU S it.ranges r (w.heap.size+1) _ _ (aS.below HV.out (by omega) HBL.out) (by simp)).mono ?_;rintro e w1 ⟨rfl,hb1⟩;have hc2:w1.cell? ⟨w.heap.size,2,none⟩=some (.bool it.neg):=by
   rw[hb1.cell (p:=⟨w.heap.size,2,none⟩) (by simp; omega)]; simp
  have HB:=ab hb1;clear hb1;go_wp2_with fail;go_ret;refine⟨az ?_,ak HBL.out HB.out⟩;unfold ex;rw[HA.out]
  cases it.ranges.any (Bs r)<;> cases it.neg<;> rfl
 ·have HA:=ab hany;clear hany
  go_enter Tryz.func143,Tryz.ntmps143
  go_wp2_with fail;go_ret;refine⟨az ?_,((Below.refl _ _).alloc (Nat.le_refl _) _).alloc (by simp) _⟩;simp[ex,HA.out]
theorem mA (it:bL) (v:Value) (w:World):Calls Tryz.prog 142 #[.agg #[.bool it.star, .bool it.any, .bool it.neg,v]] w fun e w'=>e= .returned (.bool it.star)/\Below w.heap.size w w':=by
 go_enter Tryz.func142,Tryz.ntmps142
 go_wp2
 go_ret;exact⟨rfl,(Below.refl _ _).alloc (Nat.le_refl _) _⟩
theorem nF (c:aU) (v:Value) (w:World):Calls Tryz.prog 115 #[.agg #[.bool c.dbl,v]] w fun e w'=>e= .returned (.bool c.dbl)/\Below w.heap.size w w':=by
 go_enter Tryz.func115,Tryz.ntmps115
 go_wp2
 go_ret;exact⟨rfl,(Below.refl _ _).alloc (Nat.le_refl _) _⟩
end Go.Proofs.YtnjkpcalgoefhaaGreatDoor
