/- Texts of this proof, one after the other: WalkA, WalkB, WalkC, Needs, NeedP, RfsP, RGet, Pres, RefA, RefB, PresA, PresB, MissM, MissL, Refs24, CmpQ, ShsP, SmP, NumP, BlbP, ShrA, ShsQ, ShsR, R3A. -/
import Derived.Test.YtpffpjbkbaleiaaGreatDoorCSharesD
set_option maxRecDepth 100000
set_option maxHeartbeats 8000000
namespace Go.Proofs.YtpffpjbkbaleiaaGreatDoor
section
open Go.RowKit
structure mR (w : World) (base wb eb sb : Nat) (fv v : Value) (ex rs : List bY) : Prop where
 box:w.heap[wb]? =some (.cells #[fv, .map (some eb), .map (some sb),v] 191 (0,0))
 exs:iU w eb ex
 see:iU w sb rs
 row:w.ownsRow base 26 3 v rs.length (rs.flatMap jt)
 ne:eb≠sb
def nw (wb eb sb:Nat) (v:Value) (k:Nat):Prop:=k=wb\/k=eb\/k=sb\/v.ownBlock=some k
section
variable {w w' : World} {base wb eb sb : Nat} {fv v : Value} {ex rs : List bY}
theorem iU.cells {b:Nat} {l:List bY} (h:iU w b l) {cs:Array Value} {t:TypeId} {z:Nat×Nat} :w.heap[b]? ≠some (.cells cs t z):=fun e=>by obtain⟨es,clock,hb,_⟩:=h.map;rw[hb]at e; cases e
theorem mR.wne (h:mR w base wb eb sb fv v ex rs):wb≠eb/\wb≠sb:=⟨fun e=>h.exs.cells (e▸h.box),fun e=>h.see.cells (e▸h.box)⟩
theorem bK {e:TypeId} {sz:Nat} {n:Nat} {xs:List Value} {k:Nat} (h:w.ownsRow base e sz v n xs) (hk:v.ownBlock=some k): ∃cs,w.heap[k]? =some (.cells cs e (0,0)):=by
 obtain⟨_,h2⟩:=h
 rcases h2 with⟨rfl,rfl⟩ | ⟨g,cap,cur,rfl,_,hh,_⟩
 ·cases hk
 ·have:g=k:=by simpa [Value.ownBlock]using hk
  subst this;exact⟨cur,hh⟩
theorem mR.own (h:mR w base wb eb sb fv v ex rs) {k:Nat} (hk:v.ownBlock=some k):k≠wb/\k≠eb/\k≠sb:=by
 obtain⟨cs,hc⟩:=bK h.row hk;refine⟨fun e=> ?_,fun e=> ?_,fun e=> ?_⟩
 ·subst e;have:=hc.symm.trans h.box;simp at this
 ·subst e; exact h.exs.cells hc
 ·subst e; exact h.see.cells hc
theorem mR.keep (h:mR w base wb eb sb fv v ex rs) (hs: ∀k,k<w.heap.size->nw wb eb sb v k->w'.heap[k]? =w.heap[k]?):mR w' base wb eb sb fv v ex rs:=by
 refine⟨(hs wb (am h.box) (.inl rfl)).trans h.box,h.exs.same (hs eb h.exs.map.lt (.inr (.inl rfl))),h.see.same (hs sb h.see.map.lt (.inr (.inr (.inl rfl)))), ?_,h.ne⟩;obtain⟨hl,h2⟩:=h.row;refine⟨hl, ?_⟩
 rcases h2 with h2 | ⟨g,cap,cur,rfl,hg,hh,h3⟩
 ·exact .inl h2
 ·exact .inr ⟨g,cap,cur,rfl,hg,(hs g (am hh) (.inr (.inr (.inr rfl)))).trans hh,h3⟩
theorem mR.below (h:mR w base wb eb sb fv v ex rs) (hb:Below w.heap.size w w'):mR w' base wb eb sb fv v ex rs:=h.keep (fun k hk _=>hb.block k hk)
theorem mR.ok (h:mR w base wb eb sb fv v ex rs): ∀r∈rs,dZ r:=h.see.ok
theorem mR.shape (h:mR w base wb eb sb fv v ex rs): ∃a cap,v= .slice a rs.length cap:=by obtain⟨a,cap,h1,_⟩:=aH h.row;exact⟨a,cap,h1⟩
end
def cT (r:bY) (rs:List bY):List bY:=if r∈rs then rs else rs++[r]
def Mf (base wb eb sb:Nat) (fv v:Value) (ex rs:List bY) (w w':World):Prop:=
 ∃v',mR w' base wb eb sb fv v' ex rs/\gy (nw wb eb sb v) w w'/\ ∀k,v'.ownBlock=some k->v.ownBlock=some k\/w.heap.size<=k
theorem oT (base wb eb sb:Nat) (fv v:Value) (ex rs:List bY) (r:bY) (w:World) (h:mR w base wb eb sb fv v ex rs) (hr:dZ r) (hl:rs.length<1099511627775) (hbase:base<=w.heap.size):
  Calls Tryz.prog 161 #[.pointer (some ⟨wb,0,none⟩),eC r] w fun e w'=>e= .returned (.tuple #[])/\Mf base wb eb sb fv v ex (cT r rs) w w':=by
 obtain⟨av,cv,rfl⟩:=h.shape;obtain⟨W,hW⟩:=bH ((w.alloc (.cells #[.string r.name, .int .i64 r.gen, .int .i64 r.size] 26)).drew);have hB:Below w.heap.size w W:=by rw[hW]; exact(eT).drew
 have hv:=ag hB;have HK:=ag (h.below hB);have bx:W.heap[w.heap.size]? =some (.cells #[.string r.name, .int .i64 r.gen, .int .i64 r.size] 26 (0,0)):=by rw[hW]; exact aC w _
 have hI:=ag bx;have HR:=ag hr;have HW:=ag hW;have q0:=bD (k:=0) bx;have q1:=bD (k:=1) bx;have q2:=bD (k:=2) bx;have c2:=bD (k:=2) HK.o.box;have hs:=HK.o.see.look hr;simp only[fV]at q0 q1 q2 c2;have hZ:wb<w.heap.size:=am h.box;have H0:=ag h;unfold eC at hs ⊢;clear h hr bx hB
 by_cases hm:r∈rs
 ·have e1:decide (r∈rs)=true:=by simp[hm]
  have HM:=ag (show cT r rs=rs by unfold cT; rw[if_pos hm]);rw[e1]at hs;clear e1 hm
  go_enter Tryz.func161,Tryz.ntmps161
  go_wp2_with fail;refine bL [some 7] (by kernel_rfl) (by kernel_rfl) (by kernel_rfl) ?_;simp only[ef,aS,aY];rw[<-HW.o];clear hW
  repeat (first | (refine cy rfl ?_; simp only[bM]) | (refine cP rfl (fun K hK=> ?_); go_simp; refine hK _ ?_; clear hK K))
  refine cO ?_;go_wp2_with fail
  go_end0
  exact⟨rfl, .slice av rs.length cv,by rw[HM.o]; exact HK.o,gy.of_below hv.o,fun k hk=> .inl hk⟩
 ·have e1:decide (r∈rs)=false:=by simp[hm]
  have HM:=ag (show cT r rs=rs++[r] by unfold cT; rw[if_neg hm]);have hN:=ag hm;rw[e1]at hs;clear e1 hm
  go_enter Tryz.func161,Tryz.ntmps161
  go_wp2_with fail;refine bL [some 7] (by kernel_rfl) (by kernel_rfl) (by kernel_rfl) ?_;simp only[ef,aS,aY];rw[<-HW.o];clear hW
  repeat (first | (refine cy rfl ?_; simp only[bM]) | (refine cP rfl (fun K hK=> ?_); go_simp; refine hK _ ?_; clear hK K))
  refine cO ?_;go_wp2_with fail;refine bL [some 5,none] (by kernel_rfl) (by kernel_rfl) (by kernel_rfl) ?_;simp only[ef,aS,aY,bA,bQ];have hM:=ag (HK.o.below ((ak _ W).drew))
  repeat (first | (refine cy rfl ?_; simp only[bM]) | (refine cP rfl (fun K hK=> ?_); go_simp; refine hK _ ?_; clear hK K))
  refine cO ?_;refine eE rfl (fun K hK=> ?_);go_wp2_with (at_mapUpdate; go_must (refine kq rfl _ _ _ rfl sb rs hM.o.see rfl r HR.o rfl rfl hN.o ?_); intro w2 hn hF);have hY:sb<w.heap.size:=H0.o.see.map.lt;have hX:eb<w.heap.size:=H0.o.exs.map.lt;have hV:=hv.o.size;obtain⟨W3,hq⟩:=bH w2.drew;have he:W.grownBy W3 (some sb):=by rw[hq]; exact bW (b:=W.drew) ⟨rfl,rfl,rfl,ah _,fun _ _ _=>rfl⟩ (bW hF ⟨rfl,rfl,rfl,ah _,fun _ _ _=>rfl⟩)
  have h0:=he.size;have hf:=ag (show iU W3 sb (rs++[r]) by rw[hq]; exact hn.same rfl);have hC:=ag (HK.o.exs.same (w':=W3) (he.block eb HK.o.exs.map.lt (by simp; exact HK.o.ne)));have hA:=ag (HK.o.row.kept he (.inr (fun e=>(HK.o.own e).2.2 rfl)));have hp:=ag (mq he HK.o.box HK.o.wne.2);have hy:=ag (mq he hI.o (by omega));have hJ:=ag he;have c3:=bD (k:=3) hp.o
  have f3:=dD (k:=3) hp.o;obtain⟨r0,r1,r2,_⟩:=aT hy.o;simp only[fV]at c3;clear q0 q1 q2 c2 hs hn hF he;refine eP (fun w'=>w'.cell? ⟨wb,3,none⟩=some (.slice av rs.length cv)/\w'.cell? ⟨w.heap.size,0,none⟩=some (.string r.name)/\w'.cell? ⟨w.heap.size,1,none⟩=some (.int .i64 r.gen)/\w'.cell? ⟨w.heap.size,2,none⟩=some (.int .i64 r.size)) (by kernel_rfl) (by kernel_rfl) ?_
  simp only[bu,bw,ay,bp,Nat.reduceAdd,Nat.reduceSub];rw[<-hq];clear hq
  iterate 6 (refine cF rfl (by go_simp) (by rintro w' ⟨hR,hS,hT,hU⟩; go_simp; rfl) ?_; simp only[bM])
  have hh:wb<W3.heap.size:=am hp.o;have hc:w.heap.size<W3.heap.size:=am hy.o;have ho:=ag ((ak W3.heap.size W3).alloc (ah _) (.cells #[.string r.name, .int .i64 r.gen, .int .i64 r.size] 26));have hE:=aB ((ho.o.cell (p:=⟨wb,3,none⟩) hh).trans c3) (aB ((ho.o.cell (p:=⟨w.heap.size,0,none⟩) hc).trans r0) (aB ((ho.o.cell (p:=⟨w.heap.size,1,none⟩) hc).trans r1) ((ho.o.cell (p:=⟨w.heap.size,2,none⟩) hc).trans r2)))
  have hP:=ag hE;clear hE;refine cA 6 rfl (fun K hK=> ?_);go_wp2_with fail
  (first | (refine⟨hP.o, ?_⟩) | skip)
  refine cA 7 rfl (fun K hK=> ?_);go_wp2_with (at_builtin; go_must (refine bP Tryz.appRefs rfl _ _ rfl base (.slice av rs.length cv) rs.length (rs.flatMap jt) rfl W3 [.string r.name, .int .i64 r.gen, .int .i64 r.size] _ rfl rfl (rm (r:=r)) hA.o (by omega) (by omega) ?_); intro v' wc hb ha _ hG; obtain⟨ae,ce,rfl,-,-⟩:=aH hb);have hu: ∀k,(Value.slice av rs.length cv).ownBlock=some k->k≠wb/\k≠eb/\k≠sb:=fun k hk=>H0.o.own hk
  have hj:(Value.slice av rs.length cv).ownBlock≠some w.heap.size:=fun e=>by have:=(H0.o.row.lt _ e).2; omega
  have hd:=ag ((ha.block wb hh (fun e=>(hu wb e.symm).1 rfl)).trans hp.o);have hz:=ag ((ha.block w.heap.size hc (fun e=>hj e.symm)).trans hy.o);have hw:=ag (hC.o.same (ha.block eb hC.o.map.lt (fun e=>(hu eb e.symm).2.1 rfl)));have hg:=ag (hf.o.same (ha.block sb hf.o.map.lt (fun e=>(hu sb e.symm).2.2 rfl)));have hL:=ag ha;have hD:=ag hG
  have hO:=ag (show wc.ownsRow base 26 3 (.slice ae (rs.length+1) ce) (rs++[r]).length ((rs++[r]).flatMap jt) by rw[ai,bV]; simpa [jt]using hb);have c4:=bD (k:=3) hd.o;have f4:=dD (k:=3) hd.o;obtain⟨s0,s1,s2,_⟩:=aT hz.o;simp only[fV]at c4;clear hb ha hG c3 f3 r0 r1 r2 hu hj;refine⟨⟨c4,s0,s1,s2⟩, ?_⟩
  iterate 2 (refine cF rfl (by go_simp) (by rintro w' ⟨hR,hS,hT,hU⟩; go_simp; rfl) ?_; simp only[bM])
  refine cH (by kernel_rfl) ?_;refine eX rfl rfl (fun K hK=> ?_);go_wp2_with fail
  go_end0
  refine⟨rfl, .slice ae (rs.length+1) ce, ?_, ?_, ?_⟩
  ·rw[HM.o];have hH:=H0.o.wne;have hx:=jb (k:=3) hd.o (.slice ae (rs.length+1) ce);simp only[aX,cG,cr]at hx;refine⟨hx,hw.o.same (az _ _ _ _ (ks hH.1)),hg.o.same (az _ _ _ _ (ks hH.2)),hO.o.kept (cJ _ _ _ _) (.inr (fun e=> ?_)),H0.o.ne⟩
   rcases hD.o wb e with h1 | h1
   ·exact(H0.o.own h1).1 rfl
   ·omega
  ·refine gy.trans (gy.of_below hv.o) (gy.trans (S:=nw wb eb sb (.slice av rs.length cv)) (gy.of_grown hJ.o (fun k hk=>by cases hk; exact .inr (.inr (.inl rfl)))) (gy.trans (S:=nw wb eb sb (.slice av rs.length cv)) (gy.of_grown hL.o (fun k hk=> .inr (.inr (.inr hk)))) (gy.of_grown (S:=nw wb eb sb (.slice av rs.length cv)) (cJ wc wb 3 _) (fun k hk=>by cases hk; exact .inl rfl)) (fun i _ h=>h)) (fun i _ h=>h)) (fun i _ h=>h)
  ·intro k hk
   rcases hD.o k hk with h1 | h1
   ·exact .inl h1
   ·exact .inr (by omega)
def fD (cs rs:List bY):List bY:=cs.foldl (fun rs r=>cT r rs) rs
def jp (f:bY->List bY×List bY->Option (Int×(List bY×List bY))):List ci->List bY×List bY->Option (Int×(List bY×List bY))
 | [],st=>some (0,st)
 | it::l,st=>if it.kind≠2 then jp f l (st.1,fD it.chunks st.2)else
  (f it.node (st.1,fD it.chunks st.2)).bind fun p=>if p.1≠0 then some p else jp f l p.2
def fB (visit:bY->Except Int (List ci)):Nat->bY->List bY×List bY->Option (Int×(List bY×List bY))
 | 0,_,_=>none
 | n+1,r,st=>if r∈st.1 then some (0,(st.1,cT r st.2))else match visit r with
  | .error x=>some (x,(st.1++[r],cT r st.2))
  | .ok l=>jp (fB visit n) l (st.1++[r],cT r st.2)
theorem oS (r:bY) (rs:List bY):rs.length<=(cT r rs).length:=by
 unfold cT
 split
 ·exact ah _
 ·simp
theorem rP : ∀(cs rs:List bY),rs.length<=(fD cs rs).length
 | [],_=>ah _
 | c::cs,rs=>an (oS c rs) (rP cs (cT c rs))
theorem vE (cs:List bY) (c:bY) (rs:List bY):fD (cs++[c]) rs=cT c (fD cs rs):=by unfold fD; rw[dW]; rfl
theorem rg (cs rs:List bY) (j:Nat):(fD (cs.take j) rs).length<=(fD cs rs).length:=by
 have:fD cs rs=fD (cs.drop j) (fD (cs.take j) rs):=by unfold fD;rw[<-dW,dA]
 rw[this];exact rP _ _
theorem lV {f:bY->List bY×List bY->Option (Int×(List bY×List bY))} (hf: ∀r st x st',f r st=some (x,st')->st.2.length<=st'.2.length):
  ∀(l:List ci) (st:List bY×List bY) (x:Int) (st':List bY×List bY),jp f l st=some (x,st')->st.2.length<=st'.2.length
 | [],st,x,st',h=>by simp only[jp,aV,cM]at h;obtain⟨_,rfl⟩:=h;exact ah _
 | it::l,st,x,st',h=>by
  rw[jp]at h
  split at h
  ·exact an (rP it.chunks st.2) (lV hf l _ x st' h)
  ·rw[dz]at h;obtain⟨⟨y,st2⟩,h1,h2⟩:=h;have h3:=hf _ _ _ _ h1;have h4:=rP it.chunks st.2;simp only at h2 h3
   split at h2
   ·simp only[aV,cM]at h2;obtain⟨_,rfl⟩:=h2;exact an h4 h3
   ·exact an (an h4 h3) (lV hf l _ x st' h2)
theorem ng (visit:bY->Except Int (List ci)): ∀(n:Nat) (r:bY) (st:List bY×List bY) (x:Int) (st':List bY×List bY),fB visit n r st=some (x,st')->st.2.length<=st'.2.length
 | 0,_,_,_,_,h=>by simp[fB]at h
 | n+1,r,st,x,st',h=>by
  have hm:=oS r st.2;rw[fB]at h
  split at h
  ·simp only[aV,cM]at h;obtain⟨_,rfl⟩:=h;exact hm
  ·split at h
   ·simp only[aV,cM]at h;obtain⟨_,rfl⟩:=h;exact hm
   ·exact an hm (lV (ng visit n) _ _ x st' h)
def Qs (res:Except Int (List ci)) (w:World) (e:Ending) (w':World):Prop:=Below w.heap.size w w'/\match res with
 | .error x=>e= .returned (.tuple #[.slice none 0 0, .int .i64 x])/\x≠0
 | .ok l=> ∃v,e= .returned (.tuple #[v, .int .i64 0])/\eO (w.heap.size<= ·) w' v l
theorem mR.notown {w:World} {base wb eb sb:Nat} {fv v:Value} {ex rs:List bY} (h:mR w base wb eb sb fv v ex rs) {k:Nat} {cs:Array Value} {t:TypeId} {z:Nat×Nat} (hb:w.heap[k]? =some (.cells cs t z)) (h1:t≠191) (h2:t≠26): ¬nw wb eb sb v k:=by
 rintro(e | e | e | e)
 ·subst e;have:=hb.symm.trans h.box;simp at this;exact h1 this.2.1
 ·subst e; exact h.exs.cells hb
 ·subst e; exact h.see.cells hb
 ·obtain⟨cs',hc⟩:=bK h.row e;have:=hb.symm.trans hc;simp at this;exact h2 this.2.1
structure tu (w : World) (B h5 h6 base wb eb sb : Nat) (fv v itv : Value) (l : List ci) (wr : World) (v2 : Value) (ex rs : List bY) : Prop where
 at':mR wr base wb eb sb fv v2 ex rs
 gr:gy (nw wb eb sb v) w wr
 own: ∀k,v2.ownBlock=some k->v.ownBlock=some k\/w.heap.size<=k
 apart: ∀k,v2.ownBlock=some k->k<h5\/h6<=k
 lo:wb<h5/\eb<h5/\sb<h5
 ord:w.heap.size<=h5/\h5<=h6/\h6<=wr.heap.size
 its:eO (fun k=>h5<=k/\k<h6) wr itv l
theorem eO.same {S:Nat->Prop} {w w':World} {v:Value} {l:List ci} (h:eO S w v l) (hs: ∀k,k<w.heap.size->S k->w'.heap[k]? =w.heap[k]?):eO S w' v l:=by obtain⟨cells,hr,ha⟩:=h;have h2:=hr.mono (T:=fun k=>k<w.heap.size/\S k) (fun k hk hS=>⟨hk,hS⟩) (by omega);have h3:=h2.same (w':=w') (fun k hk=>hs k hk.1 hk.2);exact⟨cells,h3.weak (fun k hk=>hk.2),ha.mono (fun c x _ hx=>hx.same (fun k hk hS=>⟨hS,hs k hk hS⟩))⟩
section
variable {w wr w' : World} {B h5 h6 base wb eb sb : Nat} {fv v itv v2 v3 : Value} {l : List ci} {ex rs ex3 rs3 : List bY}
theorem tu.below (h:tu w B h5 h6 base wb eb sb fv v itv l wr v2 ex rs) (hb:Below wr.heap.size wr w'):tu w B h5 h6 base wb eb sb fv v itv l w' v2 ex rs:=
 ⟨h.at'.below hb,h.gr.trans (gy.of_below hb (S:=fun _=>False)) (fun _ _ h=>False.elim h),h.own,h.apart,h.lo,⟨h.ord.1,h.ord.2.1,an h.ord.2.2 hb.size⟩,h.its.below hb⟩
theorem tu.notown (h:tu w B h5 h6 base wb eb sb fv v itv l wr v2 ex rs) {k:Nat} (hk:h5<=k/\k<h6): ¬nw wb eb sb v2 k:=by
 have:=h.lo;rintro(e | e | e | e)
 ·omega
 ·omega
 ·omega
 ·have:=h.apart k e; omega
theorem tu.step (h:tu w B h5 h6 base wb eb sb fv v itv l wr v2 ex rs) (hr:Mf base wb eb sb fv v2 ex3 rs3 wr w'): ∃v3,tu w B h5 h6 base wb eb sb fv v itv l w' v3 ex3 rs3/\gy (nw wb eb sb v2) wr w':=by
 obtain⟨v3,h1,h2,h3⟩:=hr;have hz:=h.gr.size;refine⟨v3,⟨h1,h.gr.trans h2 (fun i hi ho=> ?_),fun k hk=> ?_,fun k hk=> ?_,h.lo,⟨h.ord.1,h.ord.2.1,an h.ord.2.2 h2.size⟩,h.its.same (fun k hk hS=>h2.block k hk (h.notown hS))⟩,h2⟩
 ·rcases ho with e | e | e | e
  ·exact .inl e
  ·exact .inr (.inl e)
  ·exact .inr (.inr (.inl e))
  ·rcases h.own i e with e | e
   ·exact .inr (.inr (.inr e))
   ·omega
 ·rcases h3 k hk with e | e
  ·exact h.own k e
  ·exact .inr (by omega)
 ·rcases h3 k hk with e | e
  ·exact h.apart k e
  ·have:=h.ord; exact .inr (by omega)
end
def zB (visit:bY->Except Int (List ci)) (F:Nat) (cv:Value) (I:World->Prop) (B n:Nat):Prop:= ∀(r:bY) (st:List bY×List bY) (x:Int) (st':List bY×List bY) (base wb eb sb:Nat) (v:Value) (w:World),fB visit n r st=some (x,st')->st'.2.length<1099511627775->
 mR w base wb eb sb (.func (.func F) #[cv] #[]) v st.1 st.2->dZ r->I w->(B<=base/\B<=wb/\B<=eb/\B<=sb)->base<=w.heap.size->
 Calls Tryz.prog 133 #[.pointer (some ⟨wb,0,none⟩),eC r] w fun e w'=>e= .returned (.int .i64 x)/\Mf base wb eb sb (.func (.func F) #[cv] #[]) v st'.1 st'.2 w w'
def Cy (visit:bY->Except Int (List ci)) (F:Nat) (cv:Value) (I:World->Prop):Prop:= ∀(W:World) (r:bY),I W->dZ r->Calls Tryz.prog F #[cv,eC r] W (Qs (visit r) W)
def wD (I:World->Prop) (B:Nat):Prop:= ∀w w':World,I w->gy (B<= ·) w w'->I w'
theorem uK {B base wb eb sb:Nat} {w:World} {fv v:Value} {ex rs:List bY} (h:mR w base wb eb sb fv v ex rs) (hB:B<=base/\B<=wb/\B<=eb/\B<=sb) {k:Nat} (hk:nw wb eb sb v k):B<=k:=by
 rcases hk with e | e | e | e
 ·omega
 ·omega
 ·omega
 ·have:=(h.row.lt k e).1; omega
theorem qf {S T:Nat->Prop} {w w':World} (h:gy S w w') (hs: ∀k,S k->T k):gy T w w':=⟨h.os,h.tape,h.output,h.size,fun k hk hn=>h.block k hk (fun hS=>hn (hs k hS))⟩
theorem eO.lt {S:Nat->Prop} {w:World} {v:Value} {l:List ci} (h:eO S w v l):eO (fun k=>S k/\k<w.heap.size) w v l:=by obtain⟨cells,hr,ha⟩:=h;exact⟨cells,hr.mono (fun k hk hS=>⟨hS,hk⟩) (by omega),ha.mono (fun c x _ hx=>hx.same (fun k hk hS=>⟨⟨hS,hk⟩,rfl⟩))⟩
theorem sX {f:bY->List bY×List bY->Option (Int×(List bY×List bY))} {it:ci} {l:List ci} {ex rs:List bY} {q:Int×(List bY×List bY)} (h:jp f (it::l) (ex,rs)=some q):
  (it.kind≠2/\jp f l (ex,fD it.chunks rs)=some q)\/(it.kind=2/\ ∃y st2,f it.node (ex,fD it.chunks rs)=some (y,st2)/\((y≠0/\q=(y,st2))\/(y=0/\jp f l st2=some q))):=by
 rw[jp]at h
 split at h
 ·rename_i hk;exact .inl ⟨hk,h⟩
 ·rename_i hk;rw[dz]at h;obtain⟨⟨y,st2⟩,h1,h2⟩:=h;refine .inr ⟨Decidable.not_not.1 hk,y,st2,h1, ?_⟩;simp only at h2
  split at h2
  ·rename_i hy;exact .inl ⟨hy,(bt h2).symm⟩
  ·rename_i hy;exact .inr ⟨Decidable.not_not.1 hy,h2⟩
theorem AH {visit:bY->Except Int (List ci)} {n:Nat} {it:ci} {l:List ci} {ex rs:List bY} {x:Int} {st':List bY×List bY} (h:jp (fB visit n) (it::l) (ex,rs)=some (x,st')):(fD it.chunks rs).length<=st'.2.length:=by
 rcases sX h with⟨_,h2⟩ | ⟨_,y,st2,h1,h2⟩
 ·exact lV (ng visit n) l _ x st' h2
 ·have h3:=ng visit n _ _ _ _ h1
  rcases h2 with⟨_,h2⟩ | ⟨_,h2⟩
  ·obtain⟨_,rfl⟩:=gE h2;exact h3
  ·exact an h3 (lV (ng visit n) l _ x st' h2)
theorem GP (visit:bY->Except Int (List ci)) (cv:Value) (I:World->Prop) (B n:Nat) (hI:wD I B) (hV:Cy visit 83 cv I) (IH:zB visit 83 cv I B n):zB visit 83 cv I B (n+1):=by
 intro r st x st' base wb eb sb v w hw Hk h hr hi hB hq;have HI:=ag hI;have HV:=ag hV;have HJ:=ag IH;have HB:=ag hB;have HR:=ag hr;have H:=ag h;have Hr:=ag hi;have HL:=ag Hk;have Hf:=ag hw;have HX:(cT r st.2).length<=st'.2.length:=by
  rw[fB]at hw
  split at hw
  ·simp only[aV,cM]at hw;obtain⟨_,rfl⟩:=hw;exact ah _
  ·split at hw
   ·simp only[aV,cM]at hw;obtain⟨_,rfl⟩:=hw;exact ah _
   ·exact lV (ng visit n) _ _ x st' hw
 have yb:=oS r st.2;have Hp:=ag ((ak w.heap.size w).alloc (ah _) (.cells #[.string r.name, .int .i64 r.gen, .int .i64 r.size] 26));have Hs:=ag (h.below Hp.o);have hC:=ag (aC w (.cells #[.string r.name, .int .i64 r.gen, .int .i64 r.size] 26));have yl:wb<w.heap.size:=am h.box;unfold eC;clear hw h hr hi hI hV IH hB
 go_enter Tryz.func133,Tryz.ntmps133
 go_wp2_with fail;refine(oT base wb eb sb _ v st.1 st.2 r _ Hs.o HR.o (by omega) (by simp; omega)).mono ?_;rintro e w1 ⟨rfl,v1,HA,hZ,HC⟩;have Hb:=ag HA;have hu:=ag (show w1.heap[w.heap.size]? =some (.cells #[.string r.name, .int .i64 r.gen, .int .i64 r.size] 26 (0,0))from(hZ.block w.heap.size (by simp) (fun ho=>by
  rcases ho with e | e | e | e
  ·omega
  ·have:=H.o.exs.map.lt; omega
  ·have:=H.o.see.map.lt; omega
  ·have:=(H.o.row.lt _ e).2; omega)).trans hC.o)
 have H0:=hZ.size;simp at H0;have Hq:=ag (show gy (nw wb eb sb v) w w1 from(gy.of_below Hp.o (S:=nw wb eb sb v)).trans hZ (fun _ _ h=>h));have Hd:=ag (show ∀k,v1.ownBlock=some k->v.ownBlock=some k\/w.heap.size<=k from fun k hk=>by
  rcases HC k hk with e | e
  ·exact .inl e
  ·simp at e; exact .inr (by omega))
 clear HA hZ HC Hs hC;have c1:=bD (k:=1) Hb.o.box;obtain⟨q0,q1,q2,_⟩:=aT hu.o;simp only[fV]at c1;go_wp2_with fail;refine bL [some 6] (by kernel_rfl) (by kernel_rfl) (by kernel_rfl) ?_;simp only[ef,aS,aY];obtain⟨W1,Hh⟩:=bH w1.drew;rw[<-Hh];have hf:Below w1.heap.size w1 W1:=by rw[Hh]; exact(ak _ _).drew
 have hl:=ag (Hb.o.below hf);have hd:=ag ((hf.block w.heap.size (by omega)).trans hu.o);have h8:=ag (Hq.o.trans (gy.of_below hf (S:=fun _=>False)) (fun _ _ h=>False.elim h));have yn:=hf.size;clear hf Hb hu Hq c1 q0 q1 q2;have c1:=bD (k:=1) hl.o.box;have q0:=bD (k:=0) hd.o;have q1:=bD (k:=1) hd.o;have q2:=bD (k:=2) hd.o;have h0:=hl.o.exs.look HR.o
 unfold eC at h0;simp only[fV]at c1 q0 q1 q2;clear Hh
 by_cases hm:r∈st.1
 ·have e1:decide (r∈st.1)=true:=by simp[hm]
  rw[e1]at h0;have hb:=ag (show(x,st')=(0,(st.1,cT r st.2)) by have:=Hf.o; rw[fB,if_pos hm]at this; exact(bt this).symm);clear e1 hm
  repeat (first | (refine cy rfl ?_; simp only[bM]) | (refine cP rfl (fun K hK=> ?_); go_simp; refine hK _ ?_; clear hK K))
  refine cO ?_;go_wp2_with fail;go_ret;obtain⟨e1,e2⟩:=gE hb.o;exact⟨dK e1.symm,v1,by rw[e2]; exact hl.o,h8.o,Hd.o⟩
 ·have e1:decide (r∈st.1)=false:=by simp[hm]
  rw[e1]at h0;have HM:=ag hm;have Hg:=ag (show(match visit r with | .error x=>some (x,(st.1++[r],cT r st.2)) | .ok l=>jp (fB visit n) l (st.1++[r],cT r st.2))=some (x,st') by have:=Hf.o; rw[fB,if_neg hm]at this; exact this);clear e1 hm Hf
  repeat (first | (refine cy rfl ?_; simp only[bM]) | (refine cP rfl (fun K hK=> ?_); go_simp; refine hK _ ?_; clear hK K))
  refine cO ?_;go_wp2_with fail;refine bL [some 5,none] (by kernel_rfl) (by kernel_rfl) (by kernel_rfl) ?_;simp only[ef,aS,aY,bA,bQ]
  repeat (first | (refine cy rfl ?_; simp only[bM]) | (refine cP rfl (fun K hK=> ?_); go_simp; refine hK _ ?_; clear hK K))
  refine cO ?_;refine eE rfl (fun K hK=> ?_);have Ht:=ag (hl.o.below ((ak _ W1).drew));go_wp2_with (at_mapUpdate; go_must (refine kq rfl _ _ _ rfl eb st.1 Ht.o.exs rfl r HR.o rfl rfl HM.o ?_); intro w2 hT Hy);have H7:eb<w.heap.size:=H.o.exs.map.lt;have yc:sb<w.heap.size:=H.o.see.map.lt;have Hm:=H.o.wne;have hP:=H.o.ne;refine bL [some 5,none,some 5] (by kernel_rfl) (by kernel_rfl) (by kernel_rfl) ?_
  simp only[ef,aS,aY,bA,bQ];obtain⟨W2,hX⟩:=bH w2.drew;rw[<-hX];have hv:W1.grownBy W2 (some eb):=by rw[hX]; exact bW (b:=W1.drew) ⟨rfl,rfl,rfl,ah _,fun _ _ _=>rfl⟩ (bW Hy ⟨rfl,rfl,rfl,ah _,fun _ _ _=>rfl⟩)
  have hs:iU W2 eb (st.1++[r]):=by rw[hX]; exact hT.same rfl
  have hU:=ag (show mR W2 base wb eb sb (.func (.func 83) #[cv] #[]) v1 (st.1++[r]) (cT r st.2)from⟨mq hv hl.o.box Hm.1,hs,hl.o.see.same (hv.block sb hl.o.see.map.lt (by simp; exact ks hP)),hl.o.row.kept hv (.inr (fun e=>(hl.o.own e).2.1 rfl)),hP⟩);have hD:=ag (mq hv hd.o (by omega));have h9:=ag (show gy (nw wb eb sb v) w W2 from h8.o.trans (gy.of_grown (S:=fun k=>k=eb) hv (fun k hk=>by cases hk; rfl)) (fun i _ h=> .inr (.inl h)))
  have yp:=hv.size;have HG:=ag (HI.o w W2 Hr.o (qf h9.o (fun k hk=>uK H.o HB.o hk)));clear hX hv hs hT Hy Ht hl hd h8 c1 q0 q1 q2 h0;have c0:=bD (k:=0) hU.o.box;obtain⟨q0,q1,q2,_⟩:=aT hD.o;simp only[aF,aD]at c0
  repeat (first | (refine cy rfl ?_; simp only[bM]) | (refine cP rfl (fun K hK=> ?_); go_simp; refine hK _ ?_; clear hK K))
  refine cO ?_;refine eE rfl (fun K hK=> ?_);go_wp2_with fail;refine(HV.o W2 r HG.o HR.o).mono ?_;rintro e w3 ⟨hJ,ha⟩;have Hc:=ag (hU.o.below hJ);have Ha:=ag (h9.o.trans (gy.of_below hJ (S:=fun _=>False)) (fun _ _ h=>False.elim h));have H6:=ag hJ;have H4:=hJ.size;clear hJ c0 q0 q1 q2
  cases hA:visit r with
  | error y=>
   rw[hA]at ha;obtain⟨rfl,hy⟩:=ha;have hb:=ag (show(x,st')=(y,(st.1++[r],cT r st.2)) by have:=Hg.o; rw[hA]at this; exact(bt this).symm);have e1:(y != 0)=true:=by simp[hy]
   clear hA hy;go_wp2_with fail
   repeat (first | (refine cy rfl ?_; simp only[bM]) | (refine cP rfl (fun K hK=> ?_); go_simp; refine hK _ ?_; clear hK K))
   refine cO ?_;go_wp2_with fail;go_ret;obtain⟨e1,e2⟩:=gE hb.o;exact⟨dK e1.symm,v1,by rw[e2]; exact Hc.o,Ha.o,Hd.o⟩
  | ok l=>
   rw[hA]at ha;obtain⟨itv,rfl,hx⟩:=ha;have HO:=ag (show jp (fB visit n) l (st.1++[r],cT r st.2)=some (x,st') by have:=Hg.o; rw[hA]at this; exact this);obtain⟨ia,ic,rfl,H8,HS,-⟩:=cU.shape hx lm.len;unfold maxLen at HS;have HK:=ag (show tu w B W2.heap.size w3.heap.size base wb eb sb (.func (.func 83) #[cv] #[]) v (.slice ia l.length ic) l w3 v1 (st.1++[r]) (cT r st.2)from
    ⟨Hc.o,Ha.o,Hd.o,fun k hk=> .inl (hU.o.row.lt k hk).2,⟨by omega,by omega,by omega⟩,⟨by omega,H4,ah _⟩,eO.lt hx⟩)
   clear hA hx Hg hU Hc h9 Ha hD;go_wp2_with fail
   repeat (first | (refine cy rfl ?_; simp only[bM]) | (refine cP rfl (fun K hK=> ?_); go_simp; refine hK _ ?_; clear hK K))
   refine cO ?_;go_wp2_with fail
   go_loopw [40] (fun i wr=> ∃(k:Nat) (v2:Value) (ex2 rs2:List bY),k<=l.length/\i= .int .i64 k/\jp (fB visit n) (l.drop k) (ex2,rs2)=some (x,st')/\tu w B W2.heap.size w3.heap.size base wb eb sb (.func (.func 83) #[cv] #[]) v (.slice ia l.length ic) l wr v2 ex2 rs2) (fun i _=>l.length-(intOf i).toNat)
   ·exact⟨0,v1,_,_,aR _,rfl,HO.o,HK.o⟩
   ·obtain⟨k,v2,ex2,rs2,hk,rfl,HE,Hz⟩:=hrel;have Hw:=ag HE;have hF:=ag Hz;clear HE Hz
    by_cases HW:k<l.length
    ·obtain⟨it,Hn⟩: ∃it,l[k]? =some it:=⟨l[k],by simp[HW]⟩;obtain⟨b,o,ca,cc,rfl,HD,Ho,-,-,hg⟩:=lR hF.o.its (ak _ _) Hn;have hG:=ag (show jp (fB visit n) (it::l.drop (k+1)) (ex2,rs2)=some (x,st') by obtain⟨HT,rfl⟩:=aA.1 Hn;rw[<-cD HT]; exact Hw.o)
     have ya:=AH hG.o;have HN:=ag HD;have q0:=hg 0 (by omega);have q1:=hg 1 (by omega);have q2:=hg 2 (by omega);have q3:=hg 3 (by omega);have q4:=hg 4 (by omega);have q5:=hg 5 (by omega);have q6:=hg 6 (by omega);have q7:=hg 7 (by omega);have q8:=hg 8 (by omega);have q9:=hg 9 (by omega);simp only[fu,aD,cI,dh]at q0 q1 q2 q3 q4 q5 q6 q7 q8 q9
     obtain⟨wo,HZ⟩:=bH wr;subst HZ;have h3:=ag ((ak wo.heap.size wo).alloc (ah _) (.cells #[.string it.name, .int .i64 it.kind, .int .i64 it.mode, .int .i64 it.time, .int .i64 it.size, .string it.link, .slice ca it.chunks.length cc, .string it.node.name, .int .i64 it.node.gen, .int .i64 it.node.size] 28));have Hu:=ag (hF.o.below h3.o);have Hv:=ag (show dJ (fun k=>W2.heap.size<=k/\k<w3.heap.size) _ (.slice ca it.chunks.length cc) it.chunks from cU.below Ho (by omega) h3.o (fun _ _ _ h=>h))
     obtain⟨a',cap',HY,HQ,Hi,-⟩:=cU.shape Ho pA.len
     cases HY
     unfold maxLen at Hi;clear Hn HD Ho hg;have hE:=ag (aC wo (.cells #[.string it.name, .int .i64 it.kind, .int .i64 it.mode, .int .i64 it.time, .int .i64 it.size, .string it.link, .slice ca it.chunks.length cc, .string it.node.name, .int .i64 it.node.gen, .int .i64 it.node.size] 28));go_wp2_with fail;clear q0 q1 q2 q3 q4 q5 q6 q7 q8 q9
     go_loopw [47] (fun i wq=> ∃(j:Nat) (v3:Value),j<=it.chunks.length/\i= .int .i64 j/\tu w B W2.heap.size w3.heap.size base wb eb sb (.func (.func 83) #[cv] #[]) v (.slice (some ⟨b,o,none⟩) l.length ic) l wq v3 ex2 (fD (it.chunks.take j) rs2)/\dJ (fun k=>W2.heap.size<=k/\k<w3.heap.size) wq (.slice ca it.chunks.length cc) it.chunks/\wq.heap[wo.heap.size]? =some (.cells #[.string it.name, .int .i64 it.kind, .int .i64 it.mode, .int .i64 it.time, .int .i64 it.size, .string it.link, .slice ca it.chunks.length cc, .string it.node.name, .int .i64 it.node.gen, .int .i64 it.node.size] 28 (0,0))) (fun i _=>it.chunks.length-(intOf i).toNat)
     ·exact⟨0,v2,aR _,rfl,Hu.o,Hv.o,hE.o⟩
     ·obtain⟨j,v3,hj,rfl,hN,hR,hL⟩:=hrel;have hp:=ag hN;have hH:=ag hR;have he:=ag hL;clear hN hR hL Hu Hv hE h3
      by_cases Hl:j<it.chunks.length
      ·obtain⟨c,hc⟩: ∃c,it.chunks[j]? =some c:=⟨it.chunks[j],by simp[Hl]⟩;obtain⟨b2,o2,rfl,hM,p0,p1,p2⟩:=lY hH.o (ak _ _) hc;have HF:=ag hM;have HP:=ag (show fD (it.chunks.take (j+1)) rs2=cT c (fD (it.chunks.take j) rs2) by rw[dC hc,vE]);have H9:=rg it.chunks rs2 j;have hn:=ag ((ak wr.heap.size wr).alloc (ah _) (.cells #[.string c.name, .int .i64 c.gen, .int .i64 c.size] 26))
       have hW:=ag (hp.o.below hn.o);have Hx:base<=(wr.alloc (.cells #[.string c.name, .int .i64 c.gen, .int .i64 c.size] 26)).heap.size:=an hq (an hp.o.gr.size hn.o.size);have h7:=ag Hx;clear hc hM Hx;go_wp2_with fail;refine(oT base wb eb sb _ v3 ex2 _ c _ hW.o.at' HF.o (by omega) h7.o).mono ?_;rintro e w4 ⟨rfl,ha⟩;obtain⟨v4,hh,Hj⟩:=hW.o.step ha
       have hz:=ag hh;have H5:=hn.o.size;have He:=ag (show dJ (fun k=>W2.heap.size<=k/\k<w3.heap.size) w4 (.slice (some ⟨b2,o2,none⟩) it.chunks.length cc) it.chunks from dJ.same hH.o (fun k hk hS=>⟨hS,(Hj.block k (aO hk H5) (hW.o.notown hS)).trans (hn.o.block k hk)⟩));have hY:=mz he.o (.cells #[.string c.name, .int .i64 c.gen, .int .i64 c.size] 26)
       have h4:=ag ((Hj.block wo.heap.size ((aN.1 hY).1) (hW.o.at'.notown hY (by decide) (by decide))).trans hY);clear ha hh Hj hY p0 p1 p2;go_wp2_with fail
       go_roundw
       ·exact⟨j+1,v4,by omega,by go_num,by rw[HP.o]; exact hz.o,He.o,h4.o⟩
       simp[intOf]; omega
      ·obtain rfl:j=it.chunks.length:=by omega
       rw[bo (ah _)]at hp;have c1:=bD (k:=1) he.o;have c7:=bD (k:=7) he.o;have c8:=bD (k:=8) he.o;have c9:=bD (k:=9) he.o;simp only[fV]at c1 c7 c8 c9
       rcases sX hG.o with⟨hO,h2⟩ | ⟨hO,y,st2,h1,h2⟩
       ·have e2:(it.kind != 2)=true:=by simp[hO]
        have H2:=ag h2;clear hO h2;go_wp2_with fail
        go_roundw
        ·exact⟨k+1,v3,_,_,by omega,by go_num,H2.o,hp.o⟩
        simp[intOf]; omega
       ·have e2:(it.kind != 2)=false:=by simp[hO]
        have H1:=ag h1;have H2:=ag h2;have HU:st2.2.length<=st'.2.length:=by
         rcases h2 with⟨_,h2⟩ | ⟨_,h2⟩
         ·obtain⟨_,rfl⟩:=gE h2;exact ah _
         ·exact lV (ng visit n) _ _ x st' h2
        have HH:=ag (HI.o w wr Hr.o (qf hp.o.gr (fun k hk=>uK H.o HB.o hk)));have h7:=ag (an hq hp.o.gr.size);clear hO h1 h2;go_wp2_with fail;refine(HJ.o it.node (ex2,fD it.chunks rs2) y st2 base wb eb sb v3 wr H1.o (by omega) hp.o.at' HN.o.nd HH.o HB.o h7.o).mono ?_;rintro e w4 ⟨rfl,ha⟩;obtain⟨v4,hh,-⟩:=hp.o.step ha;have hz:=ag hh
        clear ha hh c1 c7 c8 c9
        rcases H2.o with⟨hy,h2⟩ | ⟨hy,h2⟩
        ·have e3:(y != 0)=true:=by simp[hy]
         have hb:=ag h2;clear hy h2;go_wp2_with fail;go_ret;obtain⟨e1,e2⟩:=gE hb.o;exact⟨dK e1.symm,v4,by rw[e2]; exact hz.o.at',hz.o.gr,hz.o.own⟩
        ·subst hy;have H3:=ag h2;clear h2;go_wp2_with fail
         go_roundw
         ·exact⟨k+1,v4,st2.1,st2.2,by omega,by go_num,H3.o,hz.o⟩
         simp[intOf]; omega
    ·obtain rfl:k=l.length:=by omega
     have hb:=ag (show(x,st')=(0,(ex2,rs2)) by have:=Hw.o; rw[fq (ah _)]at this; exact(bt this).symm);go_wp2_with fail;go_ret;obtain⟨e1,e2⟩:=gE hb.o;exact⟨dK e1.symm,v2,by rw[e2]; exact hF.o.at',hF.o.gr,hF.o.own⟩
theorem Bl (visit:bY->Except Int (List ci)) (cv:Value) (I:World->Prop) (B:Nat) (hI:wD I B) (hV:Cy visit 83 cv I): ∀n,zB visit 83 cv I B n
 | 0=>by intro r st x st' base wb eb sb v w hw; simp[fB]at hw
 | n+1=>GP visit cv I B n hI hV (Bl visit cv I B hI hV n)
def kK (visit:bY->Except Int (List ci)) (n:Nat) (root:bY):Option (Except Int (List bY)):=
 if lj root=true then(fB visit n root ([],[])).map fun p=>if p.1=0 then .ok p.2.2 else .error p.1 else some (.error 1)
def rG (res:Except Int (List bY)) (w:World) (e:Ending) (w':World):Prop:=Below w.heap.size w w'/\match res with
 | .error x=>e= .returned (.tuple #[.slice none 0 0, .int .i64 x])/\x≠0
 | .ok rs=> ∃v,e= .returned (.tuple #[v, .int .i64 0])/\dJ (w.heap.size<= ·) w' v rs
theorem ES {w:World} {B:Nat} {fv:Value} :mR (((w.alloc (.map #[] 0)).alloc (.map #[] 0)).alloc (.cells #[fv, .map (some w.heap.size), .map (some (w.heap.size+1)), .slice none 0 0] 191)) B (w.heap.size+1+1) w.heap.size (w.heap.size+1) fv (.slice none 0 0) [] []:=by
 have e1:(w.alloc (.map #[] 0)).heap.size=w.heap.size+1:=by simp
 have e2:((w.alloc (.map #[] 0)).alloc (.map #[] 0)).heap.size=w.heap.size+1+1:=by simp
 have h1:=iU.made w;have h2:=iU.made (w.alloc (.map #[] 0));rw[e1]at h2;have h3:=aC ((w.alloc (.map #[] 0)).alloc (.map #[] 0)) (.cells #[fv, .map (some w.heap.size), .map (some (w.heap.size+1)), .slice none 0 0] 191);rw[e2]at h3;refine⟨h3, ?_,h2.same (cN _ _ _ (by rw[e2]; omega)),bN _ _ _ _,by omega⟩;exact h1.same ((cN _ _ _ (by rw[e2]; omega)).trans (cN _ _ _ (by rw[e1]; omega)))
theorem FU (visit:bY->Except Int (List ci)) (cv:Value) (I:World->Prop) (n:Nat) (root:bY) (res:Except Int (List bY)) (w:World) (hI:wD I w.heap.size) (hV:Cy visit 83 cv I) (hi:I w) (hr:dZ root)
  (hn:kK visit n root=some res) (hl: ∀p,fB visit n root ([],[])=some p->p.2.2.length<1099511627775):
  Calls Tryz.prog 94 #[eC root, .func (.func 83) #[cv] #[]] w (rG res w):=by
 have HI:=ag hI;have HV:=ag hV;have hB:=ag hi;have HR:=ag hr;have HL:=ag hl;have hG:= @run_makeMap Tryz.prog;have hu:=ag ((ak w.heap.size w).alloc (ah _) (.cells #[.string root.name, .int .i64 root.gen, .int .i64 root.size] 26));have hd:=ag (aC w (.cells #[.string root.name, .int .i64 root.gen, .int .i64 root.size] 26));unfold eC;clear hI hV hi hr hl
 cases hv:lj root
 ·have ha:=ag (show res= .error 1 by rw[kK,if_neg (by rw[hv]; simp)]at hn; exact(bt hn).symm);have hp:=ag hv;clear hv hn
  go_enter Tryz.func94,Tryz.ntmps94
  go_wp2_with fail;refine(iD root false _ HR.o hp.o).mono ?_;rintro e w1 ⟨rfl,hc⟩;have hj:=ag (aj hu.o hc);clear hc;go_wp2_with fail
  go_ret2
  exact⟨hj.o,by rw[ha.o]; exact⟨rfl,by decide⟩⟩
 ·have hp:=ag hv;obtain⟨⟨x,st⟩,hs,hf⟩: ∃p,fB visit n root ([],[])=some p/\res=(if p.1=0 then .ok p.2.2 else .error p.1):=by rw[kK,if_pos hv,ft]at hn;obtain⟨p,h1,h2⟩:=hn;exact⟨p,h1,h2.symm⟩
  have hD:=ag hs;have ha:=ag hf;have hC:=ag (HL.o _ hs);clear hv hn hs hf
  go_enter Tryz.func94,Tryz.ntmps94
  go_wp2_with fail;refine(iD root true _ HR.o hp.o).mono ?_;rintro e w1 ⟨rfl,hc⟩;have hj:=ag (aj hu.o hc);have hb:=(hc.block w.heap.size (by simp)).trans hd.o;have he:=ag hb;have hF:=am hb;clear hc hb hd;obtain⟨W,hW⟩:=bH (((w1.alloc (.map #[] 0)).alloc (.map #[] 0)).alloc (.cells #[.func (.func 83) #[cv] #[], .map (some w1.heap.size), .map (some (w1.heap.size+1)), .slice none 0 0] 191))
  have HK:=ag (show mR W w.heap.size (w1.heap.size+1+1) w1.heap.size (w1.heap.size+1) (.func (.func 83) #[cv] #[]) (.slice none 0 0) [] [] by rw[hW]; exact ES);have hq:Below w1.heap.size w1 W:=by rw[hW]; exact((eT).alloc (by simp) _).alloc (by simp; omega) _
  have hg:=ag (aj hj.o hq);have hm:=ag ((hq.block w.heap.size hF).trans he.o);obtain⟨q0,q1,q2,_⟩:=aT hm.o;obtain⟨r0,r1,r2,_⟩:=aT he.o;have hA:=ag (HI.o w W hB.o (gy.of_below hg.o));clear hq
  go_upto_region 4 with(fail)
  rw[<-hW];clear hW;go_wp2_with fail;refine(Bl visit cv I w.heap.size HI.o HV.o n root ([],[]) x st w.heap.size (w1.heap.size+1+1) w1.heap.size (w1.heap.size+1) (.slice none 0 0) W hD.o hC.o HK.o HR.o hA.o ⟨ah _,by omega,by omega,by omega⟩ hg.o.size).mono ?_;rintro e w2 ⟨rfl,v2,hh,hz,hE⟩;have hy:=ag hh;have hw:=ag (show Below w.heap.size w w2 from hg.o.trans (hz.below hg.o.size (fun k hk=>uK HK.o ⟨ah _,by omega,by omega,by omega⟩ hk)))
  obtain⟨a2,c2,rfl⟩:=hh.shape;have d3:=bD (k:=3) hh.box;simp only[fV]at d3;clear hh hz hE q0 q1 q2 r0 r1 r2
  by_cases hx:x=0
  ·subst hx;have ho:=ag (show res= .ok st.2 by rw[ha.o]; simp);go_wp2_with fail
   go_ret2
   exact⟨hw.o,by rw[ho.o]; exact⟨_,rfl,dJ.same (oq hy.o.row hy.o.ok) (fun k _ hS=>⟨hS.1,rfl⟩)⟩⟩
  ·have e1:(x != 0)=true:=by simp[hx]
   have ho:=ag (show res= .error x by rw[ha.o]; simp[hx]);have HX:=ag hx;clear hx;go_wp2_with fail
   go_ret2
   exact⟨hw.o,by rw[ho.o]; exact⟨rfl,HX.o⟩⟩
structure kU (B : Nat) (cv : Value) (cs : List (ByteArray × List UInt8)) (w : World) : Prop where
 cont:fI (· <B) w cv cs
 env:nJ w
 lt:1<B/\3<B/\4<B
 size:B<=w.heap.size
theorem bX.lt' {S:Nat->Prop} {w:World} {sz:Nat} {v:Value} {n:Nat} {cells:List Value} (h:bX S w sz v n cells) (hs:0<sz):bX (· <w.heap.size) w sz v n cells:=h.mono (fun _ hk _=>hk) hs
theorem fI.lt {S:Nat->Prop} {w:World} {cv:Value} {cs:List (ByteArray×List UInt8)} (h:fI S w cv cs):fI (· <w.heap.size) w cv cs:=by
 rcases h with h | ⟨b,m,h1,h0,h2,h3⟩
 ·exact .inl h
 ·refine .inr ⟨b,m,h1,h2.lt,h2, ?_⟩;clear h1 h2 h0
  induction m generalizing cs with
  | nil=>cases cs with
   | nil=>trivial
   | cons=>exact h3
  | cons p m ih=>cases cs with
   | nil=>exact h3
   | cons q cs=>exact⟨h3.1,bX.lt' h3.2.1 (by omega),ih h3.2.2⟩
theorem kU.keep {B:Nat} {cv:Value} {cs:List (ByteArray×List UInt8)} :wD (kU B cv cs) B:=by
 intro w w' h hg;have hb:Below B w w':=hg.below h.size (fun k hk=>hk);refine⟨?_,h.env.belowB hb h.lt.1 h.lt.2.1 h.lt.2.2,h.lt,an h.size hg.size⟩
 rcases h.cont with h1 | ⟨b,m,h1,h0,h2,h3⟩
 ·exact .inl h1
 ·exact .inr ⟨b,m,h1,h0,h2.same (hb.block b h0),h3.mono (fun v bs hv=>bX.same hv (fun k hk=>hb.block k hk))⟩
theorem kU.visit {B:Nat} {cv:Value} {cs:List (ByteArray×List UInt8)} :Cy (gq cs) 83 cv (kU B cv cs):=fun W r hI hr=>(tW (· <B) cv cs r W hI.cont hr hI.env).mono fun _ _ h=>h
theorem kU.start {S:Nat->Prop} {w:World} {cv:Value} {cs:List (ByteArray×List UInt8)} (h:fI S w cv cs) (he:nJ w):kU w.heap.size cv cs w:=⟨h.lt,he,he.lt,ah _⟩
theorem NO (S:Nat->Prop) (cv:Value) (cs:List (ByteArray×List UInt8)) (n:Nat) (root:bY) (res:Except Int (List bY)) (w:World) (hc:fI S w cv cs) (henv:nJ w) (hr:dZ root)
  (hn:kK (gq cs) n root=some res) (hl: ∀p,fB (gq cs) n root ([],[])=some p->p.2.2.length<1099511627775):
  Calls Tryz.prog 38 #[eC root,cv] w (rG res w):=by
 have hf: ∀(fn:Fn) (first cap:Array Value) (w:World),(Instr.makeFunc fn first cap).run Tryz.prog w= .ok (.func fn first cap) w:=fun _ _ _ _=>rfl
 have hb:=ag ((ak w.heap.size w).alloc (ah _) (.cells #[.string root.name, .int .i64 root.gen, .int .i64 root.size] 26));have HI:=ag (kU.start (hc.below hb.o) (henv.below hb.o));have HR:=ag hr;have HN:=ag hn;have HL:=ag hl;unfold eC;clear hc henv hr hn hl
 go_enter Tryz.func38,Tryz.ntmps38
 go_wp2_with fail;refine(FU (gq cs) cv _ n root res _ kU.keep kU.visit HI.o HR.o HN.o HL.o).mono ?_;rintro e w1 ⟨he,ha⟩;have hd:=ag (aj hb.o he);clear he
 cases res with
 | error x=>
  obtain⟨rfl,hx⟩:=ha;have HX:=ag hx;clear hx;go_wp2_with fail
  go_ret2
  exact⟨hd.o,rfl,HX.o⟩
 | ok rs=>
  obtain⟨v,rfl,hv⟩:=ha;have hz:=hb.o.size;have HV:=ag (show dJ (w.heap.size<= ·) w1 v rs from dJ.same hv (fun k _ hS=>⟨an hz hS,rfl⟩));obtain⟨a,cap,rfl,-,-,-⟩:=cU.shape hv pA.len;clear hv;go_wp2_with fail
  go_ret2
  exact⟨hd.o,_,rfl,HV.o⟩
theorem mX : ∀ {l U:List bY},l.Nodup->(∀x∈l,x∈U)->l.length<=U.length
 | [],_,_,_=>aR _
 | a::l,U,hn,hs=>by obtain⟨h1,h2⟩:=gu.1 hn;have ha:a∈U:=hs a (by simp);have h3:=mX (l:=l) (U:=U.erase a) h2 (fun x hx=>(List.mem_erase_of_ne (fun e=>by subst e; exact h1 hx)).2 (hs x (by simp[hx])));have h4:=List.length_erase_of_mem ha;have h5:0<U.length:=List.length_pos_of_mem ha;simp only[ay];omega
def qX (it:ci):List bY:=it.chunks++[it.node]
def QJ (l:List ci):List bY:=l.flatMap qX
def pk (cs:List (ByteArray×List UInt8)):List bY:=cs.flatMap fun p=>match js p.2 with
 | some l=>QJ l
 | none=>[]
theorem JY {cs:List (ByteArray×List UInt8)} {n:ByteArray} {bs:List UInt8} (h:dU cs n=some bs): ∃k,(k,bs)∈cs:=by
 induction cs with
 | nil=>simp[dU]at h
 | cons p cs ih=>
  obtain⟨k,b⟩:=p;simp only[dU]at h
  split at h
  ·simp only[aV]at h; subst h; exact⟨k,by simp⟩
  ·obtain⟨k',hk⟩:=ih h;exact⟨k',by simp[hk]⟩
theorem AB {cs:List (ByteArray×List UInt8)} {r:bY} {l:List ci} (h:gq cs r= .ok l): ∃k bs,(k,bs)∈cs/\js bs=some l:=by
 unfold gq at h
 cases hc:jr cs r with
 | error x=>rw[hc]at h; simp at h
 | ok bs=>
  rw[hc]at h;simp only at h
  cases hi:js bs with
  | none=>rw[hi]at h; simp at h
  | some l'=>
   rw[hi]at h;simp only[dj]at h;subst h;unfold jr at hc
   cases hf:dU cs r.name with
   | none=>rw[hf]at hc; simp at hc
   | some b=>
    rw[hf]at hc;simp only at hc
    split at hc
    ·simp only[dj]at hc; subst hc;obtain⟨k,hk⟩:=JY hf;exact⟨k,b,hk,hi⟩
    ·simp at hc
theorem xO {cs:List (ByteArray×List UInt8)} {r:bY} {l:List ci} (h:gq cs r= .ok l) {it:ci} (hit:it∈l): ∀c∈qX it,c∈pk cs:=fun c hc=>by obtain⟨k,bs,h1,h2⟩:=AB h;refine dt.2 ⟨(k,bs),h1, ?_⟩;simp only[h2];exact dt.2 ⟨it,hit,hc⟩
structure uo (U : List bY) (st : List bY × List bY) : Prop where
 e1:st.1.Nodup
 e2: ∀x∈st.1,x∈U
 l1:st.2.Nodup
 l2: ∀x∈st.2,x∈U
theorem od {r:bY} {rs:List bY} (h:rs.Nodup):(cT r rs).Nodup:=by
 unfold cT
 split
 ·exact h
 ·rename_i hm;exact dX.2 ⟨h,by simp,fun a ha b hb e=>by simp only[aL]at hb; subst hb e; exact hm ha⟩
theorem lS {r x:bY} {rs:List bY} :x∈cT r rs<->x∈rs\/x=r:=by
 unfold cT
 split
 ·rename_i hm;exact⟨.inl,fun h=>by rcases h with h | rfl; exact h; exact hm⟩
 ·simp
theorem tR : ∀(cs:List bY) {rs:List bY},rs.Nodup->(fD cs rs).Nodup
 | [],_,h=>h
 | _c::cs,_,h=>tR cs (od h)
theorem qk : ∀(cs:List bY) {rs:List bY} {x:bY},x∈fD cs rs<->x∈rs\/x∈cs
 | [],rs,x=>by simp[fD]
 | c::cs,rs,x=>by
  show x∈fD cs (cT c rs)<->_
  rw[qk cs,lS,aU,or_assoc]
theorem uo.men {U:List bY} {st:List bY×List bY} (h:uo U st) {cs:List bY} (hc: ∀c∈cs,c∈U):uo U (st.1,fD cs st.2):=
 ⟨h.e1,h.e2,tR cs h.l1,fun x hx=>by
  rcases(qk cs).1 hx with hx | hx
  ·exact h.l2 x hx
  ·exact hc x hx⟩
def Mc (U:List bY) (f:bY->List bY×List bY->Option (Int×(List bY×List bY))) (n:Nat):Prop:= ∀r st,r∈U->uo U st->U.length<n+st.1.length-> ∃x st',f r st=some (x,st')/\uo U st'/\st.1.length<=st'.1.length
theorem qp {U:List bY} {f:bY->List bY×List bY->Option (Int×(List bY×List bY))} {n:Nat} (hf:Mc U f n):
  ∀(l:List ci) (st:List bY×List bY),(∀it∈l,∀c∈qX it,c∈U)->uo U st->U.length<n+st.1.length-> ∃x st',jp f l st=some (x,st')/\uo U st'/\st.1.length<=st'.1.length
 | [],st,_,hi,_=>⟨0,st,rfl,hi,ah _⟩
 | it::l,st,hl,hi,hn=>by
  have hi2:=hi.men (cs:=it.chunks) (fun c hc=>hl it (by simp) _ (by simp[qX,hc]));rw[jp]
  split
  ·exact qp hf l _ (fun x hx=>hl x (by simp[hx])) hi2 hn
  ·obtain⟨x,st2,h1,h2,h3⟩:=hf it.node _ (hl it (by simp) _ (by simp[qX])) hi2 hn;rw[h1,Option.bind_some];simp only at h3
   split
   ·exact⟨x,st2,rfl,h2,h3⟩
   ·obtain⟨y,st3,k1,k2,k3⟩:=qp hf l st2 (fun x hx=>hl x (by simp[hx])) h2 (by omega);exact⟨y,st3,k1,k2,an h3 k3⟩
theorem yK {cs:List (ByteArray×List UInt8)} {U:List bY} (hU: ∀c∈pk cs,c∈U): ∀n,Mc U (fB (gq cs) n) n
 | 0=>fun r st hr hi hn=>by have:=mX hi.e1 hi.e2;omega
 | n+1=>fun r st hr hi hn=>by
  have hm:uo U (st.1,cT r st.2):=⟨hi.e1,hi.e2,od hi.l1,fun x hx=>by
   rcases lS.1 hx with hx | rfl
   ·exact hi.l2 x hx
   ·exact hr⟩
  rw[fB]
  split
  ·exact⟨0,_,rfl,hm,ah _⟩
  ·rename_i hne;have he:uo U (st.1++[r],cT r st.2):=⟨dX.2 ⟨hi.e1,by simp,fun a ha b hb e=>by simp only[aL]at hb; subst hb e; exact hne ha⟩,fun x hx=>by
    rcases aP.1 hx with hx | hx
    ·exact hi.e2 x hx
    ·simp only[aL]at hx; subst hx; exact hr,hm.l1,hm.l2⟩
   cases hv:gq cs r with
   | error x=>exact⟨x,_,rfl,he,by simp⟩
   | ok l=>
    obtain⟨x,st',h1,h2,h3⟩:=qp (yK hU n) l (st.1++[r],cT r st.2) (fun it hit c hc=>hU c (xO hv hit c hc)) he (by simp; omega);exact⟨x,st',h1,h2,by simp at h3; omega⟩
def mT (cs:List (ByteArray×List UInt8)):Nat:=(pk cs).length+2
def oV (cs:List (ByteArray×List UInt8)) (r:bY):Except Int (List bY):=(kK (gq cs) (mT cs) r).getD (.error 0)
theorem uZ (cs:List (ByteArray×List UInt8)) (r:bY): ∃x st',fB (gq cs) (mT cs) r ([],[])=some (x,st')/\uo (r::pk cs) st':=by obtain⟨x,st',h1,h2,_⟩:=yK (cs:=cs) (U:=r::pk cs) (fun c hc=>by simp[hc]) (mT cs) r ([],[]) (by simp) ⟨by simp,by simp,by simp,by simp⟩ (by simp[mT]);exact⟨x,st',h1,h2⟩
theorem JN {data:List UInt8} {s s1:RS} {it:ci} (h:nZ data s=some (it,s1)):it.chunks.length<=963:=by
 unfold nZ qY at h
 split at h
 ·simp only[aV,cM]at h;obtain⟨rfl,_⟩:=h;simp only[wP];exact BH _ _ _
 ·split at h
  ·simp only[aV,cM]at h;obtain⟨rfl,_⟩:=h;simp
  ·split at h
   ·simp only[aV,cM]at h;obtain⟨rfl,_⟩:=h;simp
   ·simp at h
theorem Ak {data:List UInt8} {s0:RS} : ∀ {k:Nat} {l:List ci} {s:RS},ku data s0 k=some (l,s)->l.length=k/\ ∀it∈l,it.chunks.length<=963
 | 0,l,s,h=>by simp only[ku,aV,cM]at h;obtain⟨rfl,_⟩:=h;exact⟨rfl,by simp⟩
 | k+1,l,s,h=>by
  rw[oO,dz]at h;obtain⟨⟨l0,s1⟩,h1,h2⟩:=h;rw[ft]at h2;obtain⟨⟨it,s2⟩,h3,h4⟩:=h2;simp only[cM]at h4;obtain⟨rfl,_⟩:=h4;obtain⟨k1,k2⟩:=Ak h1;refine⟨by simp[k1],fun x hx=> ?_⟩
  rcases aP.1 hx with hx | hx
  ·exact k2 x hx
  ·simp only[aL]at hx; subst hx; exact JN h3
theorem Am {data:List UInt8} {l:List ci} (h:js data=some l):l.length<=4096/\ ∀it∈l,it.chunks.length<=963:=by
 unfold js at h
 split at h
 ·simp at h
 ·rw[dz]at h;obtain⟨⟨l0,s1⟩,h1,h2⟩:=h
  split at h2
  ·simp only[aV]at h2;subst h2;obtain⟨k1,k2⟩:=Ak h1;exact⟨by rw[k1]; exact BH _ _ _,k2⟩
  ·simp at h2
theorem mS {α β:Type} (f:α->List β) (m:Nat): ∀(l:List α),(∀x∈l,(f x).length<=m)->(l.flatMap f).length<=l.length*m
 | [],_=>by simp
 | a::l,h=>by have h1:=mS f m l (fun x hx=>h x (by simp[hx]));have h2:=h a (by simp);rw[bC,ai,ay,Nat.succ_mul];omega
theorem zQ {cs:List (ByteArray×List UInt8)} :(pk cs).length<=cs.length*3948544:=mS _ _ cs (fun p _=>by
 cases h:js p.2 with
 | none=>simp
 | some l=>
  obtain⟨h1,h2⟩:=Am h;simp only;have h3:=mS qX 964 l (fun it hit=>by have:=h2 it hit; simp[qX]; omega);exact an h3 (an (dl 964 h1) (by decide)))
theorem DT {cs:List (ByteArray×List UInt8)} {r:bY} {l:List bY} (h:oV cs r= .ok l) (hv:lj r=true):l.Nodup:=by
 obtain⟨x,st',h1,h2⟩:=uZ cs r;unfold oV kK at h;rw[if_pos hv,h1]at h;simp only[dE,Option.getD_some]at h
 split at h
 ·simp only[dj]at h; subst h; exact h2.l1
 ·simp at h
theorem Nh {cs:List (ByteArray×List UInt8)} {r:bY} {l:List bY} (h:oV cs r= .ok l):l.Nodup:=by
 cases hv:lj r
 ·unfold oV kK at h;rw[if_neg (by rw[hv]; simp)]at h;simp at h
 ·exact DT h hv
theorem xQ {cs:List (ByteArray×List UInt8)} {r:bY} {l:List ci} (h:gq cs r= .ok l):l.length<=4096/\jL l=true/\ ∀it∈l,it.chunks.length<=963:=by
 obtain⟨k,bs,_,h2⟩:=AB h;have h3:=Am h2;refine⟨h3.1, ?_,h3.2⟩;unfold js at h2
 split at h2
 ·simp at h2
 ·rw[dz]at h2;obtain⟨⟨l0,s1⟩,_,h4⟩:=h2
  split at h4
  ·rename_i h5;simp only[aV]at h4;subst h4;exact h5.2
  ·simp at h4
section
variable {visit : bY → Except Int (List ci)}
def py (visit:bY->Except Int (List ci)) (st:List bY×List bY) (r:bY):Prop:= ∃l,visit r= .ok l/\ ∀it∈l,(∀c∈it.chunks,c∈st.2)/\(it.kind=2->it.node∈st.1/\it.node∈st.2)
structure sJ (st st' : List bY × List bY) : Prop where
 ex: ∀q∈st.1,q∈st'.1
 li: ∃t,st'.2=st.2++t
theorem sJ.refl (st:List bY×List bY):sJ st st:=⟨fun _ h=>h,[],by simp⟩
theorem sJ.trans {a b c:List bY×List bY} (h:sJ a b) (h2:sJ b c):sJ a c:=⟨fun q hq=>h2.ex q (h.ex q hq),by obtain⟨t,ht⟩:=h.li;obtain⟨s,hs⟩:=h2.li;exact⟨t++s,by rw[hs,ht,bg]⟩⟩
theorem sJ.mem {a b:List bY×List bY} (h:sJ a b) {q:bY} (hq:q∈a.2):q∈b.2:=by obtain⟨t,ht⟩:=h.li;rw[ht]; exact gd _ hq
theorem py.mono {a b:List bY×List bY} (h:sJ a b) {r:bY} (hd:py visit a r):py visit b r:=by obtain⟨l,h1,h2⟩:=hd;exact⟨l,h1,fun it ha=>⟨fun c hc=>h.mem ((h2 it ha).1 c hc),fun hk=>⟨h.ex _ ((h2 it ha).2 hk).1,h.mem ((h2 it ha).2 hk).2⟩⟩⟩
theorem oU (r:bY) (rs:List bY): ∃t,cT r rs=rs++t:=by
 unfold cT
 split
 ·exact⟨[],by simp⟩
 ·exact⟨[r],rfl⟩
theorem sW : ∀(cs rs:List bY),∃t,fD cs rs=rs++t
 | [],rs=>⟨[],by simp[fD]⟩
 | c::cs,rs=>by
  obtain⟨t,ht⟩:=oU c rs;obtain⟨s,hs⟩:=sW cs (cT c rs);exact⟨t++s,by
   show fD cs (cT c rs)=_
   rw[hs,ht,bg]⟩
def Me (visit:bY->Except Int (List ci)) (f:bY->List bY×List bY->Option (Int×(List bY×List bY))):Prop:= ∀(S:List bY) (r:bY) (st st':List bY×List bY),f r st=some (0,st')->(∀q∈st.1,q∈S\/py visit st q)->
 sJ st st'/\r∈st'.1/\r∈st'.2/\ ∀q∈st'.1,q∈S\/py visit st' q
theorem Ca {f:bY->List bY×List bY->Option (Int×(List bY×List bY))} (hf:Me visit f) (S:List bY): ∀(l:List ci) (st st':List bY×List bY),jp f l st=some (0,st')->(∀q∈st.1,q∈S\/py visit st q)->
  sJ st st'/\(∀it∈l,(∀c∈it.chunks,c∈st'.2)/\(it.kind=2->it.node∈st'.1/\it.node∈st'.2))/\ ∀q∈st'.1,q∈S\/py visit st' q
 | [],st,st',h,hi=>by rw[jp,aV,cM]at h;obtain⟨-,rfl⟩:=h;exact⟨sJ.refl _,(fun it hit=>by cases hit),hi⟩
 | it::l,st,st',h,hi=>by
  have hsub:sJ st (st.1,fD it.chunks st.2):=⟨fun _ hq=>hq,sW _ _⟩;have hi2: ∀q∈(st.1,fD it.chunks st.2).1,q∈S\/py visit (st.1,fD it.chunks st.2) q:=fun q hq=>(hi q hq).imp id (py.mono hsub)
  have hch: ∀c∈it.chunks,c∈(st.1,fD it.chunks st.2).2:=fun c hc=>(qk _).2 (.inr hc)
  rw[jp]at h
  by_cases hk:it.kind≠2
  ·rw[if_pos hk]at h;obtain⟨h1,h2,h3⟩:=Ca hf S l _ _ h hi2;refine⟨hsub.trans h1,fun x hx=> ?_,h3⟩
   rcases aU.1 hx with rfl | hx
   ·exact⟨fun c hc=>h1.mem (hch c hc),fun h=>absurd h hk⟩
   ·exact h2 x hx
  ·rw[if_neg hk,dz]at h;obtain⟨p,hp,h⟩:=h
   by_cases h0:p.1=0
   ·rw[if_neg (by simpa using h0)]at h;obtain⟨p1,p2⟩:=p;simp only at h0;subst h0;obtain⟨k1,k2,k3,k4⟩:=hf S it.node _ p2 hp hi2;obtain⟨h1,h2,h3⟩:=Ca hf S l _ _ h k4;refine⟨(hsub.trans k1).trans h1,fun x hx=> ?_,h3⟩
    rcases aU.1 hx with rfl | hx
    ·exact⟨fun c hc=>h1.mem (k1.mem (hch c hc)),fun _=>⟨h1.ex _ k2,h1.mem k3⟩⟩
    ·exact h2 x hx
   ·rw[if_pos (by simpa using h0),aV]at h;rw[h]at h0;exact absurd rfl h0
theorem Jr (h0: ∀r,visit r≠ .error 0): ∀n,Me visit (fB visit n)
 | 0=>fun S r st st' h _=>by simp[fB]at h
 | n+1=>fun S r st st' h hi=>by
  have hsub:sJ st (st.1,cT r st.2):=⟨fun _ hq=>hq,oU _ _⟩;have hrm:r∈cT r st.2:=lS.2 (.inr rfl);rw[fB]at h
  by_cases hr:r∈st.1
  ·rw[if_pos hr,aV,cM]at h;obtain⟨-,rfl⟩:=h;exact⟨hsub,hr,hrm,fun q hq=>(hi q hq).imp id (py.mono hsub)⟩
  ·rw[if_neg hr]at h
   cases hv:visit r with
   | error x=>
    rw[hv]at h;simp only[aV,cM]at h;rw[h.1]at hv;exact absurd hv (h0 r)
   | ok l=>
    rw[hv]at h;simp only at h;have hsub2:sJ st (st.1++[r],cT r st.2):=⟨fun q hq=>gd _ hq,oU _ _⟩;obtain⟨h1,h2,h3⟩:=Ca (Jr h0 n) (r::S) l _ _ h (fun q hq=>by
     rcases aP.1 hq with hq | hq
     ·exact(hi q hq).imp (fun h=>eG _ h) (py.mono hsub2)
     ·exact .inl (by rw[aL.1 hq]; exact List.mem_cons_self))
    refine⟨hsub2.trans h1,h1.ex r (jV _ (aL.2 rfl)),h1.mem hrm,fun q hq=> ?_⟩
    rcases h3 q hq with h4 | h4
    ·rcases aU.1 h4 with rfl | h4
     ·exact .inr ⟨l,hv,h2⟩
     ·exact .inl h4
    ·exact .inr h4
theorem LE {n:Nat} {r:bY} {x:Int} {st':List bY×List bY} (h:fB visit (n+2) r ([],[])=some (x,st')): ∃t,st'.2=r::t:=by
 rw[fB,if_neg (by simp)]at h;have hm:cT r []=[r]:=by unfold cT; rw[if_neg (by simp)]; rfl
 have ha: ∀(f:bY->List bY×List bY->Option (Int×(List bY×List bY))),(∀r st p,f r st=some p-> ∃t,p.2.2=st.2++t)-> ∀(l:List ci) (st:List bY×List bY) (p:Int×(List bY×List bY)),jp f l st=some p-> ∃t,p.2.2=st.2++t:=by
  intro f hf l
  induction l with
  | nil=>
   intro st p h;rw[jp,aV]at h;subst h;exact⟨[],by simp⟩
  | cons it l ih=>
   intro st p h;obtain⟨t,ht⟩:=sW it.chunks st.2;rw[jp]at h
   split at h
   ·obtain⟨s,hs⟩:=ih _ _ h;exact⟨t++s,by rw[hs,ht,bg]⟩
   ·rw[dz]at h;obtain⟨y,hy,h⟩:=h;obtain⟨u,hu⟩:=hf _ _ _ hy
    split at h
    ·simp only[aV]at h;subst h;exact⟨t++u,by rw[hu,ht,bg]⟩
    ·obtain⟨s,hs⟩:=ih _ _ h;exact⟨t++(u++s),by rw[hs,hu,ht]; simp⟩
 have hb: ∀n r st p,fB visit n r st=some p-> ∃t,p.2.2=st.2++t:=by
  intro n
  induction n with
  | zero=>intro r st p h; simp[fB]at h
  | succ n ih=>
   intro r st p h;obtain⟨t,ht⟩:=oU r st.2;rw[fB]at h
   split at h
   ·simp only[aV]at h;subst h;exact⟨t,ht⟩
   ·split at h
    ·simp only[aV]at h;subst h;exact⟨t,ht⟩
    ·obtain⟨s,hs⟩:=ha _ ih _ _ _ h;exact⟨t++s,by rw[hs,ht,bg]⟩
 split at h
 ·simp only[aV,cM]at h;obtain⟨-,rfl⟩:=h;exact⟨[],hm⟩
 ·obtain⟨s,hs⟩:=ha _ (hb _) _ _ _ h;simp only at hs;rw[hm]at hs;exact⟨s,hs⟩
structure Qd (visit : bY → Except Int (List ci)) (G U : bY → Prop) : Prop where
 there: ∀r,G r-> ∃l,visit r= .ok l/\ ∀it∈l,(it.kind=2->G it.node)/\ ∀c∈it.chunks,U c
 self: ∀r,G r->U r
def Md (G U:bY->Prop) (f:bY->List bY×List bY->Option (Int×(List bY×List bY))):Prop:= ∀(r:bY) (st st':List bY×List bY) (x:Int),G r->(∀q∈st.2,U q)->f r st=some (x,st')->x=0/\ ∀q∈st'.2,U q
theorem BZ {G U:bY->Prop} {f:bY->List bY×List bY->Option (Int×(List bY×List bY))} (hf:Md G U f): ∀(l:List ci) (st st':List bY×List bY) (x:Int),(∀it∈l,(it.kind=2->G it.node)/\ ∀c∈it.chunks,U c)->(∀q∈st.2,U q)->jp f l st=some (x,st')->x=0/\ ∀q∈st'.2,U q
 | [],st,st',x,_,hi,h=>by rw[jp,aV,cM]at h;obtain⟨rfl,rfl⟩:=h;exact⟨rfl,hi⟩
 | it::l,st,st',x,hl,hi,h=>by
  have h1:=hl it (by simp);have hi2: ∀q∈fD it.chunks st.2,U q:=fun q hq=>by
   rcases(qk _).1 hq with hq | hq
   ·exact hi q hq
   ·exact h1.2 q hq
  rw[jp]at h
  by_cases hk:it.kind≠2
  ·rw[if_pos hk]at h;exact BZ hf l _ _ _ (fun y hy=>hl y (by simp[hy])) hi2 h
  ·rw[if_neg hk,dz]at h;obtain⟨p,hp,h⟩:=h;obtain⟨p1,p2⟩:=p;obtain⟨h2,h3⟩:=hf it.node _ p2 p1 (h1.1 (by simpa using hk)) hi2 hp;subst h2;rw[if_neg (by simp)]at h;exact BZ hf l _ _ _ (fun y hy=>hl y (by simp[hy])) h3 h
theorem Jq {G U:bY->Prop} (hG:Qd visit G U): ∀n,Md G U (fB visit n)
 | 0=>fun r st st' x _ _ h=>by simp[fB]at h
 | n+1=>fun r st st' x hr hi h=>by
  have hi2: ∀q∈cT r st.2,U q:=fun q hq=>by
   rcases lS.1 hq with hq | rfl
   ·exact hi q hq
   ·exact hG.self _ hr
  rw[fB]at h
  split at h
  ·rw[aV,cM]at h;obtain⟨rfl,rfl⟩:=h;exact⟨rfl,hi2⟩
  ·obtain⟨l,hv,hl⟩:=hG.there r hr;rw[hv]at h;exact BZ (Jq hG n) l _ _ _ hl hi2 h
end
section
variable {k : dq} {gs : List (ByteArray × Int)} {c : fQ} {tree : List dk} {M : List (ByteArray × List UInt8)}
theorem KC (M:List (ByteArray×List UInt8)) (r:bY):gq M r≠ .error 0:=by
 intro h;unfold gq at h
 cases hc:jr M r with
 | error x=>
  rw[hc]at h;simp only[ff]at h;subst h;unfold jr at hc
  split at hc
  ·simp at hc
  ·split at hc<;> simp at hc
 | ok b=>
  rw[hc]at h;simp only at h
  split at h<;> simp at h
def QS (k:dq) (gs:List (ByteArray×Int)) (c:fQ) (tree:List dk) (M:List (ByteArray×List UInt8)) (r:bY):Prop:= ∃f d,(bl d).length<=512/\512<f+1+(bl d).length/\nA k gs c tree (f+1) d=false/\qC k gs M (dS k gs c tree (f+1) d).2/\(∀x∈(dS k gs c tree (f+1) d).2,x∈(dS k gs c tree 514 ⟨#[]⟩).2)/\r=bF k gs (dS k gs c tree (f+1) d).1
def Ro (k:dq) (gs:List (ByteArray×Int)) (c:fQ) (tree:List dk) (r:bY):Prop:= ∃x∈(dS k gs c tree 514 ⟨#[]⟩).2,r=bF k gs x
theorem FD {f:Nat} {d:ByteArray} {e:dk} (he:e∈dB tree d) {x:List UInt8} (hx:x∈iG k gs c tree f e):x∈(dS k gs c tree (f+1) d).2:=by rw[fi];exact gd _ (dt.2 ⟨e,he,hx⟩)
theorem uF {f:Nat} {d:ByteArray} {e:dk} (he:e∈dB tree d) (hk:e.kind=2) {x:List UInt8} (hx:x∈(dS k gs c tree f e.path).2):x∈(dS k gs c tree (f+1) d).2:=by refine FD he ?_;unfold iG;rw[if_neg (by omega),if_pos hk];exact hx
theorem Dw {d:ByteArray} {e:dk} {r:bY} (hk:e.kind=2):(dg k gs c d e r).node=r:=by
 show(if e.kind=2 then _ else eL)=_
 rw[if_pos hk]
theorem Aj {d:ByteArray} {e:dk} {r:bY} (hk:e.kind=1):(dg k gs c d e r).chunks=(gK c e.data).map (bF k gs):=by
 show(if e.kind=1 then _ else [])=_
 rw[if_pos hk]
theorem Ka (h:sj k gs c tree):Qd (gq M) (QS k gs c tree M) (Ro k gs c tree) where
 there:=by
  rintro r ⟨f,d,h1,h2,hb,hM,ha,rfl⟩;refine⟨_,xP h h2 hb hM,fun it hf=> ?_⟩;obtain⟨e,he,rfl⟩:=aQ.1 hf;obtain⟨h3,h4,h5⟩:=tO h h2 he
  constructor
  ·intro hk;have hc:e.kind=2:=hk;obtain⟨g,rfl⟩: ∃g,f=g+1:=⟨f-1,by omega⟩;exact⟨g,e.path,h3,h4,(oG hb).1 e he hc,fun x hx=>hM x (uF he hc hx),fun x hx=>ha x (uF he hc hx),Dw hc⟩
  ·intro r hr
   by_cases hk:e.kind=1
   ·rw[Aj hk]at hr;obtain⟨x,hx,rfl⟩:=aQ.1 hr;exact⟨x,ha x (FD he (by unfold iG; rw[if_pos hk]; exact hx)),rfl⟩
   ·have hd:r∈(if e.kind=1 then(gK c e.data).map (bF k gs)else []):=hr;rw[if_neg hk]at hd
    cases hd
 self:=by rintro r ⟨f,d,h1,h2,hb,hM,ha,rfl⟩;exact⟨_,ha _ (IU f d),rfl⟩
theorem Da (h:sj k gs c tree) {st:List bY×List bY} (hd: ∀q∈st.1,py (gq M) st q): ∀(f:Nat) (d:ByteArray),512<f+1+(bl d).length->nA k gs c tree (f+1) d=false->qC k gs M (dS k gs c tree (f+1) d).2->
  bF k gs (dS k gs c tree (f+1) d).1∈st.1->bF k gs (dS k gs c tree (f+1) d).1∈st.2-> ∀x∈(dS k gs c tree (f+1) d).2,bF k gs x∈st.2
 | f,d,h2,hb,hM,hr,hr2,x,hx=>by
  obtain⟨l,hv,hall⟩:=hd _ hr;rw[xP h h2 hb hM,dj]at hv;subst hv;have hx2:=hx;rw[fi]at hx2
  rcases aP.1 hx2 with hx3 | hx3
  ·obtain⟨e,he,hxe⟩:=dt.1 hx3;have hit:=hall (dg k gs c d e (bF k gs (dS k gs c tree f e.path).1)) (aQ.2 ⟨e,he,rfl⟩);unfold iG at hxe
   by_cases hk1:e.kind=1
   ·rw[if_pos hk1]at hxe;refine hit.1 _ ?_;rw[Aj hk1];exact aQ.2 ⟨x,hxe,rfl⟩
   ·rw[if_neg hk1]at hxe
    by_cases hk2:e.kind=2
    ·rw[if_pos hk2]at hxe;obtain⟨h3,h4,h5⟩:=tO h h2 he
     match f,h5 with
     | g+1,_=>
      have h6:=hit.2 hk2;rw[Dw hk2]at h6;exact Da h hd g e.path h4 ((oG hb).1 e he hk2) (fun y hy=>hM y (uF he hk2 hy)) h6.1 h6.2 x hxe
    ·rw[if_neg hk2]at hxe; cases hxe
  ·rw[aL.1 hx3];rw[fi]at hr2;exact hr2
 termination_by f=>f
structure LR (k : dq) (gs : List (ByteArray × Int)) (c : fQ) (tree : List dk) (rs : List bY) : Prop where
 nodup:rs.Nodup
 head: ∃t,rs=bF k gs (dS k gs c tree 514 ⟨#[]⟩).1::t
 all: ∀r,r∈rs<-> ∃x∈(dS k gs c tree 514 ⟨#[]⟩).2,r=bF k gs x
theorem DU (h:sj k gs c tree) (hb:nA k gs c tree 514 ⟨#[]⟩=false) (hM:qC k gs M (dS k gs c tree 514 ⟨#[]⟩).2): ∃rs,oV M (bF k gs (dS k gs c tree 514 ⟨#[]⟩).1)= .ok rs/\LR k gs c tree rs:=by
 have h0:(bl (⟨#[]⟩:ByteArray)).length=0:=rfl;have hc:QS k gs c tree M (bF k gs (dS k gs c tree 514 ⟨#[]⟩).1):=⟨513,⟨#[]⟩,by omega,by omega,hb,hM,fun _ hx=>hx,rfl⟩;obtain⟨x,st',h1,h2⟩:=uZ M (bF k gs (dS k gs c tree 514 ⟨#[]⟩).1);obtain⟨h3,h4⟩:=Jq (Ka (M:=M) h) _ _ _ _ _ hc (fun q hq=>by cases hq) h1;subst h3;obtain⟨h5,h6,h7,h8⟩:=Jr (KC M) _ [] _ _ _ h1 (fun q hq=>by cases hq)
 have hd: ∀q∈st'.1,py (gq M) st' q:=fun q hq=>(h8 q hq).resolve_left (by simp)
 have ha:oV M (bF k gs (dS k gs c tree 514 ⟨#[]⟩).1)= .ok st'.2:=by
  unfold oV kK;rw[if_pos (om h.gens (oG hb).2),h1]
  rfl
 refine⟨_,ha,h2.l1, ?_,fun r=>⟨h4 r,fun⟨y,hy,e⟩=> ?_⟩⟩
 ·obtain⟨t,ht⟩:=LE (by unfold mT at h1; exact h1);exact⟨t,ht⟩
 ·rw[e];exact Da h hd 513 ⟨#[]⟩ (by omega) hb hM h6 h7 y hy
end
open Go Go.RowKit Go.Maps
theorem fI.hitM {S:Nat->Prop} {w:World} {cv:Value} {cs:List (ByteArray×List UInt8)} (h:fI S w cv cs) {n:ByteArray} {bs:List UInt8} (hn:n.size<=maxLen) (hf:dU cs n=some bs):
  ∃v,(Instr.lookup 55 cv (.string n) true).run Tryz.prog w= .ok (.tuple #[v, .bool true]) w/\bB S w v bs:=by
 rcases h with⟨_,rfl⟩ | ⟨b,m,rfl,_,h2,h3⟩
 ·simp[dU]at hf
 ·obtain⟨v,hv,hb⟩:=h3.hit hf;exact⟨v,h2.hit re (t:=55) (e:=29) (by kernel_rfl) (qZ hn) hv true,hb⟩
theorem fI.missM {S:Nat->Prop} {w:World} {cv:Value} {cs:List (ByteArray×List UInt8)} (h:fI S w cv cs) {n:ByteArray} (hn:n.size<=maxLen) (hf:dU cs n=none):
  (Instr.lookup 55 cv (.string n) true).run Tryz.prog w= .ok (.tuple #[.slice none 0 0, .bool false]) w:=by
 obtain⟨l,hl⟩:=qZ hn
 rcases h with⟨rfl,_⟩ | ⟨b,m,rfl,_,h2,h3⟩
 ·exact Maps.look_nil true re (t:=55) (e:=29) (by kernel_rfl) (by kernel_rfl) hl
 ·exact h2.miss re (t:=55) (e:=29) (by kernel_rfl) (by kernel_rfl) (qZ hn) (h3.miss hf) true
def lK (cs:List (ByteArray×List UInt8)) (r:bY):Except Int (List ci):=match gq cs r with
 | .error x=>if x=10 then .ok []else .error x
 | .ok l=> .ok l
def OT (cs:List (ByteArray×List UInt8)) (r:bY) (w:World) (e:Ending) (w':World):Prop:=Below w.heap.size w w'/\match lK cs r with
 | .error x=>e= .returned (.tuple #[.slice none 0 0, .int .i64 x])/\x≠0
 | .ok l=> ∃v,e= .returned (.tuple #[v, .int .i64 0])/\eO (w.heap.size<= ·) w' v l
theorem Ef (S:Nat->Prop) (cv:Value) (cs:List (ByteArray×List UInt8)) (r:bY) (w:World) (hc:fI S w cv cs) (hr:dZ r) (henv:nJ w):Calls Tryz.prog 95 #[cv,eC r] w (OT cs r w):=by
 have HB:=ag ((ak w.heap.size w).alloc (ah _) (.cells #[.string r.name, .int .i64 r.gen, .int .i64 r.size] 26));have HC:=ag (hc.below HB.o);have HR:=ag hr;have HE:=ag (henv.below HB.o);unfold eC;clear hc hr henv
 go_enter Tryz.func95,Tryz.ntmps95
 go_wp2_with fail;refine(tW S cv cs r _ HC.o HR.o HE.o).mono ?_;rintro e w1 ⟨hf,ha⟩;have he:=ag (aj HB.o hf);have hz:=hf.size;simp at hz;clear hf
 cases hb:gq cs r with
 | error x=>
  rw[hb]at ha;obtain⟨rfl,hx⟩:=ha
  by_cases hd:x=10
  ·subst hd;have HN:=ag (show lK cs r= .ok [] by unfold lK; rw[hb]; rfl);clear hb hx;go_wp2_with fail
   go_ret2
   exact⟨he.o,by rw[HN.o]; exact⟨_,rfl,cU.nil⟩⟩
  ·have HN:=ag (show lK cs r= .error x by unfold lK; rw[hb]; simp only[if_neg hd]);have e1:(x == 10)=false:=by simp[hd]
   have HX:=ag hx;clear hb hx hd;go_wp2_with fail
   go_ret2
   exact⟨he.o,by rw[HN.o]; exact⟨rfl,HX.o⟩⟩
 | ok l=>
  rw[hb]at ha;obtain⟨v,rfl,hv⟩:=ha;have HN:=ag (show lK cs r= .ok l by unfold lK; rw[hb]);have HV:=ag hv;have hh:=ag (show eO (w.heap.size<= ·) w1 v l from by
   obtain⟨cells,h1,h2⟩:=hv;have hg:w.heap.size<=(w.alloc (.cells #[.string r.name, .int .i64 r.gen, .int .i64 r.size] 26)).heap.size:=by simp
   exact⟨cells,h1.weak (fun k hk=>an hg hk),h2.mono (fun c x _ hx=>hx.same (fun k _ hS=>⟨an hg hS,rfl⟩))⟩)
  obtain⟨a,cap,rfl,-,-,-⟩:=cU.shape hv lm.len;clear hb hv;go_wp2_with fail
  go_ret2
  exact⟨he.o,by rw[HN.o]; exact⟨_,rfl,hh.o⟩⟩
end
section
open Go.RowKit
theorem PL (l:List UInt8):(Ce l).length<=4*l.length:=by
 have h1:=zn l;have: ∀rs:List Int,(rs.flatMap Lib.encodeRune).length<=4*rs.length:=by
  intro rs
  induction rs with
  | nil=>simp
  | cons r rs ih=>rw[bC,ai,ay]; have:=xg r; omega
 have h2:=this (uR l);unfold Ce; omega
theorem CW (s:ByteArray) (pos:Nat):Lib.decodeL ((bl s).drop pos)=Utf8.decode s pos:=Lib.decodeL_drop s pos
theorem Pp {s:ByteArray} {pos:Nat} (h:pos<s.size):(bl s).drop pos≠[]:=by intro e; have:=List.drop_eq_nil_iff.1 e; rw[<-bi]at this; omega
theorem LA {s o:ByteArray} {pos:Nat} (hp:pos<s.size) (h:bl o++Ce ((bl s).drop pos)=Ce (bl s)):
  bl (o++Utf8.encode ((Utf8.decode s pos).1:Int))++Ce ((bl s).drop (pos+(Utf8.decode s pos).2))=Ce (bl s):=by
 rw[rH,<-h,Es _ (Pp hp),CW,fY,<-Fu,Pl,bg]
theorem Gj (s:ByteArray) (w:World) (hs:s.size<=16777216):
  Calls Tryz.prog 164 #[.string s] w fun e w'=>e= .returned (.bool (Lib.validD (bl s)))/\Below w.heap.size w w':=by
 go_enter Tryz.func164,Tryz.ntmps164
 go_wp2
 go_loopw [3] (fun v wr=> ∃(pos:Nat) (o:ByteArray),v= .string o/\wr=w.iter s pos/\o.size<=67108864/\bl o++Ce ((bl s).drop pos)=Ce (bl s)) (fun _ wr=>s.size-wr.iterPos w.heap.size)
 ·exact⟨0,⟨#[]⟩,rfl,rfl,by simp[ByteArray.size],by simp[bl]⟩
 ·obtain⟨pos,o,rfl,rfl,ho,ha⟩:=hrel;have HR:=ag ha;clear ha
  by_cases hp:pos<s.size
  ·have hb: ∀ty,(Instr.next (.pointer (some ⟨w.heap.size,0,none⟩)) true ty).run Tryz.prog (w.iter s pos)=_:=fun ty=>run_next_any w s pos ty hp
   obtain⟨r,hr⟩:=bH ((Utf8.decode s pos).1);obtain⟨E,hE⟩:=bH (Utf8.encode (r:Int));have he: ∀w',(convert 21 9 (.int .i32 (r:Int))).run Tryz.prog w'= .ok (.string E) w':=fun w'=>by rw[hE]; exact run_convert_int_string w' _ _ .i32 _ (by rw[Tryz.underlying21]; rfl) eo
   have hd:E.size<=4:=by rw[hE]; exact encode_size_le _
   simp only[<-hr]at hb;have HE:=ag hE;have hc:=ag hr;clear hE hr
   go_wp2
   go_roundw
   case rel=>
    have hn:bl (o++E)++Ce ((bl s).drop (pos+(Utf8.decode s pos).2))=Ce (bl s):=by rw[HE.o,hc.o]; exact LA hp HR.o
    refine⟨pos+(Utf8.decode s pos).2,o++E,rfl,rfl, ?_,hn⟩;have h1:=congrArg List.length hn;have h2:=PL (bl s);rw[ai,<-bi]at h1;rw[<-bi]at h2;omega
   case measure=>
    rw[World.iterPos_iter,World.iterPos_iter];have:=Lib.width_pos s pos;omega
  ·have hb: ∀ty,(Instr.next (.pointer (some ⟨w.heap.size,0,none⟩)) true ty).run Tryz.prog (w.iter s pos)=_:=fun ty=>run_next_end w s pos ty hp
   go_wp2
   go_ret;refine⟨cj ?_,eT⟩;have h1:bl o=Ce (bl s):=by rw[<-HR.o,ee (by rw[<-bi]; omega),Cf,cg]
   rw[fF,fF,h1];exact KR (bl s)
theorem DL {s:ByteArray} {j:Nat} (hj:j<s.size) (h:(s[j].toNat:Int)<32):rO (bl s)=false:=by refine DN hj ?_;rw[sR s j hj,<-kQ s j hj]; omega
theorem Em (s:ByteArray) (w:World) (hs:s.size<=16777216):
  Calls Tryz.prog 138 #[.string s] w fun e w'=>e= .returned (.bool (yB (bl s)))/\Below w.heap.size w w':=by
 go_enter Tryz.func138,Tryz.ntmps138
 go_wp2
 go_loop [3] (fun i=> ∃k:Nat,k<=s.size/\i= .int .i64 k/\ ∀j,j<k->j<s.size->32<=(s.get! j).toNat) (fun i=>s.size-(intOf i).toNat)
 ·exact⟨0,aR _,rfl,fun j hj=>by omega⟩
 ·obtain⟨k,hk,rfl,ha⟩:=hrel;have HL:=ag ha;clear ha
  by_cases hp:k<s.size
  ·go_wp2
   ·have hd:(s[k].toNat:Int)<32:=by assumption
    go_ret;exact⟨cj (by simp[yB,DL hp hd]),ak _ _⟩
   ·have he:(32:Int)<=(s[k].toNat:Int):=by assumption
    go_round
    ·refine⟨k+1,by omega,by go_num,fun j hj hc=> ?_⟩
     rcases dN j k with h | h
     ·exact HL.o j h hc
     ·obtain rfl:j=k:=by omega
      rw[sR s j hp,<-kQ s j hp]; omega
    simp[intOf]<;> omega
  ·go_wp2_with (go_at_call 164; refine(Gj s _ hs).mono ?_; rintro e w' ⟨rfl,hb⟩);go_ret;refine⟨cj ?_,hb⟩;simp only[yB,II (fun j hj=>HL.o j (by omega) hj),ie]
def LO (c:UInt8) (s:ByteArray) (w:World) (e:Ending) (w':World):Prop:=
 ∃v xs,e= .returned v/\xs.map bl=dd c (bl s)/\lP (w.heap.size<= ·) w' v xs/\Below w.heap.size w w'
theorem CZ {s:ByteArray} {c:UInt8} {ys:List ByteArray} {f k:Nat} (hk:k<s.size) (hf:f<=k) (h:dd c (bl s)=ys.map bl++dd c ((bl s).drop f)) (hn: ∀j,f<=j->j<k->(s.get! j)≠c) (hc:s[k]=c):
  dd c (bl s)=(ys++[s.extract f k]).map bl++dd c ((bl s).drop (k+1)):=by
 have ha:k<(bl s).length:=by rw[<-bi]; exact hk
 have e:(bl s).drop f=bl (s.extract f k)++c::(bl s).drop (k+1):=by rw[pY,<-hc,kQ s k hk,List.getElem_cons_drop,List.drop_take];have h2:=dA (k-f) ((bl s).drop f);rw[fY,show f+(k-f)=k by omega]at h2;exact h2.symm
 have hm:c∉bl (s.extract f k):=by intro hm;obtain⟨j,hj,ej⟩:=eq hm;simp only[pY]at hj ej;rw[bz,aW]at hj;rw[List.getElem_drop,List.getElem_take]at ej;exact hn (f+j) (by omega) (by omega) (by rw[sR s _ (by omega)]; exact ej)
 rw[h,e,lx _ _ _ hm]; simp
theorem CY {s:ByteArray} {c:UInt8} {ys:List ByteArray} {f:Nat} (hf:f<=s.size) (h:dd c (bl s)=ys.map bl++dd c ((bl s).drop f)) (hn: ∀j,f<=j->j<s.size->(s.get! j)≠c):
  dd c (bl s)=(ys++[s.extract f s.size]).map bl:=by
 have e:(bl s).drop f=bl (s.extract f s.size):=by rw[pY,bi,dw]
 have hm:c∉(bl s).drop f:=by intro hm;obtain⟨j,hj,ej⟩:=eq hm;rw[bz,<-bi]at hj;rw[List.getElem_drop]at ej;exact hn (f+j) (by omega) (by omega) (by rw[sR s _ (by omega)]; exact ej)
 rw[h,fW _ _ hm,e]; simp
theorem nG (s:ByteArray) (w:World) (hs:s.size<=16777216):Calls Tryz.prog 87 #[.string s] w (LO 47 s w):=by
 go_enter Tryz.func87,Tryz.ntmps87
 go_wp2_with fail
 go_loopw [3,4,5] (fun v fr i wr=> ∃(k f:Nat) (ys:List ByteArray),k<=s.size+1/\f<=k/\ys.length<=k/\i= .int .i64 k/\fr= .int .i64 f/\wr.ownsRow w.heap.size 9 1 v ys.length (ys.map Value.string)/\Below w.heap.size w wr/\
   (k<=s.size->dd 47 (bl s)=ys.map bl++dd 47 ((bl s).drop f)/\ ∀j,f<=j->j<k->(s.get! j)≠47)/\(k=s.size+1->dd 47 (bl s)=ys.map bl)) (fun _ _ i _=>s.size+1-(intOf i).toNat)
 ·exact⟨0,0,[],aR _,ah _,ah _,rfl,rfl,bN _ _ _ _,ak _ _,fun _=>⟨by simp,fun j _ hj=>by omega⟩,fun h=>by omega⟩
 ·obtain⟨k,f,ys,hk,hf,hy,rfl,rfl,hh,hb,hu,hv⟩:=hrel;have HO:=ag hh;have HB:=ag hb;have he:=ag hu;have hw:=ag hv;have hl:w.heap.size<=wr.heap.size:=hb.size;clear hh hb hu hv
  by_cases hg:k<=s.size
  ·by_cases hr:k<s.size
   ·have e1:((k:Int) == (s.size:Int))=false:=by rw[ir]; omega
    by_cases hc:s[k]=47
    ·have e2:((s[k].toNat:Int) == (47:UInt8).toNat)=true:=by rw[hc]; rfl
     have e2':((s[k].toNat:Int) == 47)=true:=e2;have ho:=ag hc;clear hc e2;go_wp2_with (at_builtin; go_must (refine iX Tryz.appStrings rfl _ _ rfl w.heap.size u3 ys.length (ys.map Value.string) rfl wr [.string (s.extract f k)] _ rfl rfl (by simp; rfl) HO.o (by omega) hl ?_); intro v' w1 hd ha _);have hq:=ag hd;have hp:=ag ha;clear hd ha;go_wp2_with fail
     go_roundw
     ·refine⟨k+1,k+1,ys++[s.extract f k],by omega,ah _,by simp; omega,by go_num,by go_num, ?_,bZ HB.o HO.o hp.o (ah _) hl,fun _=>⟨CZ hr hf (he.o hg).1 (he.o hg).2 ho.o,fun j h1 h2=>by omega⟩,fun h=>by omega⟩;have:=hq.o; simpa using this
     simp[intOf]<;> omega
    ·have e2':((s[k].toNat:Int) == 47)=false:=by
      rw[ir]; intro e; apply hc; apply gw.1; have:s[k].toNat=47:=by omega
      rw[this]; rfl
     have ho:=ag hc;clear hc;go_wp2_with fail
     go_roundw
     ·refine⟨k+1,f,ys,by omega,by omega,by omega,by go_num,rfl,HO.o,HB.o,fun _=>⟨(he.o hg).1,fun j h1 h2=> ?_⟩,fun h=>by omega⟩
      rcases dN j k with h | h
      ·exact(he.o hg).2 j h1 h
      ·obtain rfl:j=k:=by omega
       rw[sR s j hr,<-kQ s j hr]; exact ho.o
     simp[intOf]<;> omega
   ·obtain rfl:k=s.size:=by omega
    have e1:((s.size:Int) == (s.size:Int))=true:=by simp
    go_wp2_with (at_builtin; go_must (refine iX Tryz.appStrings rfl _ _ rfl w.heap.size u3 ys.length (ys.map Value.string) rfl wr [.string (s.extract f s.size)] _ rfl rfl (by simp; rfl) HO.o (by omega) hl ?_); intro v' w1 hd ha _);have hq:=ag hd;have hp:=ag ha;clear hd ha;go_wp2_with fail
    go_roundw
    ·refine⟨s.size+1,s.size+1,ys++[s.extract f s.size],by omega,ah _,by simp; omega,by go_num,by go_num, ?_,bZ HB.o HO.o hp.o (ah _) hl,fun h=>by omega,fun _=>CY hf (he.o hg).1 (he.o hg).2⟩;have:=hq.o; simpa using this
    simp[intOf]<;> omega
  ·obtain⟨a,cap,rfl,hn,hm⟩:=aH HO.o;go_wp2_with fail;go_ret;exact⟨_,ys,rfl,(hw.o (by omega)).symm,(cK HO.o).weak (fun k hk=>hk.1),HB.o⟩
theorem yA {xs:List ByteArray} {k:Nat} {x:ByteArray} (hx:xs[k]? =some x):jS ((xs.take (k+1)).map bl)=if k=0 then bl x else jS ((xs.take k).map bl)++[47]++bl x:=by
 have hk:=(aA.1 hx).1;have e:(xs.take (k+1)).map bl=(xs.take k).map bl++[bl x]:=by rw[cw,hx]; simp
 rw[e,EO]
 by_cases h:k=0
 ·subst h; simp
 ·have h2:(xs.take k).map bl≠[]:=by intro e; have:=congrArg List.length e; simp only[aw,aW,bp]at this; omega
  rw[if_neg h,if_neg h2]
theorem yG (xs:List ByteArray) (m:Nat) (h: ∀x∈xs,x.size<=m) (k:Nat):(jS ((xs.take k).map bl)).length<=xs.length*(m+1):=by
 have h1:=GK ((xs.take k).map bl) m (fun p hp=>by obtain⟨y,hy,rfl⟩:=aQ.1 hp;have:=h y (List.mem_of_mem_take hy);rw[<-bi]; exact this)
 have h2:((xs.take k).map bl).length<=xs.length:=by simp; omega
 exact an h1 (dl _ h2)
theorem En (xs:List ByteArray) (S:Nat->Prop) (v:Value) (w:World) (hv:lP S w v xs) (hn:xs.length<=65536) (hsz: ∀x∈xs,x.size<=65536):
  Calls Tryz.prog 132 #[v] w fun e w'=>e= .returned (.string ⟨(jS (xs.map bl)).toArray⟩)/\w=w':=by
 obtain⟨a,cap,rfl,hc,hb,ha⟩:=hv.shape;have HC:=ag ha;have HS:=ag hsz;clear hv ha hsz;unfold maxLen at hb
 go_enter Tryz.func132,Tryz.ntmps132
 go_wp2_with fail
 go_loop [3,8] (fun o i=> ∃(k:Nat) (t:ByteArray),k<=xs.length/\i= .int .i64 k/\o= .string t/\bl t=jS ((xs.take k).map bl)) (fun _ i=>xs.length-(intOf i).toNat)
 ·exact⟨0,⟨#[]⟩,aR _,rfl,rfl,by simp[bl,jS,Lib.join_nil]⟩
 ·obtain⟨k,t,hk,rfl,rfl,ht⟩:=hrel;have hh:t.size<=4295032832:=by rw[bi,ht];have:=yG xs 65536 HS.o k;have h2:xs.length*(65536+1)<=65536*(65536+1):=dl _ hn;omega
  have HT:=ag ht;clear ht
  by_cases hd:k<xs.length
  ·obtain⟨x,hx⟩: ∃x,xs[k]? =some x:=⟨xs[k],by simp[hd]⟩;obtain⟨b,o,rfl,_,hf⟩:=HC.o k x hx;have hj:=HS.o x (aM hx);have HX:=ag hx;clear hx
   by_cases h0:k=0
   ·have e0:decide ((0:Int)<(k:Int))=false:=by simp[h0]
    have hg: ¬(0:Int)<(k:Int):=by omega
    have H0:=ag h0;clear h0;go_wp2_with fail
    go_round
    ·refine⟨k+1,t++x,by omega,by go_num,rfl, ?_⟩;rw[yA HX.o,if_pos H0.o,rH,HT.o,H0.o]; simp[jS,Lib.join_nil]
    simp[intOf]; omega
   ·have h1:(0:Int)<(k:Int):=by omega
    have he:0<k:=by omega
    have H0:=ag h0;clear h0;go_wp2_with fail
    go_round
    ·refine⟨k+1,(t++⟨#[47]⟩)++x,by omega,by go_num,rfl, ?_⟩;rw[yA HX.o,if_neg H0.o,rH,rH,HT.o]; rfl
    simp[intOf]; omega
  ·go_wp2_with fail;go_ret;refine⟨?_,rfl⟩;have:jS (xs.map bl)=bl t:=by rw[HT.o,bo (by omega)]
   rw[this,tS]; rfl
theorem Iy {xs:List ByteArray} {s:ByteArray} (hx:xs.map bl=dd 47 (bl s)):((xs.length:Int) == 1)= !(bl s).contains 47:=by rw[<-CS,<-hx,aw,dy,kf,kf]; omega
theorem qI (s:ByteArray) (w:World) (hs:s.size<=16777216):
  Calls Tryz.prog 102 #[.string s] w fun e w'=>e= .returned (.bool (iV (bl s)))/\Below w.heap.size w w':=by
 go_enter Tryz.func102,Tryz.ntmps102
 go_wp2_with (first
  | (go_at_call 138; refine(Em s _ hs).mono ?_; rintro e w1 ⟨rfl,hb⟩)
  | (go_at_call 87; refine(nG s _ hs).mono ?_; rintro e w2 ⟨v2,xs2,rfl,hd,hc,he⟩; obtain⟨a2,c2,rfl,-,-,-⟩:=hc.shape; have ha:=ag hd; clear hd hc))
 all_goals (go_ret; refine⟨cj ?_,by first | exact ak _ _ | exact aj hb he | exact hb⟩)
 all_goals (rw[dy]; simp only[fF]at *)
 all_goals (first | (have hq:=Iy ha.o; simp_all [iV,bi]; done) | (simp_all [iV,bi]; done) | (simp_all [iV,bi]; omega) | (have hq:=Iy ha.o; simp_all [iV,bi]; intro _; omega))
theorem Eo (s:ByteArray) (w:World) (hs:s.size<=16777216):
  Calls Tryz.prog 86 #[.string s] w fun e w'=>e= .returned (.bool (dH (bl s)))/\Below w.heap.size w w':=by
 go_enter Tryz.func86,Tryz.ntmps86
 go_wp2_with fail;refine(nG s w hs).mono ?_;rintro e w1 ⟨v,xs,rfl,hx,hv,ho⟩;obtain⟨a,cap,rfl,hc,hr,hd⟩:=hv.shape;have hw:xs.length<=16777217:=by
  have h1:(dd 47 (bl s)).length=xs.length:=by rw[<-hx]; simp
  have h2:=pu 47 (bl s);rw[<-bi]at h2;omega
 have HX:=ag hx;have HC:=ag hd;have hn:=ag ho;clear hx hd ho hv;unfold maxLen at hr;go_wp2_with fail
 go_loopw [10] (fun i wr=> ∃k:Nat,k<=xs.length/\i= .int .i64 k/\Below w1.heap.size w1 wr/\ ∀(j:Nat) x,j<k->xs[j]? =some x->iV (bl x)=true) (fun i _=>xs.length-(intOf i).toNat)
 ·exact⟨0,aR _,rfl,ak _ _,fun j x hj=>by omega⟩
 ·obtain⟨k,hk,rfl,hb,hf⟩:=hrel;have HA:=ag hf;have HB:=ag hb;clear hf hb
  by_cases hu:k<xs.length
  ·obtain⟨x,hx⟩: ∃x,xs[k]? =some x:=⟨xs[k],by simp[hu]⟩;obtain⟨b,o,rfl,_,hh⟩:=HC.o k x hx;have hd:wr.cell? ⟨b,o+k,none⟩=some (.string x):=(HB.o.cell (p:=⟨b,o+k,none⟩) (cR hh)).trans hh;have HK:=ag hx;have hq:x.size<=16777216:=by have:=AL HX.o hx; omega
   clear hx hh
   cases hc:iV (bl x)
   ·have he:=ag hc;clear hc;go_wp2_with (go_at_call 102; refine(qI x wr hq).mono ?_; rintro e w' ⟨rfl,hg⟩; rw[he.o]);go_ret;exact⟨cj (Bf HX.o HK.o he.o).symm,aj (aj hn.o HB.o) hg⟩
   ·have he:=ag hc;clear hc;go_wp2_with (go_at_call 102; refine(qI x wr hq).mono ?_; rintro e w' ⟨rfl,hg⟩; rw[he.o])
    go_roundw
    ·refine⟨k+1,by omega,by go_num,aj HB.o hg,fun j x' hj hp=> ?_⟩
     rcases dN j k with h | h
     ·exact HA.o j x' h hp
     ·obtain rfl:j=k:=by omega
      have:=HK.o.symm.trans hp
      cases this
      exact he.o
    simp[intOf]; omega
  ·go_wp2_with fail
   all_goals (go_ret; refine⟨cj ?_,aj hn.o HB.o⟩)
   all_goals (
    have ha:(dd 47 (bl s)).all iV=true:=by rw[<-HX.o,List.all_map,cB];intro x hm;obtain⟨j,hj,rfl⟩:=eq hm;exact HA.o j _ (by omega) (by simp)
    have hl:(dd 47 (bl s)).length=xs.length:=by rw[<-HX.o]; simp
    rw[dH,ha,hl,Bool.and_true,<-bi,dy]
    simp_all<;> omega)
theorem GQ (visit:bY->Except Int (List ci)) (cv:Value) (I:World->Prop) (B n:Nat) (hI:wD I B) (hV:Cy visit 95 cv I) (IH:zB visit 95 cv I B n):zB visit 95 cv I B (n+1):=by
 intro r st x st' base wb eb sb v w hw Hk h hr hi hB hq;have HI:=ag hI;have HV:=ag hV;have HJ:=ag IH;have HB:=ag hB;have HR:=ag hr;have H:=ag h;have Hr:=ag hi;have HL:=ag Hk;have Hf:=ag hw;have HX:(cT r st.2).length<=st'.2.length:=by
  rw[fB]at hw
  split at hw
  ·simp only[aV,cM]at hw;obtain⟨_,rfl⟩:=hw;exact ah _
  ·split at hw
   ·simp only[aV,cM]at hw;obtain⟨_,rfl⟩:=hw;exact ah _
   ·exact lV (ng visit n) _ _ x st' hw
 have yb:=oS r st.2;have Hp:=ag ((ak w.heap.size w).alloc (ah _) (.cells #[.string r.name, .int .i64 r.gen, .int .i64 r.size] 26));have Hs:=ag (h.below Hp.o);have hC:=ag (aC w (.cells #[.string r.name, .int .i64 r.gen, .int .i64 r.size] 26));have yl:wb<w.heap.size:=am h.box;unfold eC;clear hw h hr hi hI hV IH hB
 go_enter Tryz.func133,Tryz.ntmps133
 go_wp2_with fail;refine(oT base wb eb sb _ v st.1 st.2 r _ Hs.o HR.o (by omega) (by simp; omega)).mono ?_;rintro e w1 ⟨rfl,v1,HA,hZ,HC⟩;have Hb:=ag HA;have hu:=ag (show w1.heap[w.heap.size]? =some (.cells #[.string r.name, .int .i64 r.gen, .int .i64 r.size] 26 (0,0))from(hZ.block w.heap.size (by simp) (fun ho=>by
  rcases ho with e | e | e | e
  ·omega
  ·have:=H.o.exs.map.lt; omega
  ·have:=H.o.see.map.lt; omega
  ·have:=(H.o.row.lt _ e).2; omega)).trans hC.o)
 have H0:=hZ.size;simp at H0;have Hq:=ag (show gy (nw wb eb sb v) w w1 from(gy.of_below Hp.o (S:=nw wb eb sb v)).trans hZ (fun _ _ h=>h));have Hd:=ag (show ∀k,v1.ownBlock=some k->v.ownBlock=some k\/w.heap.size<=k from fun k hk=>by
  rcases HC k hk with e | e
  ·exact .inl e
  ·simp at e; exact .inr (by omega))
 clear HA hZ HC Hs hC;have c1:=bD (k:=1) Hb.o.box;obtain⟨q0,q1,q2,_⟩:=aT hu.o;simp only[fV]at c1;go_wp2_with fail;refine bL [some 6] (by kernel_rfl) (by kernel_rfl) (by kernel_rfl) ?_;simp only[ef,aS,aY];obtain⟨W1,Hh⟩:=bH w1.drew;rw[<-Hh];have hf:Below w1.heap.size w1 W1:=by rw[Hh]; exact(ak _ _).drew
 have hl:=ag (Hb.o.below hf);have hd:=ag ((hf.block w.heap.size (by omega)).trans hu.o);have h8:=ag (Hq.o.trans (gy.of_below hf (S:=fun _=>False)) (fun _ _ h=>False.elim h));have yn:=hf.size;clear hf Hb hu Hq c1 q0 q1 q2;have c1:=bD (k:=1) hl.o.box;have q0:=bD (k:=0) hd.o;have q1:=bD (k:=1) hd.o;have q2:=bD (k:=2) hd.o;have h0:=hl.o.exs.look HR.o
 unfold eC at h0;simp only[fV]at c1 q0 q1 q2;clear Hh
 by_cases hm:r∈st.1
 ·have e1:decide (r∈st.1)=true:=by simp[hm]
  rw[e1]at h0;have hb:=ag (show(x,st')=(0,(st.1,cT r st.2)) by have:=Hf.o; rw[fB,if_pos hm]at this; exact(bt this).symm);clear e1 hm
  repeat (first | (refine cy rfl ?_; simp only[bM]) | (refine cP rfl (fun K hK=> ?_); go_simp; refine hK _ ?_; clear hK K))
  refine cO ?_;go_wp2_with fail;go_ret;obtain⟨e1,e2⟩:=gE hb.o;exact⟨dK e1.symm,v1,by rw[e2]; exact hl.o,h8.o,Hd.o⟩
 ·have e1:decide (r∈st.1)=false:=by simp[hm]
  rw[e1]at h0;have HM:=ag hm;have Hg:=ag (show(match visit r with | .error x=>some (x,(st.1++[r],cT r st.2)) | .ok l=>jp (fB visit n) l (st.1++[r],cT r st.2))=some (x,st') by have:=Hf.o; rw[fB,if_neg hm]at this; exact this);clear e1 hm Hf
  repeat (first | (refine cy rfl ?_; simp only[bM]) | (refine cP rfl (fun K hK=> ?_); go_simp; refine hK _ ?_; clear hK K))
  refine cO ?_;go_wp2_with fail;refine bL [some 5,none] (by kernel_rfl) (by kernel_rfl) (by kernel_rfl) ?_;simp only[ef,aS,aY,bA,bQ]
  repeat (first | (refine cy rfl ?_; simp only[bM]) | (refine cP rfl (fun K hK=> ?_); go_simp; refine hK _ ?_; clear hK K))
  refine cO ?_;refine eE rfl (fun K hK=> ?_);have Ht:=ag (hl.o.below ((ak _ W1).drew));go_wp2_with (at_mapUpdate; go_must (refine kq rfl _ _ _ rfl eb st.1 Ht.o.exs rfl r HR.o rfl rfl HM.o ?_); intro w2 hT Hy);have H7:eb<w.heap.size:=H.o.exs.map.lt;have yc:sb<w.heap.size:=H.o.see.map.lt;have Hm:=H.o.wne;have hP:=H.o.ne;refine bL [some 5,none,some 5] (by kernel_rfl) (by kernel_rfl) (by kernel_rfl) ?_
  simp only[ef,aS,aY,bA,bQ];obtain⟨W2,hX⟩:=bH w2.drew;rw[<-hX];have hv:W1.grownBy W2 (some eb):=by rw[hX]; exact bW (b:=W1.drew) ⟨rfl,rfl,rfl,ah _,fun _ _ _=>rfl⟩ (bW Hy ⟨rfl,rfl,rfl,ah _,fun _ _ _=>rfl⟩)
  have hs:iU W2 eb (st.1++[r]):=by rw[hX]; exact hT.same rfl
  have hU:=ag (show mR W2 base wb eb sb (.func (.func 95) #[cv] #[]) v1 (st.1++[r]) (cT r st.2)from⟨mq hv hl.o.box Hm.1,hs,hl.o.see.same (hv.block sb hl.o.see.map.lt (by simp; exact ks hP)),hl.o.row.kept hv (.inr (fun e=>(hl.o.own e).2.1 rfl)),hP⟩);have hD:=ag (mq hv hd.o (by omega));have h9:=ag (show gy (nw wb eb sb v) w W2 from h8.o.trans (gy.of_grown (S:=fun k=>k=eb) hv (fun k hk=>by cases hk; rfl)) (fun i _ h=> .inr (.inl h)))
  have yp:=hv.size;have HG:=ag (HI.o w W2 Hr.o (qf h9.o (fun k hk=>uK H.o HB.o hk)));clear hX hv hs hT Hy Ht hl hd h8 c1 q0 q1 q2 h0;have c0:=bD (k:=0) hU.o.box;obtain⟨q0,q1,q2,_⟩:=aT hD.o;simp only[aF,aD]at c0
  repeat (first | (refine cy rfl ?_; simp only[bM]) | (refine cP rfl (fun K hK=> ?_); go_simp; refine hK _ ?_; clear hK K))
  refine cO ?_;refine eE rfl (fun K hK=> ?_);go_wp2_with fail;refine(HV.o W2 r HG.o HR.o).mono ?_;rintro e w3 ⟨hJ,ha⟩;have Hc:=ag (hU.o.below hJ);have Ha:=ag (h9.o.trans (gy.of_below hJ (S:=fun _=>False)) (fun _ _ h=>False.elim h));have H6:=ag hJ;have H4:=hJ.size;clear hJ c0 q0 q1 q2
  cases hA:visit r with
  | error y=>
   rw[hA]at ha;obtain⟨rfl,hy⟩:=ha;have hb:=ag (show(x,st')=(y,(st.1++[r],cT r st.2)) by have:=Hg.o; rw[hA]at this; exact(bt this).symm);have e1:(y != 0)=true:=by simp[hy]
   clear hA hy;go_wp2_with fail
   repeat (first | (refine cy rfl ?_; simp only[bM]) | (refine cP rfl (fun K hK=> ?_); go_simp; refine hK _ ?_; clear hK K))
   refine cO ?_;go_wp2_with fail;go_ret;obtain⟨e1,e2⟩:=gE hb.o;exact⟨dK e1.symm,v1,by rw[e2]; exact Hc.o,Ha.o,Hd.o⟩
  | ok l=>
   rw[hA]at ha;obtain⟨itv,rfl,hx⟩:=ha;have HO:=ag (show jp (fB visit n) l (st.1++[r],cT r st.2)=some (x,st') by have:=Hg.o; rw[hA]at this; exact this);obtain⟨ia,ic,rfl,H8,HS,-⟩:=cU.shape hx lm.len;unfold maxLen at HS;have HK:=ag (show tu w B W2.heap.size w3.heap.size base wb eb sb (.func (.func 95) #[cv] #[]) v (.slice ia l.length ic) l w3 v1 (st.1++[r]) (cT r st.2)from
    ⟨Hc.o,Ha.o,Hd.o,fun k hk=> .inl (hU.o.row.lt k hk).2,⟨by omega,by omega,by omega⟩,⟨by omega,H4,ah _⟩,eO.lt hx⟩)
   clear hA hx Hg hU Hc h9 Ha hD;go_wp2_with fail
   repeat (first | (refine cy rfl ?_; simp only[bM]) | (refine cP rfl (fun K hK=> ?_); go_simp; refine hK _ ?_; clear hK K))
   refine cO ?_;go_wp2_with fail
   go_loopw [40] (fun i wr=> ∃(k:Nat) (v2:Value) (ex2 rs2:List bY),k<=l.length/\i= .int .i64 k/\jp (fB visit n) (l.drop k) (ex2,rs2)=some (x,st')/\tu w B W2.heap.size w3.heap.size base wb eb sb (.func (.func 95) #[cv] #[]) v (.slice ia l.length ic) l wr v2 ex2 rs2) (fun i _=>l.length-(intOf i).toNat)
   ·exact⟨0,v1,_,_,aR _,rfl,HO.o,HK.o⟩
   ·obtain⟨k,v2,ex2,rs2,hk,rfl,HE,Hz⟩:=hrel;have Hw:=ag HE;have hF:=ag Hz;clear HE Hz
    by_cases HW:k<l.length
    ·obtain⟨it,Hn⟩: ∃it,l[k]? =some it:=⟨l[k],by simp[HW]⟩;obtain⟨b,o,ca,cc,rfl,HD,Ho,-,-,hg⟩:=lR hF.o.its (ak _ _) Hn;have hG:=ag (show jp (fB visit n) (it::l.drop (k+1)) (ex2,rs2)=some (x,st') by obtain⟨HT,rfl⟩:=aA.1 Hn;rw[<-cD HT]; exact Hw.o)
     have ya:=AH hG.o;have HN:=ag HD;have q0:=hg 0 (by omega);have q1:=hg 1 (by omega);have q2:=hg 2 (by omega);have q3:=hg 3 (by omega);have q4:=hg 4 (by omega);have q5:=hg 5 (by omega);have q6:=hg 6 (by omega);have q7:=hg 7 (by omega);have q8:=hg 8 (by omega);have q9:=hg 9 (by omega);simp only[fu,aD,cI,dh]at q0 q1 q2 q3 q4 q5 q6 q7 q8 q9
     obtain⟨wo,HZ⟩:=bH wr;subst HZ;have h3:=ag ((ak wo.heap.size wo).alloc (ah _) (.cells #[.string it.name, .int .i64 it.kind, .int .i64 it.mode, .int .i64 it.time, .int .i64 it.size, .string it.link, .slice ca it.chunks.length cc, .string it.node.name, .int .i64 it.node.gen, .int .i64 it.node.size] 28));have Hu:=ag (hF.o.below h3.o);have Hv:=ag (show dJ (fun k=>W2.heap.size<=k/\k<w3.heap.size) _ (.slice ca it.chunks.length cc) it.chunks from cU.below Ho (by omega) h3.o (fun _ _ _ h=>h))
     obtain⟨a',cap',HY,HQ,Hi,-⟩:=cU.shape Ho pA.len
     cases HY
     unfold maxLen at Hi;clear Hn HD Ho hg;have hE:=ag (aC wo (.cells #[.string it.name, .int .i64 it.kind, .int .i64 it.mode, .int .i64 it.time, .int .i64 it.size, .string it.link, .slice ca it.chunks.length cc, .string it.node.name, .int .i64 it.node.gen, .int .i64 it.node.size] 28));go_wp2_with fail;clear q0 q1 q2 q3 q4 q5 q6 q7 q8 q9
     go_loopw [47] (fun i wq=> ∃(j:Nat) (v3:Value),j<=it.chunks.length/\i= .int .i64 j/\tu w B W2.heap.size w3.heap.size base wb eb sb (.func (.func 95) #[cv] #[]) v (.slice (some ⟨b,o,none⟩) l.length ic) l wq v3 ex2 (fD (it.chunks.take j) rs2)/\dJ (fun k=>W2.heap.size<=k/\k<w3.heap.size) wq (.slice ca it.chunks.length cc) it.chunks/\wq.heap[wo.heap.size]? =some (.cells #[.string it.name, .int .i64 it.kind, .int .i64 it.mode, .int .i64 it.time, .int .i64 it.size, .string it.link, .slice ca it.chunks.length cc, .string it.node.name, .int .i64 it.node.gen, .int .i64 it.node.size] 28 (0,0))) (fun i _=>it.chunks.length-(intOf i).toNat)
     ·exact⟨0,v2,aR _,rfl,Hu.o,Hv.o,hE.o⟩
     ·obtain⟨j,v3,hj,rfl,hN,hR,hL⟩:=hrel;have hp:=ag hN;have hH:=ag hR;have he:=ag hL;clear hN hR hL Hu Hv hE h3
      by_cases Hl:j<it.chunks.length
      ·obtain⟨c,hc⟩: ∃c,it.chunks[j]? =some c:=⟨it.chunks[j],by simp[Hl]⟩;obtain⟨b2,o2,rfl,hM,p0,p1,p2⟩:=lY hH.o (ak _ _) hc;have HF:=ag hM;have HP:=ag (show fD (it.chunks.take (j+1)) rs2=cT c (fD (it.chunks.take j) rs2) by rw[dC hc,vE]);have H9:=rg it.chunks rs2 j;have hn:=ag ((ak wr.heap.size wr).alloc (ah _) (.cells #[.string c.name, .int .i64 c.gen, .int .i64 c.size] 26))
       have hW:=ag (hp.o.below hn.o);have Hx:base<=(wr.alloc (.cells #[.string c.name, .int .i64 c.gen, .int .i64 c.size] 26)).heap.size:=an hq (an hp.o.gr.size hn.o.size);have h7:=ag Hx;clear hc hM Hx;go_wp2_with fail;refine(oT base wb eb sb _ v3 ex2 _ c _ hW.o.at' HF.o (by omega) h7.o).mono ?_;rintro e w4 ⟨rfl,ha⟩;obtain⟨v4,hh,Hj⟩:=hW.o.step ha
       have hz:=ag hh;have H5:=hn.o.size;have He:=ag (show dJ (fun k=>W2.heap.size<=k/\k<w3.heap.size) w4 (.slice (some ⟨b2,o2,none⟩) it.chunks.length cc) it.chunks from dJ.same hH.o (fun k hk hS=>⟨hS,(Hj.block k (aO hk H5) (hW.o.notown hS)).trans (hn.o.block k hk)⟩));have hY:=mz he.o (.cells #[.string c.name, .int .i64 c.gen, .int .i64 c.size] 26)
       have h4:=ag ((Hj.block wo.heap.size ((aN.1 hY).1) (hW.o.at'.notown hY (by decide) (by decide))).trans hY);clear ha hh Hj hY p0 p1 p2;go_wp2_with fail
       go_roundw
       ·exact⟨j+1,v4,by omega,by go_num,by rw[HP.o]; exact hz.o,He.o,h4.o⟩
       simp[intOf]; omega
      ·obtain rfl:j=it.chunks.length:=by omega
       rw[bo (ah _)]at hp;have c1:=bD (k:=1) he.o;have c7:=bD (k:=7) he.o;have c8:=bD (k:=8) he.o;have c9:=bD (k:=9) he.o;simp only[fV]at c1 c7 c8 c9
       rcases sX hG.o with⟨hO,h2⟩ | ⟨hO,y,st2,h1,h2⟩
       ·have e2:(it.kind != 2)=true:=by simp[hO]
        have H2:=ag h2;clear hO h2;go_wp2_with fail
        go_roundw
        ·exact⟨k+1,v3,_,_,by omega,by go_num,H2.o,hp.o⟩
        simp[intOf]; omega
       ·have e2:(it.kind != 2)=false:=by simp[hO]
        have H1:=ag h1;have H2:=ag h2;have HU:st2.2.length<=st'.2.length:=by
         rcases h2 with⟨_,h2⟩ | ⟨_,h2⟩
         ·obtain⟨_,rfl⟩:=gE h2;exact ah _
         ·exact lV (ng visit n) _ _ x st' h2
        have HH:=ag (HI.o w wr Hr.o (qf hp.o.gr (fun k hk=>uK H.o HB.o hk)));have h7:=ag (an hq hp.o.gr.size);clear hO h1 h2;go_wp2_with fail;refine(HJ.o it.node (ex2,fD it.chunks rs2) y st2 base wb eb sb v3 wr H1.o (by omega) hp.o.at' HN.o.nd HH.o HB.o h7.o).mono ?_;rintro e w4 ⟨rfl,ha⟩;obtain⟨v4,hh,-⟩:=hp.o.step ha;have hz:=ag hh
        clear ha hh c1 c7 c8 c9
        rcases H2.o with⟨hy,h2⟩ | ⟨hy,h2⟩
        ·have e3:(y != 0)=true:=by simp[hy]
         have hb:=ag h2;clear hy h2;go_wp2_with fail;go_ret;obtain⟨e1,e2⟩:=gE hb.o;exact⟨dK e1.symm,v4,by rw[e2]; exact hz.o.at',hz.o.gr,hz.o.own⟩
        ·subst hy;have H3:=ag h2;clear h2;go_wp2_with fail
         go_roundw
         ·exact⟨k+1,v4,st2.1,st2.2,by omega,by go_num,H3.o,hz.o⟩
         simp[intOf]; omega
    ·obtain rfl:k=l.length:=by omega
     have hb:=ag (show(x,st')=(0,(ex2,rs2)) by have:=Hw.o; rw[fq (ah _)]at this; exact(bt this).symm);go_wp2_with fail;go_ret;obtain⟨e1,e2⟩:=gE hb.o;exact⟨dK e1.symm,v2,by rw[e2]; exact hF.o.at',hF.o.gr,hF.o.own⟩
theorem Bm (visit:bY->Except Int (List ci)) (cv:Value) (I:World->Prop) (B:Nat) (hI:wD I B) (hV:Cy visit 95 cv I): ∀n,zB visit 95 cv I B n
 | 0=>by intro r st x st' base wb eb sb v w hw; simp[fB]at hw
 | n+1=>GQ visit cv I B n hI hV (Bm visit cv I B hI hV n)
open Go Go.RowKit Go.Maps
theorem FV (visit:bY->Except Int (List ci)) (cv:Value) (I:World->Prop) (n:Nat) (root:bY) (res:Except Int (List bY)) (w:World) (hI:wD I w.heap.size) (hV:Cy visit 95 cv I) (hi:I w) (hr:dZ root)
  (hn:kK visit n root=some res) (hl: ∀p,fB visit n root ([],[])=some p->p.2.2.length<1099511627775):
  Calls Tryz.prog 94 #[eC root, .func (.func 95) #[cv] #[]] w (rG res w):=by
 have HI:=ag hI;have HV:=ag hV;have hB:=ag hi;have HR:=ag hr;have HL:=ag hl;have hG:= @run_makeMap Tryz.prog;have hu:=ag ((ak w.heap.size w).alloc (ah _) (.cells #[.string root.name, .int .i64 root.gen, .int .i64 root.size] 26));have hd:=ag (aC w (.cells #[.string root.name, .int .i64 root.gen, .int .i64 root.size] 26));unfold eC;clear hI hV hi hr hl
 cases hv:lj root
 ·have ha:=ag (show res= .error 1 by rw[kK,if_neg (by rw[hv]; simp)]at hn; exact(bt hn).symm);have hp:=ag hv;clear hv hn
  go_enter Tryz.func94,Tryz.ntmps94
  go_wp2_with fail;refine(iD root false _ HR.o hp.o).mono ?_;rintro e w1 ⟨rfl,hc⟩;have hj:=ag (aj hu.o hc);clear hc;go_wp2_with fail
  go_ret2
  exact⟨hj.o,by rw[ha.o]; exact⟨rfl,by decide⟩⟩
 ·have hp:=ag hv;obtain⟨⟨x,st⟩,hs,hf⟩: ∃p,fB visit n root ([],[])=some p/\res=(if p.1=0 then .ok p.2.2 else .error p.1):=by rw[kK,if_pos hv,ft]at hn;obtain⟨p,h1,h2⟩:=hn;exact⟨p,h1,h2.symm⟩
  have hD:=ag hs;have ha:=ag hf;have hC:=ag (HL.o _ hs);clear hv hn hs hf
  go_enter Tryz.func94,Tryz.ntmps94
  go_wp2_with fail;refine(iD root true _ HR.o hp.o).mono ?_;rintro e w1 ⟨rfl,hc⟩;have hj:=ag (aj hu.o hc);have hb:=(hc.block w.heap.size (by simp)).trans hd.o;have he:=ag hb;have hF:=am hb;clear hc hb hd;obtain⟨W,hW⟩:=bH (((w1.alloc (.map #[] 0)).alloc (.map #[] 0)).alloc (.cells #[.func (.func 95) #[cv] #[], .map (some w1.heap.size), .map (some (w1.heap.size+1)), .slice none 0 0] 191))
  have HK:=ag (show mR W w.heap.size (w1.heap.size+1+1) w1.heap.size (w1.heap.size+1) (.func (.func 95) #[cv] #[]) (.slice none 0 0) [] [] by rw[hW]; exact ES);have hq:Below w1.heap.size w1 W:=by rw[hW]; exact((eT).alloc (by simp) _).alloc (by simp; omega) _
  have hg:=ag (aj hj.o hq);have hm:=ag ((hq.block w.heap.size hF).trans he.o);obtain⟨q0,q1,q2,_⟩:=aT hm.o;obtain⟨r0,r1,r2,_⟩:=aT he.o;have hA:=ag (HI.o w W hB.o (gy.of_below hg.o));clear hq
  go_upto_region 4 with(fail)
  rw[<-hW];clear hW;go_wp2_with fail;refine(Bm visit cv I w.heap.size HI.o HV.o n root ([],[]) x st w.heap.size (w1.heap.size+1+1) w1.heap.size (w1.heap.size+1) (.slice none 0 0) W hD.o hC.o HK.o HR.o hA.o ⟨ah _,by omega,by omega,by omega⟩ hg.o.size).mono ?_;rintro e w2 ⟨rfl,v2,hh,hz,hE⟩;have hy:=ag hh;have hw:=ag (show Below w.heap.size w w2 from hg.o.trans (hz.below hg.o.size (fun k hk=>uK HK.o ⟨ah _,by omega,by omega,by omega⟩ hk)))
  obtain⟨a2,c2,rfl⟩:=hh.shape;have d3:=bD (k:=3) hh.box;simp only[fV]at d3;clear hh hz hE q0 q1 q2 r0 r1 r2
  by_cases hx:x=0
  ·subst hx;have ho:=ag (show res= .ok st.2 by rw[ha.o]; simp);go_wp2_with fail
   go_ret2
   exact⟨hw.o,by rw[ho.o]; exact⟨_,rfl,dJ.same (oq hy.o.row hy.o.ok) (fun k _ hS=>⟨hS.1,rfl⟩)⟩⟩
  ·have e1:(x != 0)=true:=by simp[hx]
   have ho:=ag (show res= .error x by rw[ha.o]; simp[hx]);have HX:=ag hx;clear hx;go_wp2_with fail
   go_ret2
   exact⟨hw.o,by rw[ho.o]; exact⟨rfl,HX.o⟩⟩
theorem kU.pres {B:Nat} {cv:Value} {cs:List (ByteArray×List UInt8)} :Cy (lK cs) 95 cv (kU B cv cs):=fun W r hI hr=>(Ef (· <B) cv cs r W hI.cont hr hI.env).mono fun _ _ h=>h
def lp (cs:List (ByteArray×List UInt8)) (rs:List bY):List bY:=rs.filter fun r=>(dU cs r.name).isNone
def Qi (cs:List (ByteArray×List UInt8)) (res:Except Int (List bY)):Except Int (List bY):=match res with
 | .error x=> .error x
 | .ok rs=> .ok (lp cs rs)
theorem Co {P:Program} {ops:Array Oper} {rest:List Oper} {o:Oper} {a:Act} {Q:Exit->Act->World->Prop} {t e:TypeId} {sz bytes:Nat} (T:kz P t e sz bytes) (hgd:o.guard=none) (s x:Operand)
  (ho:o.op= .call {callee:= .builtin .append,args:= #[s,x],argTypes:= #[t,t]}) (base:Nat) (v:Value) (n:Nat) (xs:List Value) (hs:a.eval s=v) (w0:World) (news:List Value) (e2:TypeId)
  (hx:a.eval x= .slice (some ⟨w0.heap.size,0,none⟩) 1 1) (hl:news.length=sz) (h1: ∀u∈news,u.oneCell'=true) (hown:w0.ownsRow base e sz v n xs) (h63:n+1<=maxLen) (hby:(n+1)*bytes<=140737488355328) (hbase:base<=w0.heap.size)
  (h: ∀v' w',w'.ownsRow base e sz v' (n+1) (xs++news)->w0.grownBy w' v.ownBlock->v'≠ .slice none 0 0->wpList P ops Q rest (a.put o.dst v') w'):wpList P ops Q (o::rest) a (w0.alloc (.cells news.toArray e2)):=by
 obtain⟨ht,⟨i,z,hc,hd,he,hf,hm⟩,hb,hq⟩:=T;have ha: ∀(j:Nat) u,news[j]? =some u->(w0.alloc (.cells news.toArray e2)).cell? ((⟨w0.heap.size,0,none⟩:Addr).add j)=some u:=by intro j u hj;rw[tA,bO];have hh:=aC w0 (.cells news.toArray e2);simp only[World.cell?,hh];simp[hj]
 have hn:news.length=1*sz:=by rw[hl,Nat.one_mul]
 obtain⟨v',w',hr,h2,hg,hv⟩:=run_append_own (P:=P) (w0.alloc (.cells news.toArray e2)) base t o.type e i z sz bytes ht hc hd he hf hm hb v n xs (hown.alloc _) ⟨w0.heap.size,0,none⟩ 1 1 news hn ha h1 h63 hby (by simp; omega);refine gJ hgd fun K hK=> ?_
 unfold Oper.wp execOp;simp only[ho,resolve,invoke,builtin,Sem.run_bind,Sem.run_pure,iP,ji,bS,eY,hs,hx,hr];refine hK _ _ (h v' w' h2 ⟨hg.os,hg.tape,hg.output,by have:=hg.size; simp at this; omega,fun k hk hp=> ?_⟩ (fun e=>by have:=(hv.1 e).2; omega));rw[hg.block k (by simp; omega) hp];exact cN _ _ _ hk
theorem Fx (cs:List (ByteArray×List UInt8)) (rs:List bY) (r:bY):lp cs (rs++[r])=if(dU cs r.name).isNone=true then lp cs rs++[r]else lp cs rs:=by
 unfold lp; rw[fM]
 by_cases h:(dU cs r.name).isNone=true<;> simp[List.filter,h]
theorem ML (cs:List (ByteArray×List UInt8)) (rs:List bY):(lp cs rs).length<=rs.length:=dI _ _
theorem BU (S:Nat->Prop) (cv:Value) (cs:List (ByteArray×List UInt8)) (n:Nat) (root:bY) (res:Except Int (List bY)) (w:World) (hc:fI S w cv cs) (henv:nJ w) (hr:dZ root)
  (hn:kK (lK cs) n root=some res) (hl: ∀p,fB (lK cs) n root ([],[])=some p->p.2.2.length<1099511627775) (hle: ∀rs,res= .ok rs->rs.length<1099511627775):
  Calls Tryz.prog 37 #[eC root,cv] w (rG (Qi cs res) w):=by
 have hR: ∀(fn:Fn) (first cap:Array Value) (w:World),(Instr.makeFunc fn first cap).run Tryz.prog w= .ok (.func fn first cap) w:=fun _ _ _ _=>rfl
 have hs:=ag ((ak w.heap.size w).alloc (ah _) (.cells #[.string root.name, .int .i64 root.gen, .int .i64 root.size] 26));have HC:=ag hc;have HI:=ag (kU.start (hc.below hs.o) (henv.below hs.o));have HR:=ag hr;have HN:=ag hn;have HL:=ag hl;unfold eC;clear hc henv hr hn hl
 go_enter Tryz.func37,Tryz.ntmps37
 go_wp2_with fail;refine(FV (lK cs) cv _ n root res _ kU.keep kU.pres HI.o HR.o HN.o HL.o).mono ?_;rintro e w1 ⟨hD,hj⟩;have ho:=ag (aj hs.o hD);clear hD
 cases res with
 | error x=>
  obtain⟨rfl,hx⟩:=hj;have HX:=ag hx;have e1:(x != 0)=true:=by simp[hx]
  clear hx;go_wp2_with fail
  go_ret2
  exact⟨ho.o,rfl,HX.o⟩
 | ok rs=>
  obtain⟨v,rfl,hv⟩:=hj;have hU:=hle rs rfl;obtain⟨a,cap,rfl,hO,hm,-⟩:=cU.shape hv pA.len;unfold maxLen at hm;have HV:=ag hv;clear hv hle;go_wp2_with fail
  go_loopw [8,25] (fun o i wr=> ∃k:Nat,k<=rs.length/\i= .int .i64 k/\wr.ownsRow w1.heap.size 26 3 o (lp cs (rs.take k)).length ((lp cs (rs.take k)).flatMap jt)/\Below w1.heap.size w1 wr/\ ∀r∈lp cs (rs.take k),dZ r) (fun _ i _=>rs.length-(intOf i).toNat)
  ·exact⟨0,aR _,rfl,bN _ _ _ _,ak _ _,by simp[lp]⟩
  ·obtain⟨k,hk,rfl,hg,hb,hE⟩:=hrel;have HO:=ag hg;have HB:=ag hb;have hu:=ag hE;obtain⟨ao,co,rfl,hT,hP⟩:=aH hg;have hA:=ML cs (rs.take k);rw[aW]at hA;clear hg hb hE
   by_cases hN:k<rs.length
   ·obtain⟨r,hr⟩: ∃r,rs[k]? =some r:=⟨rs[k],by simp[hN]⟩;obtain⟨b,o,rfl,hh,q0,q1,q2⟩:=lY HV.o HB.o hr;have hJ:=ag hh;have hC:=ag (show lp cs (rs.take (k+1))=if(dU cs r.name).isNone=true then lp cs (rs.take k)++[r]else lp cs (rs.take k) by rw[dC hr,Fx]);have hq:=hh.nm;clear hr hh
    go_upto_region 8 with(fail)
    obtain⟨W,hW⟩:=bH (wr.alloc (.cells #[.string r.name, .int .i64 r.gen, .int .i64 r.size] 26));rw[<-hW];have hy:Below wr.heap.size wr W:=by rw[hW]; exact eT
    have hH:=ag (show W.heap[wr.heap.size]? =some (.cells #[.string r.name, .int .i64 r.gen, .int .i64 r.size] 26 (0,0)) by rw[hW]; exact aC wr _);have hp:=ag (aj HB.o hy);have hw:=ag (jI HO.o hy);have hB:=ag (HC.o.below (aj ho.o hp.o));have hF:=hp.o.size;obtain⟨p0,p1,p2,_⟩:=aT hH.o;clear hW hy q0 q1 q2
    cases hf:dU cs r.name with
    | none=>
     have hM:=hB.o.missM hq hf;have ha:=ag (hC.o.trans (if_pos (by rw[hf]; rfl)));clear hf hq;go_wp2_with (at_builtin; go_must (refine Co Tryz.appRefs rfl _ _ rfl w1.heap.size (.slice ao (lp cs (rs.take k)).length co) (lp cs (rs.take k)).length ((lp cs (rs.take k)).flatMap jt) rfl W [.string r.name, .int .i64 r.gen, .int .i64 r.size] _ rfl rfl (rm (r:=r)) hw.o (by unfold maxLen; omega) (by omega) hF ?_); intro v' wc he hd _; have hG:=ag (bZ hp.o hw.o hd (ah _) hF); have hI:=ag (show wc.ownsRow w1.heap.size 26 3 v' (lp cs (rs.take (k+1))).length ((lp cs (rs.take (k+1))).flatMap jt) by rw[ha.o,ai,bV]; simpa [jt]using he); obtain⟨ae,ce,rfl,-,-⟩:=aH he; clear he hd)
     go_roundw
     ·refine⟨k+1,by omega,by go_num,hI.o,hG.o, ?_⟩;rw[ha.o];intro x hx
      rcases aP.1 hx with hx | hx
      ·exact hu.o x hx
      ·simp only[aL]at hx; subst hx; exact hJ.o
     simp[intOf]; omega
    | some bs=>
     obtain⟨v,hM,-⟩:=hB.o.hitM hq hf;have ha:=ag (hC.o.trans (if_neg (by rw[hf]; simp)));clear hf hq;go_wp2_with fail
     go_roundw
     ·exact⟨k+1,by omega,by go_num,by rw[ha.o]; exact hw.o,hp.o,by rw[ha.o]; exact hu.o⟩
     simp[intOf]; omega
   ·obtain rfl:k=rs.length:=by omega
    have hL:=ag (show lp cs (rs.take rs.length)=lp cs rs by rw[bo (ah _)]);have hz:=ho.o.size;go_wp2_with fail
    go_ret2
    refine⟨aj ho.o HB.o, ?_⟩
    show ∃v,_/\dJ _ _ v (lp cs rs)
    rw[<-hL.o];exact⟨_,rfl,dJ.same (oq HO.o hu.o) (fun k _ hS=>⟨an hz hS.1,rfl⟩)⟩
end
section
open Go.RowKit
def OS (cs:List (ByteArray×List UInt8)) (miss:bY->Except Int (List bY)):Prop:= ∀(S:Nat->Prop) (cv:Value) (root:bY) (w:World),fI S w cv cs->nJ w->dZ root->Calls Tryz.prog 37 #[eC root,cv] w (rG (miss root) w)
open Go Go.RowKit Go.Maps
theorem Ge {cs:List (ByteArray×List UInt8)} {r:bY} {l:List ci} (h:lK cs r= .ok l) {it:ci} (hit:it∈l): ∀c∈qX it,c∈pk cs:=by
 unfold lK at h
 cases hn:gq cs r with
 | error x=>
  rw[hn]at h;simp only at h
  split at h
  ·simp only[dj]at h; subst h; simp at hit
  ·simp at h
 | ok l'=>
  rw[hn]at h;simp only[dj]at h;subst h;exact xO hn hit
theorem yL {cs:List (ByteArray×List UInt8)} {U:List bY} (hU: ∀c∈pk cs,c∈U): ∀n,Mc U (fB (lK cs) n) n
 | 0=>fun r st hr hi hn=>by have:=mX hi.e1 hi.e2;omega
 | n+1=>fun r st hr hi hn=>by
  have hm:uo U (st.1,cT r st.2):=⟨hi.e1,hi.e2,od hi.l1,fun x hx=>by
   rcases lS.1 hx with hx | rfl
   ·exact hi.l2 x hx
   ·exact hr⟩
  rw[fB]
  split
  ·exact⟨0,_,rfl,hm,ah _⟩
  ·rename_i hne;have he:uo U (st.1++[r],cT r st.2):=⟨dX.2 ⟨hi.e1,by simp,fun a ha b hb e=>by simp only[aL]at hb; subst hb e; exact hne ha⟩,fun x hx=>by
    rcases aP.1 hx with hx | hx
    ·exact hi.e2 x hx
    ·simp only[aL]at hx; subst hx; exact hr,hm.l1,hm.l2⟩
   cases hv:lK cs r with
   | error x=>exact⟨x,_,rfl,he,by simp⟩
   | ok l=>
    obtain⟨x,st',h1,h2,h3⟩:=qp (yL hU n) l (st.1++[r],cT r st.2) (fun it hit c hc=>hU c (Ge hv hit c hc)) he (by simp; omega);exact⟨x,st',h1,h2,by simp at h3; omega⟩
theorem ye (cs:List (ByteArray×List UInt8)) (r:bY): ∃x st',fB (lK cs) (mT cs) r ([],[])=some (x,st')/\uo (r::pk cs) st':=by obtain⟨x,st',h1,h2,_⟩:=yL (cs:=cs) (U:=r::pk cs) (fun c hc=>by simp[hc]) (mT cs) r ([],[]) (by simp) ⟨by simp,by simp,by simp,by simp⟩ (by simp[mT]);exact⟨x,st',h1,h2⟩
def Jb (cs:List (ByteArray×List UInt8)) (r:bY):Except Int (List bY):=(kK (lK cs) (mT cs) r).getD (.error 0)
def Nf (cs:List (ByteArray×List UInt8)) (r:bY):Except Int (List bY):=Qi cs (Jb cs r)
theorem yd {cs:List (ByteArray×List UInt8)} (h:cs.length<=80) (r:bY):kK (lK cs) (mT cs) r=some (Jb cs r)/\ ∀p,fB (lK cs) (mT cs) r ([],[])=some p->p.2.2.length<=1000000000:=by
 obtain⟨x,st',h1,h2⟩:=ye cs r;refine⟨?_,fun p hp=> ?_⟩
 ·unfold Jb;have: ∃y,kK (lK cs) (mT cs) r=some y:=by
   unfold kK
   split
   ·rw[h1]; exact⟨_,rfl⟩
   ·exact⟨_,rfl⟩
  obtain⟨y,hy⟩:=this;rw[hy]; rfl
 ·rw[h1]at hp;simp only[aV]at hp;subst hp;have h3:=mX h2.l1 h2.l2;have h4:=zQ (cs:=cs);have h5:cs.length*3948544<=80*3948544:=dl _ h;simp only[ay]at h3;simp only;omega
theorem ND {cs:List (ByteArray×List UInt8)} (h:cs.length<=80) {r:bY} {l:List bY} (hl:Jb cs r= .ok l):l.length<=1000000000:=by
 obtain⟨h1,h2⟩:=yd h r;obtain⟨x,st',h3,_⟩:=ye cs r;have h4:=h2 _ h3;rw[hl]at h1;unfold kK at h1
 split at h1
 ·rw[h3]at h1;simp only[dE,aV]at h1
  split at h1
  ·simp only[dj]at h1; subst h1; exact h4
  ·simp at h1
 ·simp at h1
theorem zb {cs:List (ByteArray×List UInt8)} (h:cs.length<=80):OS cs (Nf cs):=fun S cv root w hc he hr=>by obtain⟨h1,h2⟩:=yd h root;exact BU S cv cs (mT cs) root _ w hc he hr h1 (fun p hp=>by have:=h2 p hp; omega) (fun rs hrs=>by have:=ND h hrs; omega)
end
section
open Go.RowKit
section
variable {k : dq} {gs : List (ByteArray × Int)} {c : fQ} {tree : List dk} {M : List (ByteArray × List UInt8)}
variable (k gs c tree) in
def qO (d:List UInt8):Nat:=if d=[]then 0 else(dd 47 d).length
theorem Pd {d:ByteArray} {e:dk} (hv:ij e=true) (hp:cu (bl e.path)=bl d):qO (bl e.path)=qO (bl d)+1/\qO (bl e.path)<=16:=by
 have ha:=dm hv;have hk:=oP ha hp;have hb:=pT ha;have h1:qO (bl e.path)=(dd 47 (bl e.path)).length:=by unfold qO; rw[if_neg hb]
 constructor
 ·rw[h1,hk.path];unfold qO
  split
  ·rw[fW 47 _ hk.no]; rfl
  ·rw[mK,fW 47 _ hk.no,ai]; rfl
 ·rw[h1];unfold dH at ha;simp only[aE,aG]at ha;exact ha.1.2
end
structure sI (tree next : List dk) (p : ByteArray) : Prop where
 len:next.length=tree.length
 at': ∀(i:Nat) (e g:dk),tree[i]? =some e->next[i]? =some g->g.path=e.path/\g.kind=e.kind/\(g=e\/(e.path=p/\e.kind=1))
theorem Nc {tree next:List dk} {p:ByteArray} (h:sI tree next p) (d:ByteArray): ∀g∈dB next d,∃e∈dB tree d,g.path=e.path/\g.kind=e.kind/\(g=e\/(e.path=p/\e.kind=1)):=by
 intro g hg;obtain⟨hb,hc⟩:=dY.1 hg;obtain⟨i,hi⟩:=List.getElem?_of_mem hb;obtain⟨hd,-⟩:=aA.1 hi;have ha:i<tree.length:=by rw[<-h.len]; exact hd
 have he:tree[i]? =some tree[i]:=bn ha;obtain⟨h1,h2,h3⟩:=h.at' i _ _ he hi;exact⟨_,dY.2 ⟨aM he,by rw[<-h1]; exact hc⟩,h1,h2,h3⟩
theorem Km {tree next:List dk} {p:ByteArray} (h:sI tree next p) {d:ByteArray} (hd:cu (bl p)≠bl d):dB next d=dB tree d:=by
 have ha: ∀(a b:List dk),a.length=b.length->(∀(i:Nat) (e g:dk),b[i]? =some e->a[i]? =some g->g.path=e.path/\(g=e\/e.path=p))->dB a d=dB b d:=by
  intro a
  induction a with
  | nil=>
   intro b hl _
   cases b with
   | nil=>rfl
   | cons=>simp at hl
  | cons x a ih=>
   intro b hl hx
   cases b with
   | nil=>simp at hl
   | cons y b=>
    have h0:=hx 0 y x rfl rfl;have h1:=ih b (by simpa using hl) fun i e g he hg=>hx (i+1) e g (by simpa using he) (by simpa using hg)
    unfold dB at h1 ⊢;rw[List.filter_cons,List.filter_cons,h1,h0.1]
    rcases h0.2 with rfl | h2
    ·rfl
    ·rw[if_neg (by rw[aG,h2]; exact hd),if_neg (by rw[aG,h2]; exact hd)]
 exact ha next tree h.len fun i e g he hg=>by obtain⟨h1,_,h3⟩:=h.at' i e g he hg;exact⟨h1,h3.imp id fun h=>h.1⟩
section
variable {k : dq} {gs : List (ByteArray × Int)} {c : fQ} {tree next : List dk} {p : ByteArray}
theorem DW (ho:sI tree next p) (hok:un tree): ∀(f:Nat) (d:ByteArray),¬um (bl d) (bl p)->dS k gs c next f d=dS k gs c tree f d
 | 0,_,_=>rfl
 | f+1,d,hd=>by
  have hpar:cu (bl p)≠bl d:=fun e=>hd (by rw[<-e]; exact pZ _)
  have hk:=Km ho hpar;have hin: ∀e∈dB tree d,dS k gs c next f e.path=dS k gs c tree f e.path:=fun e he=>by
   obtain⟨he1,he2⟩:=dY.1 he;refine DW ho hok f e.path fun hb=>hd ?_
   have h1:um (bl d) (bl e.path):=by rw[<-he2]; exact pZ _
   exact h1.trans hb (lT hok he1)
  have hi:nj k gs c next f d=nj k gs c tree f d:=by unfold nj;rw[hk];refine List.map_congr_left fun e he=>by rw[hin e he]
  have hc:(dB next d).flatMap (iG k gs c next f)=(dB tree d).flatMap (iG k gs c tree f):=by
   rw[hk,List.flatMap_def,List.flatMap_def]
   congr 1
   refine List.map_congr_left fun e he=> ?_
   unfold iG;rw[hin e he]
  rw[fi,fi,hi,hc]
def qM (k:dq) (gs:List (ByteArray×Int)) (c:fQ) (next:List dk) (p:ByteArray):Nat->ByteArray->List (List UInt8)
 | 0,_=>[]
 | f+1,d=>(dS k gs c next (f+1) d).1::((dB next d).filter fun e=>decide (e.kind=2) && (bl e.path++[47]).isPrefixOf (bl p)).flatMap fun e=>qM k gs c next p f e.path
theorem Im {e:dk} (hne:bl e.path≠[]):um (bl e.path) (bl p)<->(bl e.path++[47]).isPrefixOf (bl p)=true:=by
 rw[List.isPrefixOf_iff_prefix]
 constructor
 ·rintro(h | ⟨r,h⟩)
  ·exact absurd h hne
  ·exact⟨r,by rw[h]; simp⟩
 ·rintro⟨r,h⟩;exact .inr ⟨r,by rw[<-h]; simp⟩
theorem Pk :gK c []=[]:=rfl
theorem AA (ho:sI tree next p) (hok:un tree) (hokn:un next) (hemp: ∀g∈next,g.path=p->g.data=[]): ∀(f:Nat) (d:ByteArray),um (bl d) (bl p)-> ∀x∈(dS k gs c next f d).2,x∈(dS k gs c tree f d).2\/x∈qM k gs c next p f d
 | 0,d,_,x,hx=>by simp[dS]at hx
 | f+1,d,hd,x,hx=>by
  rw[fi]at hx
  rcases aP.1 hx with hx | hx
  ·obtain⟨g,hg,hx⟩:=dt.1 hx;obtain⟨e,he,hp,hkd,hor⟩:=Nc ho d g hg;obtain⟨hg1,hg2⟩:=dY.1 hg;unfold iG at hx
   by_cases hk:g.kind=1
   ·rw[if_pos hk]at hx
    rcases hor with rfl | ⟨h1,h2⟩
    ·exact .inl (FD he (by unfold iG; rw[if_pos hk]; exact hx))
    ·rw[hemp g hg1 (by rw[hp]; exact h1),Pk]at hx
     cases hx
   ·rw[if_neg hk]at hx
    by_cases hk2:g.kind=2
    ·rw[if_pos hk2]at hx;have hge:g=e:=hor.resolve_right fun h=>by omega
     subst hge
     by_cases hb:um (bl g.path) (bl p)
     ·rcases AA ho hok hokn hemp f g.path hb x hx with h1 | h1
      ·exact .inl (uF he hk2 h1)
      ·refine .inr ?_;unfold qM;refine eG _ (dt.2 ⟨g,dQ.2 ⟨hg, ?_⟩,h1⟩);rw[aE,aG];exact⟨hk2,(Im (lT hokn hg1)).1 hb⟩
     ·rw[DW ho hok f g.path hb]at hx;exact .inl (uF he hk2 hx)
    ·rw[if_neg hk2]at hx; cases hx
  ·refine .inr ?_;rw[aL.1 hx];unfold qM;rw[fi];exact List.mem_cons_self
theorem KH (hokn:un next) {d:ByteArray} {e g:dk} (he:e∈dB next d) (hg:g∈dB next d) (h1:um (bl e.path) (bl p)) (h2:um (bl g.path) (bl p)):e=g:=by
 obtain⟨e1,e2⟩:=dY.1 he;obtain⟨g1,g2⟩:=dY.1 hg;obtain⟨r,hr⟩:=h1.resolve_left (lT hokn e1);obtain⟨s,hs⟩:=h2.resolve_left (lT hokn g1);have k1:=oP (dm (hokn.val e e1)) e2;have k2:=oP (dm (hokn.val g g1)) g2;have ha:oR (bl d) (bl e.path)=oR (bl d) (bl g.path):=by
  have hq:oR (bl d) (bl e.path)++47::r=oR (bl d) (bl g.path)++47::s:=by
   rw[k1.path]at hr;rw[k2.path]at hs
   by_cases h0:bl d=[]
   ·rw[if_pos h0]at hr hs;rw[<-hr,<-hs]
   ·rw[if_neg h0]at hr hs;have h3:bl d++47::(oR (bl d) (bl e.path)++47::r)=bl d++47::(oR (bl d) (bl g.path)++47::s):=by simp only[bg,aK]at hr hs;rw[<-hr,<-hs]
    have:=List.append_cancel_left h3
    simpa using this
  have h4:=lx 47 _ r k1.no;have h5:=lx 47 _ s k2.no;rw[hq,h5]at h4;simp only[gt]at h4;exact h4.1.symm
 have h3:e.path=g.path:=kF (by rw[k1.path,k2.path,ha]);have h4:=uE hokn.nodup e1;have h5:=uE hokn.nodup g1;rw[h3,h5]at h4;exact(bt h4).symm
theorem Il {d:List UInt8} (hv:dH (bl p)=true) (hd:um d (bl p)):qO d<qO (bl p):=by
 have ha:=pT hv;have h1:qO (bl p)=(dd 47 (bl p)).length:=by unfold qO; rw[if_neg ha]
 rcases hd with hd | ⟨r,hr⟩
 ·rw[h1,hd];exact ov 47 _
 ·rw[h1,hr,mK,ai];have h2:=ov 47 r;unfold qO
  split
  ·omega
  ·omega
theorem zI (hokn:un next) (hv:dH (bl p)=true): ∀(f:Nat) (d:ByteArray),um (bl d) (bl p)->(qM k gs c next p f d).length+qO (bl d)<=qO (bl p)
 | 0,d,hd=>by
  show 0+qO (bl d)<=_
  rw[bO];exact eZ (Il hv hd)
 | f+1,d,hd=>by
  have hlt:=Il hv hd;unfold qM;rw[ay];have hfil: ∀e∈(dB next d).filter (fun e=>decide (e.kind=2) && (bl e.path++[47]).isPrefixOf (bl p)),e∈dB next d/\um (bl e.path) (bl p):=fun e he=>by obtain⟨h1,h2⟩:=dQ.1 he;rw[aE]at h2;exact⟨h1,(Im (lT hokn (dY.1 h1).1)).2 h2.2⟩
  have hnd:((dB next d).filter (fun e=>decide (e.kind=2) && (bl e.path++[47]).isPrefixOf (bl p))).Nodup:=by refine List.Nodup.sublist List.filter_sublist (List.Nodup.sublist List.filter_sublist (qw hokn hokn.ord))
  cases hl:(dB next d).filter (fun e=>decide (e.kind=2) && (bl e.path++[47]).isPrefixOf (bl p))with
  | nil=>simp; omega
  | cons e l=>
   have he:=hfil e (by rw[hl]; exact List.mem_cons_self);have ha:l=[]:=by
    cases l with
    | nil=>rfl
    | cons g l=>
     exfalso
     have hg:=hfil g (by rw[hl]; simp);have:=KH hokn he.1 hg.1 he.2 hg.2;rw[hl,gu]at hnd;exact hnd.1 (by rw[this]; simp)
   rw[ha,bC,List.flatMap_nil,cg];have h1:=zI hokn hv f e.path he.2;obtain⟨e1,e2⟩:=dY.1 he.1;have h2:=(Pd (hokn.val e e1) e2).1;omega
end
theorem Fr {n:Nat} (h:n<=127):(bG n).length=1:=by unfold bG jW; rw[if_neg (by omega)]; rfl
structure kE (tree : List dk) : Prop where
 len:tree.length<=12
 data: ∀e∈tree,e.data.length<=60
theorem wl {c:fQ} (hc:jT c=true) (x:List UInt8):(gK c x).length<=x.length:=by
 have h: ∀(l:List (List UInt8)),(∀y∈l,1<=y.length)->l.length<=l.flatten.length:=by
  intro l
  induction l with
  | nil=>simp
  | cons y l ih=>
   intro h;have h1:=h y (by simp);have h2:=ih fun z hz=>h z (by simp[hz])
   rw[iO,ai,ay]; omega
 have:=h (gK c x) fun y hy=>(pG hc x y hy).1
 rw[BN]at this;exact this
theorem My {c:fQ} {x y:List UInt8} (h:y∈gK c x):y.length<=x.length:=by obtain⟨s,t,e⟩:=iE h;have h1:=BN c x;rw[e,List.flatten_append,iO]at h1;rw[<-h1];simp only[ai];omega
theorem JU (r:bY) (h:r.name.size=32):(fK r).length<=54:=by
 have h1:=dG r.gen.toNat
 have h2:=dG r.size.toNat
 unfold fK;simp only[ai,<-bi];omega
section
variable {k : dq} {gs : List (ByteArray × Int)} {c : fQ} {tree : List dk}
theorem Fs (hg:kC gs) {y:List UInt8} (h:y.length<=60):(fK (bF k gs y)).length<=43:=by
 unfold fK;have h1:(bF k gs y).name.size=32:=lG _ _ _;have h2:=BQ hg (ms k 0 y);have h3:(bF k gs y).size=(y.length:Int):=rfl;have h4:=iR (n:=(bF k gs y).gen.toNat) (by
  show(mU gs (ms k 0 y)).toNat<_
  omega)
 rw[ai,ai,<-bi,h1,h3,Fr (n:=(y.length:Int).toNat) (by omega)];omega
theorem yi (hg:kC gs): ∀(l:List (List UInt8)),(∀y∈l,y.length<=60)->((l.map (bF k gs)).flatMap fK).length<=43*l.length
 | [],_=>by simp
 | y::l,h=>by
  have h1:=Fs (k:=k) hg (h y (by simp));have h2:=yi hg l fun z hz=>h z (by simp[hz])
  rw[bS,bC,ai,ay];omega
theorem MT (hg:kC gs) (hc:jT c=true) {d:ByteArray} {e:dk} {nd:bY} (hv:ij e=true) (hp:cu (bl e.path)=bl d) (hd:e.data.length<=60) (hn:nd.name.size=32):(gL (dg k gs c d e nd)).length<=2720:=by
 have hk:=oP (dm hv) hp;have hl:(oR (bl d) (bl e.path)).length<=64:=by have h:=hk.comp;unfold iV at h;simp only[aE,aG]at h;exact h.1.1.1.1.2
 have ha:(bl (dg k gs c d e nd).name).length<=64:=by
  show(bl ⟨(mV (bl d) (bl e.path)).toArray⟩).length<=64
  rw[jQ]; exact hl
 have k1:=dG (dg k gs c d e nd).name.size;have k2:=dG (dg k gs c d e nd).kind.toNat
 have k3:=dG (dg k gs c d e nd).mode.toNat
 have k4:=dG (dg k gs c d e nd).time.toNat
 have ht:(lB (dg k gs c d e nd)).length<=2600:=by
  unfold lB
  show(if e.kind=1 then bG (if e.kind=1 then(gK c e.data).map (bF k gs)else []).length++(if e.kind=1 then(gK c e.data).map (bF k gs)else []).flatMap fK else if e.kind=2 then fK (if e.kind=2 then nd else eL)else bG e.link.size++bl e.link).length<=_
  by_cases h1:e.kind=1
  ·rw[if_pos h1,if_pos h1,ai];have h6:=yi (k:=k) hg (gK c e.data) fun y hy=>by have:=My hy; omega
   have h2:=wl hc e.data;have h3:=dG ((gK c e.data).map (bF k gs)).length;omega
  ·rw[if_neg h1]
   by_cases h2:e.kind=2
   ·rw[if_pos h2,if_pos h2];have:=JU nd hn;omega
   ·rw[if_neg h2];have h3:=dG e.link.size
    rcases xj hv with h4 | h4 | h4
    ·exact absurd h4.1 h1
    ·exact absurd h4.1 h2
    ·have:=h4.2.2.2.1;rw[ai,<-bi];omega
 unfold gL;simp only[ai];omega
theorem mW (hg:kC gs) (hc:jT c=true) (h:un tree) (hs:kE tree) (f:Nat) (d:ByteArray):(dS k gs c tree f d).1.length<=32768:=by
 cases f with
 | zero=>simp[dS]
 | succ f=>
  rw[fi]
  show(gC (nj k gs c tree f d)).length<=32768
  have hl:(dB tree d).length<=tree.length:=dI _ _;have hd:=hs.len;have hf: ∀(L:List dk),(∀e∈L,e∈dB tree d)->((L.map fun e=>dg k gs c d e (bF k gs (dS k gs c tree f e.path).1)).flatMap gL).length<=2720*L.length:=by
   intro L
   induction L with
   | nil=>simp
   | cons e L ih=>
    intro hL;have h1:=ih fun x hx=>hL x (by simp[hx])
    obtain⟨ha,hb⟩:=dY.1 (hL e (by simp));have h2:=MT (k:=k) (gs:=gs) (nd:=bF k gs (dS k gs c tree f e.path).1) hg hc (h.val e ha) hb (hs.data e ha) (lG _ _ _);rw[bS,bC,ai,ay];omega
  have h3:=hf (dB tree d) fun _ he=>he
  have h4:=dG (nj k gs c tree f d).length;unfold gC;rw[ai];have h5:((nj k gs c tree f d).flatMap gL).length<=2720*(dB tree d).length:=h3;omega
theorem nO (hg:kC gs) (hc:jT c=true) (h:un tree) (hs:kE tree): ∀(f:Nat) (d:ByteArray),nA k gs c tree f d=false
 | 0,_=>rfl
 | f+1,d=>by unfold nA;rw[fX,List.any_eq_false,fm];refine⟨fun e _=>by rw[nO hg hc h hs f e.path]; simp, ?_⟩;have:=mW (k:=k) hg hc h hs (f+1) d;omega
theorem kI :kC []:=fun p hp=>by cases hp
theorem vl (hk:jK k=true) (hc:jT c=true) (hg:kC gs) (h:un tree) (hs:kE tree):iA k c tree gs= .ok (bF k gs (dS k gs c tree 514 ⟨#[]⟩).1,dR k gs (dS k gs c tree 514 ⟨#[]⟩).2 []):=by
 have h0:(bl (⟨#[]⟩:ByteArray)).length=0:=rfl;unfold iA;rw[if_pos ⟨hk,hc⟩,if_pos (by rw[cB];intro p hp;have:=hg p hp;simp only[aE,aG];exact this),if_pos (qa.2 h),Iw h hc hg 514 ⟨#[]⟩ (by omega) (by omega),nO hg hc h hs]
 rfl
end
section
variable {k : dq} {gs : List (ByteArray × Int)} {c : fQ} {tree : List dk} {M : List (ByteArray × List UInt8)}
theorem IA {A:dk->List (List UInt8)} {B:dk->List dk} : ∀(L:List dk),(∀e∈L,(A e).length<=61*(B e).length)->(L.flatMap A).length<=61*(L.flatMap B).length
 | [],_=>by simp
 | e::L,h=>by
  have h1:=h e (by simp);have h2:=IA L fun x hx=>h x (by simp[hx])
  rw[bC,bC,ai,ai];omega
theorem Pr {B:dk->List dk} {L:List dk} {e:dk} (he:e∈L):(B e).length<=(L.flatMap B).length:=by obtain⟨s,t,rfl⟩:=iE he;rw[bV,bC,ai,ai];omega
theorem IR (hc:jT c=true) (hs:kE tree): ∀(f:Nat) (d:ByteArray),(dS k gs c tree f d).2.length<=61*(sZ tree f d).length+1
 | 0,d=>by simp[dS]
 | f+1,d=>by
  have hk: ∀e∈dB tree d,(iG k gs c tree f e).length<=61*(e::(if e.kind=2 then sZ tree f e.path else [])).length:=by
   intro e he;unfold iG
   by_cases h1:e.kind=1
   ·rw[if_pos h1];have h2:=wl hc e.data;have h3:=hs.data e (dY.1 he).1;rw[ay];omega
   ·rw[if_neg h1]
    by_cases h2:e.kind=2
    ·rw[if_pos h2,if_pos h2,ay];have:=IR hc hs f e.path;omega
    ·rw[if_neg h2]; simp
  have:=IA (dB tree d) hk;rw[fi]
  show(_++[_]).length<=61*((dB tree d).flatMap fun e=>e::(if e.kind=2 then sZ tree f e.path else [])).length+1
  rw[ai,bT];omega
theorem tU (hc:jT c=true) (hs:kE tree) (h:un tree):(dS k gs c tree 514 ⟨#[]⟩).2.length<=733:=by have h1:=IR (k:=k) (gs:=gs) hc hs 514 ⟨#[]⟩;rw[PG h (by omega)]at h1;have:=hs.len;omega
def InT (k:dq) (gs:List (ByteArray×Int)) (c:fQ) (tree:List dk) (M:List (ByteArray×List UInt8)) (n:Nat) (x:List UInt8):Prop:=(∃e∈tree,e.kind=1/\x∈gK c e.data)\/ ∃f d,(bl d).length<=512/\512<f+(bl d).length/\nA k gs c tree f d=false/\qC k gs M (dS k gs c tree f d).2/\f<=514/\x=(dS k gs c tree f d).1/\(sZ tree f d).length<=n
theorem xz (h:sj k gs c tree): ∀(f:Nat) (d:ByteArray),(bl d).length<=512->512<f+(bl d).length->nA k gs c tree f d=false->qC k gs M (dS k gs c tree f d).2->f<=514-> ∀x∈(dS k gs c tree f d).2,InT k gs c tree M (sZ tree f d).length x
 | 0,d,h1,h2,_,_,_,_,_=>by omega
 | f+1,d,h1,h2,hb,hM,hf,x,hx=>by
  have hx0:=hx;rw[fi]at hx
  rcases aP.1 hx with hx | hx
  ·obtain⟨e,he,hxe⟩:=dt.1 hx;unfold iG at hxe
   by_cases hk1:e.kind=1
   ·rw[if_pos hk1]at hxe;exact .inl ⟨e,(dY.1 he).1,hk1,hxe⟩
   ·rw[if_neg hk1]at hxe
    by_cases hk:e.kind=2
    ·rw[if_pos hk]at hxe;obtain⟨h3,h4,h5⟩:=tO h h2 he;have hb2:=(oG hb).1 e he hk
     rcases xz h f e.path h3 h4 hb2 (fun x hx=>hM x (uF he hk hx)) (by omega) x hxe with h6 | ⟨f',d',a1,a2,a3,a4,a5,a6,a7⟩
     ·exact .inl h6
     ·refine .inr ⟨f',d',a1,a2,a3,a4,a5,a6, ?_⟩;have h7:=Pr (B:=fun e=>e::(if e.kind=2 then sZ tree f e.path else [])) he;simp only[if_pos hk,ay]at h7
      show _<=((dB tree d).flatMap fun e=>e::(if e.kind=2 then sZ tree f e.path else [])).length
      omega
    ·rw[if_neg hk]at hxe
     cases hxe
  ·rw[aL]at hx;refine .inr ⟨f+1,d,h1,h2,hb,hM,hf, ?_,ah _⟩;rw[hx,fi]
end
section
variable {k : dq} {gs : List (ByteArray × Int)}
theorem NG {bs:List cQ} {x:List UInt8} {b:cQ} (h:b∈kh k gs bs x):b∈bs\/b=⟨bF k gs x,x⟩:=by
 unfold kh at h
 split at h
 ·exact .inl h
 ·rcases aP.1 h with h | h
  ·exact .inl h
  ·exact .inr (aL.1 h)
theorem NI {bs:List cQ} {x:List UInt8} {b:cQ} (h:b∈bs):b∈kh k gs bs x:=by
 unfold kh
 split
 ·exact h
 ·exact gd _ h
theorem NH (bs:List cQ) (x:List UInt8):bF k gs x∈(kh k gs bs x).map cQ.ref:=by
 unfold kh
 split
 ·assumption
 ·simp
theorem PI {bs:List cQ} {x:List UInt8} (h:(bs.map cQ.ref).Nodup):((kh k gs bs x).map cQ.ref).Nodup:=by
 unfold kh
 split
 ·exact h
 ·rename_i hn;rw[aI,dX];refine⟨h,by simp,fun a ha b hb=> ?_⟩;simp only[bS,eY,aL]at hb;subst hb;exact fun e=>hn (e▸ha)
theorem zC : ∀(cs:List (List UInt8)) {bs:List cQ} {b:cQ},b∈dR k gs cs bs->b∈bs\/ ∃x∈cs,b=⟨bF k gs x,x⟩
 | [],_,_,h=> .inl h
 | x::cs,bs,b,h=>by
  rcases zC cs (bs:=kh k gs bs x) h with h | ⟨y,hy,e⟩
  ·rcases NG h with h | h
   ·exact .inl h
   ·exact .inr ⟨x,by simp,h⟩
  ·exact .inr ⟨y,by simp[hy],e⟩
theorem zD : ∀(cs:List (List UInt8)) {bs:List cQ} {b:cQ},b∈bs->b∈dR k gs cs bs
 | [],_,_,h=>h
 | x::cs,bs,_b,h=>zD cs (bs:=kh k gs bs x) (NI h)
theorem pC : ∀(cs:List (List UInt8)) {bs:List cQ} {x:List UInt8},x∈cs->bF k gs x∈(dR k gs cs bs).map cQ.ref
 | y::cs,bs,x,h=>by
  rcases aU.1 h with rfl | h
  ·obtain⟨_,hb,e⟩:=aQ.1 (NH (k:=k) (gs:=gs) bs x);exact aQ.2 ⟨_,zD cs hb,e⟩
  ·exact pC cs (bs:=kh k gs bs y) h
theorem wK : ∀(cs:List (List UInt8)) {bs:List cQ},(bs.map cQ.ref).Nodup->((dR k gs cs bs).map cQ.ref).Nodup
 | [],_,h=>h
 | x::cs,bs,h=>wK cs (bs:=kh k gs bs x) (PI h)
end
def LS (k:dq) (gs:List (ByteArray×Int)) (U:List (List UInt8)):Prop:= ∀x∈U,∀y∈U,(bF k gs x).name=(bF k gs y).name->x=y
section
variable {k : dq} {gs : List (ByteArray × Int)}
theorem LS.sub {U V:List (List UInt8)} (h:LS k gs U) (hs: ∀x∈V,x∈U):LS k gs V:=fun x hx y hy e=>h x (hs x hx) y (hs y hy) e
theorem DR : ∀ {bs:List cQ},(bs.map fun b=>b.ref.name).Nodup-> ∀a∈bs,∀b∈bs,a.ref.name=b.ref.name->a=b
 | x::bs,h,a,ha,b,hb,e=>by
  rw[bS,gu]at h
  rcases aU.1 ha with ha1 | ha1
  ·rcases aU.1 hb with hb1 | hb1
   ·rw[ha1,hb1]
   ·rw[ha1]at e;exact absurd (aQ.2 ⟨b,hb1,e.symm⟩) h.1
  ·rcases aU.1 hb with hb1 | hb1
   ·rw[hb1]at e;exact absurd (aQ.2 ⟨a,ha1,e⟩) h.1
   ·exact DR h.2 a ha1 b hb1 e
theorem QK {cs1 cs2:List (List UInt8)} (h1:(io k gs cs2 (io k gs cs1 ([],false))).2=false) (h2:Jn (io k gs cs2 (io k gs cs1 ([],false))).1=false):LS k gs (cs1++cs2):=by
 obtain⟨g1,g2,g3⟩:=uN h1;obtain⟨_,_,f3⟩:=uN g1;have hc: ∀x∈cs1++cs2,∃b∈(io k gs cs2 (io k gs cs1 ([],false))).1,b.ref=bF k gs x/\b.con=x:=fun x hx=>by
  rcases aP.1 hx with hx | hx
  ·obtain⟨b,hb,e⟩:=f3 x hx;exact⟨b,g2 b hb,e⟩
  ·exact g3 x hx
 unfold Jn at h2;rw[Bool.not_eq_false',aG]at h2;intro x hx y hy e;obtain⟨a,ha,hd,he⟩:=hc x hx;obtain⟨b,hb,hf,hg⟩:=hc y hy;rw[<-hd,<-hf]at e;rw[<-he,<-hg,DR h2 a ha b hb e]
theorem wV : ∀(bs:List cQ) (cs:List (ByteArray×List UInt8)),(∀a∈bs,∀b∈bs,a.ref.name=b.ref.name->a.con=b.con)-> ∀b∈bs,dU (bs.foldl (fun cs b=>pq cs b.ref.name b.con) cs) b.ref.name=some b.con
 | a::bs,cs,h,b,hb=>by
  rw[ei]
  by_cases hx: ∃b'∈bs,b'.ref.name=b.ref.name
  ·obtain⟨b',hb',e⟩:=hx;have:=wV bs (pq cs a.ref.name a.con) (fun x hx y hy=>h x (by simp[hx]) y (by simp[hy])) b' hb';rw[e]at this;rw[this,h b' (by simp[hb']) b hb e]
  ·rcases aU.1 hb with rfl | hb
   ·rw[wW bs _ _ fun y hy e=>hx ⟨y,hy,e⟩,rK,if_pos rfl]
   ·exact absurd ⟨b,hb,rfl⟩ hx
def OfC (k:dq) (gs:List (ByteArray×Int)) (U:List (List UInt8)) (bs:List cQ):Prop:= ∀b∈bs,∃x∈U,b=⟨bF k gs x,x⟩
theorem kG (cs:List (List UInt8)):OfC k gs cs (dR k gs cs []):=fun b hb=>by
 rcases zC cs hb with h | h
 ·cases h
 ·exact h
theorem Pi {U:List (List UInt8)} {bs:List cQ} (hn:LS k gs U) (hU:OfC k gs U bs): ∀b∈bs,dU (iH bs) b.ref.name=some b.con:=
 wV bs [] fun a ha b hb e=>by obtain⟨x,hx,rfl⟩:=hU a ha;obtain⟨y,hy,rfl⟩:=hU b hb;exact hn x hx y hy e
theorem xq {U cs:List (List UInt8)} {bs:List cQ} (hn:LS k gs U) (hU:OfC k gs U bs) (hc: ∀x∈cs,x∈U/\bF k gs x∈bs.map cQ.ref):qC k gs (iH bs) cs:=fun x hx=>by obtain⟨h1,h2⟩:=hc x hx;obtain⟨b,hb,e⟩:=aQ.1 h2;obtain⟨y,hy,rfl⟩:=hU b hb;have h3:=Pi hn hU _ hb;simp only at e h3;rw[<-e,h3,hn y hy x h1 (congrArg bY.name e)]
theorem rL {cs:List (List UInt8)} (hn:LS k gs cs):qC k gs (iH (dR k gs cs [])) cs:=
 xq hn (kG cs) fun _x hx=>⟨hx,pC cs hx⟩
end
section
variable {k : dq} {gs : List (ByteArray × Int)} {c : fQ} {tree : List dk}
end
open Go Go.RowKit Go.Maps
def su (x y:List bY):Int×Int:=y.foldl (fun p r=>if r∈x then(wrap64 (p.1+r.size),p.2)else(p.1,wrap64 (p.2+r.size))) (0,0)
theorem PW {x y:List bY} {r:bY} (h:r∈x):su x (y++[r])=(wrap64 ((su x y).1+r.size),(su x y).2):=by unfold su; rw[dW]; simp[h]
theorem Oa {x y:List bY} {r:bY} (h:r∉x):su x (y++[r])=((su x y).1,wrap64 ((su x y).2+r.size)):=by unfold su; rw[dW]; simp[h]
def NZ (a b:Except Int (List bY)):Except Int (Int×Int):=match a with
 | .error x=> .error x
 | .ok x=>match b with
  | .error y=> .error y
  | .ok y=> .ok (su x y)
def LW (res:Except Int (Int×Int)) (w:World) (e:Ending) (w':World):Prop:=Below w.heap.size w w'/\match res with
 | .error x=>e= .returned (.tuple #[.int .i64 0, .int .i64 0, .int .i64 x])/\x≠0
 | .ok p=>e= .returned (.tuple #[.int .i64 p.1, .int .i64 p.2, .int .i64 0])
def sH (cs:List (ByteArray×List UInt8)) (need:bY->Except Int (List bY)) (r:bY):Prop:= ∃n,kK (gq cs) n r=some (need r)/\ ∀p,fB (gq cs) n r ([],[])=some p->p.2.2.length<=1000000000000
theorem sH.refs {cs:List (ByteArray×List UInt8)} {need:bY->Except Int (List bY)} {root:bY} (hn:sH cs need root) (S:Nat->Prop) (cv:Value) (w:World) (hc:fI S w cv cs) (henv:nJ w) (hr:dZ root):Calls Tryz.prog 38 #[eC root,cv] w (rG (need root) w):=by obtain⟨n,h1,h2⟩:=hn;exact NO S cv cs n root (need root) w hc henv hr h1 (fun p hp=>by have:=h2 p hp; omega)
theorem sH.le {cs:List (ByteArray×List UInt8)} {need:bY->Except Int (List bY)} {r:bY} {rs:List bY} (hn:sH cs need r) (h:need r= .ok rs):rs.length<=1000000000000:=by
 obtain⟨n,h1,h2⟩:=hn;rw[h,kK]at h1
 split at h1
 ·rw[ft]at h1;obtain⟨p,h3,h4⟩:=h1
  split at h4
  ·simp only[dj]at h4;subst h4;exact h2 p h3
  ·simp at h4
 ·simp at h1
theorem GA (S:Nat->Prop) (cv:Value) (cs:List (ByteArray×List UInt8)) (need:bY->Except Int (List bY)) (ra rb:bY) (w:World) (hc:fI S w cv cs) (henv:nJ w) (hra:dZ ra) (hrb:dZ rb)
  (hn:sH cs need ra) (hn2:sH cs need rb) (hnd: ∀l,need ra= .ok l->l.Nodup):
  Calls Tryz.prog 45 #[eC ra,eC rb,cv] w (LW (NZ (need ra) (need rb)) w):=by
 have h7:=ag hnd;have hP:=ag hn2;have Hk:= @run_makeMap Tryz.prog;clear hnd hn2;obtain⟨W0,ho⟩:=bH ((w.alloc (.cells #[.string ra.name, .int .i64 ra.gen, .int .i64 ra.size] 26)).alloc (.cells #[.string rb.name, .int .i64 rb.gen, .int .i64 rb.size] 26));have hA:=ag (show Below w.heap.size w W0 by rw[ho]; exact(eT).alloc (by simp) _);have hY:=ag (show W0.heap[w.heap.size]? =some (.cells #[.string ra.name, .int .i64 ra.gen, .int .i64 ra.size] 26 (0,0)) by rw[ho]; exact(cN _ _ _ (by simp)).trans (aC w _))
 have h1:=ag (show W0.heap[w.heap.size+1]? =some (.cells #[.string rb.name, .int .i64 rb.gen, .int .i64 rb.size] 26 (0,0)) by rw[ho]; have:=aC (w.alloc (.cells #[.string ra.name, .int .i64 ra.gen, .int .i64 ra.size] 26)) (.cells #[.string rb.name, .int .i64 rb.gen, .int .i64 rb.size] 26); simpa using this);have HC:=ag hc;have HE:=ag henv;have HN:=ag hn;have h9:=ag hra
 have Ha:=ag hrb;obtain⟨p0,p1,p2,_⟩:=aT hY.o;unfold eC;clear hc henv hn hra hrb
 go_enter Tryz.func45,Tryz.ntmps45
 go_wp2_with fail;rw[<-ho];clear ho;have hT:=HN.o.refs S cv W0 (HC.o.below hA.o) (HE.o.below hA.o) h9.o;have hE:=ag hT;clear hT;unfold eC at hE;refine hE.o.mono ?_;rintro e w1 ⟨hL,hs⟩;have hp:=ag (aj hA.o hL);have h3:=ag (eA hL h1.o);clear hL p0 p1 p2 hE
 cases hx:need ra with
 | error x=>
  rw[hx]at hs;obtain⟨rfl,he⟩:=hs;have hl:=ag (show NZ (need ra) (need rb)= .error x by rw[hx]; rfl);have HX:=ag he;have e1:(x != 0)=true:=by simp[he]
  clear he hx;go_wp2_with fail
  go_ret3
  exact⟨hp.o,by rw[hl.o]; exact⟨rfl,HX.o⟩⟩
 | ok xs=>
  rw[hx]at hs;obtain⟨v,rfl,hv⟩:=hs;have Hc:=ag (HN.o.le hx);have Hd:=ag (h7.o _ hx);have hS:=ag hx;obtain⟨a,cap,rfl,Hj,hm,-⟩:=cU.shape hv pA.len;unfold maxLen at hm;have HV:=ag hv;clear hv hx;obtain⟨p0,p1,p2,_⟩:=aT h3.o;have hU:=hP.o.refs S cv w1 (HC.o.below hp.o) (HE.o.below hp.o) Ha.o;have hF:=ag hU;clear hU;unfold eC at hF;go_wp2_with fail
  refine hF.o.mono ?_;rintro e w2 ⟨hM,hw⟩;clear p0 p1 p2 hF;have hB:=ag (aj hp.o hM);have Hb:=ag (cU.below HV.o (by omega) hM (fun _ _ _ h=>h));clear hM
  cases hy:need rb with
  | error y=>
   rw[hy]at hw;obtain⟨rfl,he⟩:=hw;have hl:=ag (show NZ (need ra) (need rb)= .error y by rw[hS.o,hy]; rfl);have HX:=ag he;have e1:(y != 0)=true:=by simp[he]
   clear he hy;go_wp2_with fail
   go_ret3
   exact⟨hB.o,by rw[hl.o]; exact⟨rfl,HX.o⟩⟩
  | ok ys=>
   rw[hy]at hw;obtain⟨u,rfl,hu⟩:=hw;have He:=ag (hP.o.le hy);have hl:=ag (show NZ (need ra) (need rb)= .ok (su xs ys) by rw[hS.o,hy]; rfl);obtain⟨a2,cap2,rfl,Hf,Hg,-⟩:=cU.shape hu pA.len;unfold maxLen at Hg;have HU:=ag hu;have Hl:=Hc.o;have Hm:=He.o;clear hu hy
   go_upto_region 8 with(fail)
   obtain⟨W,hW⟩:=bH (w2.alloc (.map #[] 0));have h0:=ag (show Below w2.heap.size w2 W by rw[hW]; exact eT);have HK:=ag (show iU W w2.heap.size [] by rw[hW]; exact iU.made w2);rw[<-hW];clear hW;go_wp2_with fail
   go_loopw [14,40] (fun q i wr=> ∃k:Nat,k<=xs.length/\i= .int .i64 k/\Below w2.heap.size w2 wr/\iU wr w2.heap.size (xs.take k)) (fun _ i _=>xs.length-(intOf i).toNat)
   ·exact⟨0,aR _,rfl,h0.o,HK.o⟩
   ·obtain⟨k,hk,rfl,hb,hX⟩:=hrel;have HB:=ag hb;have hH:=ag hX;clear hb hX
    by_cases hO:k<xs.length
    ·obtain⟨r,hr⟩: ∃r,xs[k]? =some r:=⟨xs[k],by simp[hO]⟩;obtain⟨b,o,rfl,ha,q0,q1,q2⟩:=lY Hb.o HB.o hr;have hG:=ag ha;have hq:=ag (dC hr);have h8:=ag (show r∉xs.take k by have h:=Hd.o;rw[<-dA (k+1) xs,dC hr,bg]at h;have h2:=(dX.1 h).2.2;exact fun e=>h2 r e r (by simp) rfl)
     clear hr ha
     go_upto_region 11 with(fail)
     obtain⟨W3,hd⟩:=bH (wr.alloc (.cells #[.string r.name, .int .i64 r.gen, .int .i64 r.size] 26));have hg:Below wr.heap.size wr W3:=by rw[hd]; exact eT
     have hD:=ag (show W3.heap[wr.heap.size]? =some (.cells #[.string r.name, .int .i64 r.gen, .int .i64 r.size] 26 (0,0)) by rw[hd]; exact aC wr _);have hf:=ag (aj HB.o hg);have hI:=ag (hH.o.same (hg.block _ hH.o.map.lt));rw[<-hd];obtain⟨p0,p1,p2,_⟩:=aT hD.o;have Hi:=hf.o.size;clear hd hg q0 q1 q2;go_wp2_with (refine kq rfl _ _ _ rfl w2.heap.size _ hI.o (by go_simp) r hG.o (by go_simp; rfl) (by go_simp) h8.o ?_; intro w4 h4 hV; have hJ:=ag (show iU w4 w2.heap.size (xs.take (k+1)) by rw[hq.o]; exact h4); have hZ:=ag (hf.o.grown hV Hi (fun j hj=>by cases hj; omega)); clear h4 hV)
     go_roundw
     ·exact⟨k+1,by omega,by go_num,hZ.o,hJ.o⟩
     simp[intOf]; omega
    ·obtain rfl:k=xs.length:=by omega
     have hR:=ag (show iU wr w2.heap.size xs by have:=hH.o; rwa [bo (ah _)]at this);obtain⟨w5,Hh⟩:=bH wr;subst Hh;go_wp2_with fail
     go_loopw [15,16,18,49] (fun p q z i wr=> ∃k:Nat,k<=ys.length/\i= .int .i64 k/\p= .int .i64 (su xs (ys.take k)).1/\q= .int .i64 (su xs (ys.take k)).2/\Below w5.heap.size w5 wr) (fun _ _ _ i _=>ys.length-(intOf i).toNat)
     ·exact⟨0,aR _,rfl,rfl,rfl,ak _ _⟩
     ·obtain⟨k,hk,rfl,rfl,rfl,hb⟩:=hrel;have hC:=ag hb;clear hb
      by_cases hO:k<ys.length
      ·obtain⟨r,hr⟩: ∃r,ys[k]? =some r:=⟨ys[k],by simp[hO]⟩;obtain⟨b,o,rfl,ha,q0,q1,q2⟩:=lY HU.o (HB.o.trans (hC.o.mono HB.o.size)) hr;have hG:=ag ha;have hq:=ag (dC hr);clear hr ha
       go_upto_region 17 with(fail)
       obtain⟨W3,hd⟩:=bH (wr.alloc (.cells #[.string r.name, .int .i64 r.gen, .int .i64 r.size] 26));have hg:Below wr.heap.size wr W3:=by rw[hd]; exact eT
       have hD:=ag (show W3.heap[wr.heap.size]? =some (.cells #[.string r.name, .int .i64 r.gen, .int .i64 r.size] 26 (0,0)) by rw[hd]; exact aC wr _);have hf:=ag (aj hC.o hg);have hN:=(hR.o.same (hf.o.block _ hR.o.map.lt)).look hG.o;rw[<-hd];obtain⟨p0,p1,p2,_⟩:=aT hD.o;unfold eC at hN;clear hd hg q0 q1 q2
       by_cases hh:r∈xs
       ·have e1:decide (r∈xs)=true:=by simp[hh]
        rw[e1]at hN;have HS:=ag (PW (y:=ys.take k) hh);rw[<-hq.o]at HS;clear hh e1;go_wp2_with fail
        go_roundw
        ·exact⟨k+1,by omega,by go_num,by rw[HS.o],by rw[HS.o],hf.o⟩
        simp[intOf]; omega
       ·have e1:decide (r∈xs)=false:=by simp[hh]
        rw[e1]at hN;have HS:=ag (Oa (y:=ys.take k) hh);rw[<-hq.o]at HS;clear hh e1;go_wp2_with fail
        go_roundw
        ·exact⟨k+1,by omega,by go_num,by rw[HS.o],by rw[HS.o],hf.o⟩
        simp[intOf]; omega
      ·obtain rfl:k=ys.length:=by omega
       go_wp2_with fail
       go_ret3
       have hz:=hB.o.size;refine⟨aj hB.o (HB.o.trans (hC.o.mono HB.o.size)), ?_⟩;rw[hl.o,bo (ah _)]
       rfl
end
section
open Go.RowKit
theorem AC {α:Type} [DecidableEq α]: ∀ {l U:List α},l.Nodup->(∀x∈l,x∈U)->l.length<=U.length
 | [],_,_,_=>aR _
 | a::l,U,hn,hs=>by obtain⟨h1,h2⟩:=gu.1 hn;have ha:a∈U:=hs a (by simp);have h3:=AC (l:=l) (U:=U.erase a) h2 (fun x hx=>(List.mem_erase_of_ne (fun e=>by subst e; exact h1 hx)).2 (hs x (by simp[hx])));have h4:=List.length_erase_of_mem ha;have h5:0<U.length:=List.length_pos_of_mem ha;simp only[ay];omega
theorem yz {f:bY->Int} : ∀ {l r:List bY},l.Nodup->r.Nodup->(∀x,x∈l<->x∈r)->(l.map f).sum=(r.map f).sum
 | [],r,_,_,h=>by
  cases r with
  | nil=>rfl
  | cons a r=>exact absurd ((h a).2 (by simp)) (by simp)
 | a::l,r,hl,hr,h=>by
  obtain⟨h1,h2⟩:=gu.1 hl;obtain⟨s,t,rfl⟩:=iE ((h a).1 (by simp));have hn:=hr;rw[dX]at hn;obtain⟨n1,n2,n3⟩:=hn;obtain⟨n4,n5⟩:=gu.1 n2;have n6:a∉s:=fun hs=>n3 a hs a (by simp) rfl
  have ih:=yz (f:=f) (l:=l) (r:=s++t) h2 (dX.2 ⟨n1,n5,fun x hx y hy=>n3 x hx y (by simp[hy])⟩) fun x=>by
   have hx:=h x;simp only[aU,aP]at hx ⊢
   constructor
   ·intro hm
    rcases hx.1 (.inr hm)with h3 | h3 | h3
    ·exact .inl h3
    ·subst h3; exact absurd hm h1
    ·exact .inr h3
   ·intro hm;have h4:x=a\/x∈l:=hx.2 (hm.elim .inl (fun h=> .inr (.inr h)))
    rcases h4 with h4 | h4
    ·subst h4
     rcases hm with hm | hm
     ·exact absurd hm n6
     ·exact absurd hm n4
    ·exact h4
  rw[bS,List.sum_cons,ih,aI,aI,bS,List.sum_append,List.sum_append,List.sum_cons];omega
def inZ (x:List bY) (r:bY):Int:=if r∈x then r.size else 0
def Nv (x:List bY) (r:bY):Int:=if r∈x then 0 else r.size
theorem yu (x:List bY): ∀(y:List bY) (a b:Int),0<=a->0<=b->(∀r∈y,0<=r.size/\r.size<=1000000)->a+b+1000000*(y.length:Int)<=9223372036854775807->
  y.foldl (fun p r=>if r∈x then(wrap64 (p.1+r.size),p.2)else(p.1,wrap64 (p.2+r.size))) (a,b)=(a+(y.map (inZ x)).sum,b+(y.map (Nv x)).sum)
 | [],a,b,_,_,_,_=>by simp
 | r::y,a,b,ha,hb,hs,hl=>by
  obtain⟨h1,h2⟩:=hs r (by simp);rw[ay]at hl;rw[ei,bS,bS,List.sum_cons,List.sum_cons]
  by_cases hr:r∈x
  ·have e1:wrap64 (a+r.size)=a+r.size:=by unfold wrap64; omega
   rw[if_pos hr];simp only;rw[e1,yu x y (a+r.size) b (by omega) hb (fun q hq=>hs q (by simp[hq])) (by omega)];unfold inZ Nv;rw[if_pos hr,if_pos hr]
   ext<;> simp<;> omega
  ·have e1:wrap64 (b+r.size)=b+r.size:=by unfold wrap64; omega
   rw[if_neg hr];simp only;rw[e1,yu x y a (b+r.size) ha (by omega) (fun q hq=>hs q (by simp[hq])) (by omega)];unfold inZ Nv;rw[if_neg hr,if_neg hr]
   ext<;> simp<;> omega
theorem PX {x y:List bY} (hs: ∀r∈y,0<=r.size/\r.size<=1000000) (hl:y.length<=1000000):su x y=((y.map (inZ x)).sum,(y.map (Nv x)).sum):=by have:=yu x y 0 0 (by omega) (by omega) hs (by omega);unfold su;rw[this];simp
theorem Mt {bs:List cQ} {n:ByteArray} (h:dU (iH bs) n≠none): ∃a∈bs,a.ref.name=n:=by
 refine Classical.byContradiction fun hx=>h ?_
 exact wW bs [] n fun b hb e=>hx ⟨b,hb,e⟩
section
variable {k : dq} {gs : List (ByteArray × Int)} {c : fQ} {tree next : List dk} {p : ByteArray}
theorem Dm {cs1 cs2:List (List UInt8)} (hn:LS k gs (cs1++cs2)) {b:cQ} (hb:b∈dR k gs cs2 []):(dU (iH (dR k gs cs1 [])) b.ref.name).isSome=decide (b.con∈cs1):=by
 obtain⟨y,hy,rfl⟩:=kG cs2 b hb;simp only
 by_cases h:y∈cs1
 ·rw[rL (hn.sub fun x hx=>by simp[hx]) y h];simp[h]
 ·rw[cE h,Option.isSome_eq_false_iff,Option.isNone_iff_eq_none];refine Classical.byContradiction fun hc=>h ?_
  obtain⟨a,ha,e⟩:=Mt hc;obtain⟨x,hx,rfl⟩:=kG cs1 a ha;rw[<-hn x (by simp[hx]) y (by simp[hy]) e];exact hx
def ow (x y:List cQ):Int:=(y.map fun b=>if(dU (iH x) b.ref.name).isSome then(b.con.length:Int)else 0).sum
def lH (x y:List cQ):Int:=(y.map fun b=>if(dU (iH x) b.ref.name).isSome then 0 else(b.con.length:Int)).sum
def lE (x y:List cQ):List cQ:=y.filter fun b=> !(dU (iH x) b.ref.name).isSome
theorem Ph (h:sj k gs c tree) (hs:kE tree) {M:List (ByteArray×List UInt8)} (hM:qC k gs M (dS k gs c tree 514 ⟨#[]⟩).2): ∀x∈(dS k gs c tree 514 ⟨#[]⟩).2,x.length<=32768:=by
 intro x hx;have hz:(bl ⟨#[]⟩).length=0:=rfl
 rcases xz h 514 ⟨#[]⟩ (by omega) (by omega) (nO h.gens h.cut h.ok hs _ _) hM (ah _) x hx with⟨e,he,_,h6⟩ | ⟨f',d',a1,a2,a3,a4,a5,a6,a7⟩
 ·exact(pG h.cut _ _ h6).2
 ·rw[a6];exact mW h.gens h.cut h.ok hs f' d'
theorem Ln (h:sj k gs c tree) (h2:sj k gs c next) (hs:kE tree) (hs2:kE next) (hn:LS k gs ((dS k gs c tree 514 ⟨#[]⟩).2++(dS k gs c next 514 ⟨#[]⟩).2)) {x y:List cQ} (hx:x=dR k gs (dS k gs c tree 514 ⟨#[]⟩).2 []) (hy:y=dR k gs (dS k gs c next 514 ⟨#[]⟩).2 []):
  ∃ra rb,oV (iH (x++y)) (bF k gs (dS k gs c tree 514 ⟨#[]⟩).1)= .ok ra/\oV (iH (x++y)) (bF k gs (dS k gs c next 514 ⟨#[]⟩).1)= .ok rb/\ra.Nodup/\rb.Nodup/\ra.length<=733/\rb.length<=733/\su ra rb=(ow x y,lH x y):=by
 obtain⟨cs1,ha⟩:=bH ((dS k gs c tree 514 ⟨#[]⟩).2);obtain⟨cs2,hc⟩:=bH ((dS k gs c next 514 ⟨#[]⟩).2);have n1:=tU (k:=k) (gs:=gs) h.cut hs h.ok;have n2:=tU (k:=k) (gs:=gs) h2.cut hs2 h2.ok;rw[<-ha,<-hc]at hn;rw[<-ha]at hx n1;rw[<-hc]at hy n2;have hU:OfC k gs (cs1++cs2) (x++y):=fun b hb=>by
  rw[hx,hy]at hb
  rcases aP.1 hb with hb | hb
  ·obtain⟨z,hz,e⟩:=kG cs1 b hb;exact⟨z,by simp[hz],e⟩
  ·obtain⟨z,hz,e⟩:=kG cs2 b hb;exact⟨z,by simp[hz],e⟩
 have hg:qC k gs (iH (x++y)) cs1:=xq hn hU fun z hz=>⟨by simp[hz],by rw[aI,hx]; exact gd _ (pC cs1 hz)⟩
 have he:qC k gs (iH (x++y)) cs2:=xq hn hU fun z hz=>⟨by simp[hz],by rw[aI,hy]; exact jV _ (pC cs2 hz)⟩
 rw[ha]at hg;rw[hc]at he;obtain⟨ra,hm,na⟩:=DU h (nO h.gens h.cut h.ok hs _ _) hg;obtain⟨rb,ho,nb⟩:=DU h2 (nO h2.gens h2.cut h2.ok hs2 _ _) he;have hk:=mX (U:=cs1.map (bF k gs)) na.nodup fun r hr=>by obtain⟨z,hz,e⟩:=(na.all r).1 hr;exact aQ.2 ⟨z,ha▸hz,e.symm⟩
 have hl:=mX (U:=cs2.map (bF k gs)) nb.nodup fun r hr=>by obtain⟨z,hz,e⟩:=(nb.all r).1 hr;exact aQ.2 ⟨z,hc▸hz,e.symm⟩
 rw[aw]at hk hl;have hj: ∀r,r∈rb<->r∈y.map cQ.ref:=fun r=>by
  rw[nb.all r,<-hc,hy]
  constructor
  ·rintro⟨z,hz,rfl⟩;exact pC cs2 hz
  ·intro hr;obtain⟨b,hb,rfl⟩:=aQ.1 hr;obtain⟨z,hz,rfl⟩:=kG cs2 b hb;exact⟨z,hz,rfl⟩
 have hd:(y.map cQ.ref).Nodup:=by rw[hy]; exact wK cs2 (by simp)
 have hp: ∀r∈rb,0<=r.size/\r.size<=1000000:=fun r hr=>by obtain⟨z,hz,rfl⟩:=(nb.all r).1 hr;have h3:=Ph h2 hs2 he z hz;have h4:(bF k gs z).size=(z.length:Int):=rfl;omega
 have hh: ∀b∈y,(b.ref∈ra<->(dU (iH x) b.ref.name).isSome=true)/\b.ref.size=(b.con.length:Int):=fun b hb=>by
  have hf:=hb;rw[hy]at hf;rw[hx,Dm hn hf,aG];obtain⟨z,hz,rfl⟩:=kG cs2 b hf;refine⟨?_,rfl⟩;simp only;rw[na.all,<-ha]
  constructor
  ·rintro⟨v,hv,e⟩;rw[hn z (by simp[hz]) v (by simp[hv]) (congrArg bY.name e)];exact hv
  ·intro hv;exact⟨z,hv,rfl⟩
 refine⟨ra,rb,hm,ho,na.nodup,nb.nodup,by omega,by omega, ?_⟩;rw[PX hp (by omega),yz nb.nodup hd hj,yz nb.nodup hd hj,gV,gV];unfold ow lH
 congr 1
 ·congr 1
  refine List.map_congr_left fun b hb=> ?_
  obtain⟨e1,e2⟩:=hh b hb;simp only[Function.comp,inZ,e1,e2]
 ·congr 1
  refine List.map_congr_left fun b hb=> ?_
  obtain⟨e1,e2⟩:=hh b hb;simp only[Function.comp,Nv,e1,e2]
theorem JZ (h:sj k gs c tree) (h2:sj k gs c next) (ho:sI tree next p) (hv:dH (bl p)=true) (hemp: ∀g∈next,g.path=p->g.data=[]) (hn:LS k gs ((dS k gs c tree 514 ⟨#[]⟩).2++(dS k gs c next 514 ⟨#[]⟩).2)) {x y:List cQ} (hx:x=dR k gs (dS k gs c tree 514 ⟨#[]⟩).2 []) (hy:y=dR k gs (dS k gs c next 514 ⟨#[]⟩).2 []):
  (lE x y).length<=qO (bl p):=by
 have hd:um (bl ⟨#[]⟩) (bl p):= .inl rfl;have h3:=zI (k:=k) (gs:=gs) (c:=c) h2.ok hv 514 ⟨#[]⟩ hd;have hf:((lE x y).map cQ.ref).Nodup:=by
  have:(y.map cQ.ref).Nodup:=by rw[hy]; exact wK _ (by simp)
  exact this.sublist (List.filter_sublist.map _)
 have ha: ∀b∈lE x y,b.ref=bF k gs b.con/\b.con∈qM k gs c next p 514 ⟨#[]⟩:=fun b hb=>by
  obtain⟨hc,he⟩:=dQ.1 hb;rw[hy]at hc;rw[hx,Dm hn hc,gh,fm]at he;obtain⟨z,hz,rfl⟩:=kG _ b hc;refine⟨rfl, ?_⟩
  rcases AA ho h.ok h2.ok hemp 514 ⟨#[]⟩ hd z hz with h4 | h4
  ·exact absurd h4 he
  ·exact h4
 have hg:((lE x y).map cQ.con).Nodup:=by
  have h5:(lE x y).map cQ.ref=((lE x y).map cQ.con).map (bF k gs):=by rw[gV];exact List.map_congr_left fun b hb=>(ha b hb).1
  rw[h5]at hf;exact List.Pairwise.imp (fun {a b} hab e=>hab (by rw[e])) (fz.1 hf)
 have h6:=AC hg (U:=qM k gs c next p 514 ⟨#[]⟩) fun z hz=>by obtain⟨b,hb,rfl⟩:=aQ.1 hz;exact(ha b hb).2
 rw[aw]at h6;omega
end
def uM (e:dk) (data:List UInt8) (tm:Int):dk:=⟨e.path,e.kind,e.mode,tm,data,e.link⟩
section
variable {tree : List dk} {m : Nat} {e : dk} {data : List UInt8} {tm : Int}
theorem Ci (he:tree[m]? =some e) {i:Nat} {g:dk} (hg:(tree.set m (uM e data tm))[i]? =some g):(i=m/\g=uM e data tm)\/(i≠m/\tree[i]? =some g):=by
 rw[List.getElem?_set]at hg
 by_cases h:m=i
 ·rw[if_pos h]at hg;have ha:=(aA.1 he).1;rw[if_pos ha]at hg;exact .inl ⟨h.symm,(bt hg).symm⟩
 ·rw[if_neg h]at hg;exact .inr ⟨fun e=>h e.symm,hg⟩
theorem xV (he:tree[m]? =some e) (hk:e.kind=1):sI tree (tree.set m (uM e data tm)) e.path:=by
 refine⟨List.length_set,fun i a g ha hg=> ?_⟩
 rcases Ci he hg with⟨rfl,rfl⟩ | ⟨_,h⟩
 ·rw[he]at ha
  cases ha
  exact⟨rfl,rfl, .inr ⟨rfl,hk⟩⟩
 ·rw[h]at ha
  cases ha
  exact⟨rfl,rfl, .inl rfl⟩
theorem Po {p:List UInt8} : ∀ {a b:List dk},a.length=b.length->(∀(i:Nat) (x y:dk),b[i]? =some x->a[i]? =some y->y.path=x.path/\y.kind=x.kind)->mD a p=mD b p:=by
 have key: ∀(q:ByteArray) (a b:List dk),a.length=b.length->(∀(i:Nat) (x y:dk),b[i]? =some x->a[i]? =some y->y.path=x.path/\y.kind=x.kind)->(jJ a q).map dk.kind=(jJ b q).map dk.kind:=by
  intro q a
  induction a with
  | nil=>
   intro b hl _
   cases b with
   | nil=>rfl
   | cons=>simp at hl
  | cons y a ih=>
   intro b hl hx
   cases b with
   | nil=>simp at hl
   | cons x b=>
    obtain⟨h0,h1⟩:=hx 0 x y rfl rfl;have h2:=ih b (by simpa using hl) fun i x' y' h3 h4=>hx (i+1) x' y' (by simpa using h3) (by simpa using h4)
    unfold jJ at h2 ⊢;rw[List.find?_cons,List.find?_cons,h0]
    cases decide (x.path=q)with
    | true=>simp only[dE,h1]
    | false=>exact h2
 intro a b hl hx;have:=key ⟨p.toArray⟩ a b hl hx;unfold mD
 split
 ·rfl
 ·cases ha:jJ a ⟨p.toArray⟩with
  | none=>
   cases hb:jJ b ⟨p.toArray⟩with
   | none=>rfl
   | some y=>rw[ha,hb]at this; simp at this
  | some x=>
   cases hb:jJ b ⟨p.toArray⟩with
   | none=>rw[ha,hb]at this; simp at this
   | some y=>
    rw[ha,hb]at this;simp only[dE,aV]at this;simp only[this]
theorem Pz (h:un tree) (he:tree[m]? =some e) (hk:e.kind=1) (hd:data.length<=1048576) (ht:0<=tm):un (tree.set m (uM e data tm)):=by
 have hl:(tree.set m (uM e data tm)).length=tree.length:=List.length_set;have hc: ∀(i:Nat) (x y:dk),tree[i]? =some x->(tree.set m (uM e data tm))[i]? =some y->y.path=x.path/\y.kind=x.kind:=fun i x y hx hy=>by obtain⟨h1,h2,_⟩:=(xV (data:=data) (tm:=tm) he hk).at' i x y hx hy;exact⟨h1,h2⟩
 have ha: ∀(i:Nat) (y:dk),(tree.set m (uM e data tm))[i]? =some y-> ∃x,tree[i]? =some x/\y.path=x.path:=fun i y hy=>by have hi:=(aA.1 hy).1;rw[hl]at hi;exact⟨tree[i],bn hi,(hc i _ y (bn hi) hy).1⟩
 have hb:=h.val e (aM he);have hf: ∀g∈tree.set m (uM e data tm),ij g=true/\ ∃x∈tree,g.path=x.path:=fun g hg=>by
  obtain⟨i,hi⟩:=List.mem_iff_getElem?.1 hg
  rcases Ci he hi with⟨_,rfl⟩ | ⟨_,h1⟩
  ·refine⟨?_,e,aM he,rfl⟩;unfold ij at hb ⊢;simp only[aE]at hb ⊢;refine⟨⟨hb.1.1, ?_⟩, ?_⟩
   ·have h2:=hb.1.2;unfold oy at h2 ⊢
    show(decide (0<=e.mode) && decide (e.mode<=511) && decide (0<=tm))=true
    simp only[aE,aG]at h2 ⊢;exact⟨h2.1,ht⟩
   ·have h2:=hb.2;unfold kY at h2 ⊢
    show(if e.kind=1 then decide (data.length<=1048576) && decide (e.link.size=0)else _)=true
    rw[if_pos hk]at h2 ⊢;simp only[aE,aG]at h2 ⊢;exact⟨hd,h2.2⟩
  ·exact⟨h.val g (aM h1),g,aM h1,rfl⟩
 refine⟨?_,fun g hg=>(hf g hg).1,fun g hg=> ?_,by rw[hl]; exact h.len⟩
 ·refine List.pairwise_iff_getElem.2 fun i j hi hj hh=> ?_
  obtain⟨x,hx,ex⟩:=ha i _ (bn hi);obtain⟨y,hy,ey⟩:=ha j _ (bn hj);obtain⟨hn,hm⟩:=aA.1 hx;obtain⟨hp,ho⟩:=aA.1 hy;have:=List.pairwise_iff_getElem.1 h.ord i j hn hp hh;rw[hm,ho]at this;unfold nC at this ⊢;rw[ex,ey];exact this
 ·obtain⟨_,x,hx,e1⟩:=hf g hg;rw[e1,Po hl hc];exact h.up x hx
theorem FW (hs:kE tree) (he:tree[m]? =some e) (hd:data.length<=60):kE (tree.set m (uM e data tm)):=by
 refine⟨by rw[List.length_set]; exact hs.len,fun g hg=> ?_⟩;obtain⟨i,hi⟩:=List.mem_iff_getElem?.1 hg
 rcases Ci he hi with⟨_,rfl⟩ | ⟨_,h1⟩
 ·exact hd
 ·exact hs.data g (aM h1)
theorem Nj (h:un tree) (he:tree[m]? =some e) (hd:data=[]): ∀g∈tree.set m (uM e data tm),g.path=e.path->g.data=[]:=by
 intro g hg hp;obtain⟨i,hi⟩:=List.mem_iff_getElem?.1 hg
 rcases Ci he hi with⟨_,rfl⟩ | ⟨h0,h1⟩
 ·exact hd
 ·exfalso
  have hc:=h.nodup;have ha:(tree.map dk.path)[i]? =some e.path:=by rw[bm,h1,<-hp]; rfl
  have hb:(tree.map dk.path)[m]? =some e.path:=by rw[bm,he]; rfl
  exact h0 ((List.getElem?_inj (aA.1 ha).1 hc).1 (ha.trans hb.symm))
end
theorem vL (c:UInt8): ∀(l:List UInt8),(dd c l).length=l.count c+1
 | []=>rfl
 | x::l=>by
  have ih:=vL c l;unfold dd
  by_cases h:x=c
  ·rw[if_pos h,ay,ih,h,List.count_cons_self]
  ·rw[if_neg h,List.count_cons_of_ne (by simpa using h)]
   cases hs:dd c l with
   | nil=>rw[hs]at ih; simp at ih
   | cons a b=>rw[hs]at ih; simpa using ih
theorem JP {p:List UInt8} (h:p≠[]):qO p=p.count 47+1:=by unfold qO;rw[if_neg h,vL]
open Go Go.RowKit
theorem kn {x a b:Nat} {s:Nat} (ha:2^s=a) (hb:2^(32-s)=b) (hx:x<4294967296):bits .or .u32 ((x:Int)/(b:Int)) ((x:Int)*(a:Int)%4294967296)=((gQ x s:Nat):Int):=by
 rw[show((x:Int)*(a:Int)%4294967296)=((x*a%4294967296:Nat):Int) by simp,show((x:Int)/(b:Int))=((x/b:Nat):Int) by simp,
  u32_or_nat _ _ (dM (fc _ _) hx) (cZ _ (by decide)),Nat.or_comm]
 unfold gQ; rw[ha,hb]
theorem Gu (x:Nat) (w:World) (hx:x<4294967296):Calls Tryz.prog 218 #[.int .u32 (x:Int), .int .i64 17] w fun e w'=>e= .returned (.int .u32 ((gQ x 15:Nat):Int))/\ ∃m,w'=w.drewN m:=by
 have hw:IntKind.i64.wrap 15=15:=by decide
 go_enter gG,fT
 go_wp2_with fail
 go_quiet (fail)
 go_wp2_with fail;go_ret;refine⟨?_,_,rfl⟩;rw[<-kn (a:=32768) (b:=131072) (by decide) (by decide) hx]
 rfl
theorem Gs (x:Nat) (w:World) (hx:x<4294967296):Calls Tryz.prog 218 #[.int .u32 (x:Int), .int .i64 19] w fun e w'=>e= .returned (.int .u32 ((gQ x 13:Nat):Int))/\ ∃m,w'=w.drewN m:=by
 have hw:IntKind.i64.wrap 13=13:=by decide
 go_enter gG,fT
 go_wp2_with fail
 go_quiet (fail)
 go_wp2_with fail;go_ret;refine⟨?_,_,rfl⟩;rw[<-kn (a:=8192) (b:=524288) (by decide) (by decide) hx]
 rfl
theorem Gx (x:Nat) (w:World) (hx:x<4294967296):Calls Tryz.prog 218 #[.int .u32 (x:Int), .int .i64 7] w fun e w'=>e= .returned (.int .u32 ((gQ x 25:Nat):Int))/\ ∃m,w'=w.drewN m:=by
 have hw:IntKind.i64.wrap 25=25:=by decide
 go_enter gG,fT
 go_wp2_with fail
 go_quiet (fail)
 go_wp2_with fail;go_ret;refine⟨?_,_,rfl⟩;rw[<-kn (a:=33554432) (b:=128) (by decide) (by decide) hx]
 rfl
theorem Gt (x:Nat) (w:World) (hx:x<4294967296):Calls Tryz.prog 218 #[.int .u32 (x:Int), .int .i64 18] w fun e w'=>e= .returned (.int .u32 ((gQ x 14:Nat):Int))/\ ∃m,w'=w.drewN m:=by
 have hw:IntKind.i64.wrap 14=14:=by decide
 go_enter gG,fT
 go_wp2_with fail
 go_quiet (fail)
 go_wp2_with fail;go_ret;refine⟨?_,_,rfl⟩;rw[<-kn (a:=16384) (b:=262144) (by decide) (by decide) hx]
 rfl
theorem Gy (x:Nat) (w:World) (hx:x<4294967296):Calls Tryz.prog 218 #[.int .u32 (x:Int), .int .i64 6] w fun e w'=>e= .returned (.int .u32 ((gQ x 26:Nat):Int))/\ ∃m,w'=w.drewN m:=by
 have hw:IntKind.i64.wrap 26=26:=by decide
 go_enter gG,fT
 go_wp2_with fail
 go_quiet (fail)
 go_wp2_with fail;go_ret;refine⟨?_,_,rfl⟩;rw[<-kn (a:=67108864) (b:=64) (by decide) (by decide) hx]
 rfl
theorem Gw (x:Nat) (w:World) (hx:x<4294967296):Calls Tryz.prog 218 #[.int .u32 (x:Int), .int .i64 11] w fun e w'=>e= .returned (.int .u32 ((gQ x 21:Nat):Int))/\ ∃m,w'=w.drewN m:=by
 have hw:IntKind.i64.wrap 21=21:=by decide
 go_enter gG,fT
 go_wp2_with fail
 go_quiet (fail)
 go_wp2_with fail;go_ret;refine⟨?_,_,rfl⟩;rw[<-kn (a:=2097152) (b:=2048) (by decide) (by decide) hx]
 rfl
theorem Lg (x:Nat) (w:World) (hx:x<4294967296):Calls Tryz.prog 218 #[.int .u32 (x:Int), .int .i64 25] w fun e w'=>e= .returned (.int .u32 ((gQ x 7:Nat):Int))/\ ∃m,w'=w.drewN m:=by
 have hw:IntKind.i64.wrap 7=7:=by decide
 go_enter gG,fT
 go_wp2_with fail
 go_quiet (fail)
 go_wp2_with fail;go_ret;refine⟨?_,_,rfl⟩;rw[<-kn (a:=128) (b:=33554432) (by decide) (by decide) hx]
 rfl
theorem Gz (x:Nat) (w:World) (hx:x<4294967296):Calls Tryz.prog 218 #[.int .u32 (x:Int), .int .i64 2] w fun e w'=>e= .returned (.int .u32 ((gQ x 30:Nat):Int))/\ ∃m,w'=w.drewN m:=by
 have hw:IntKind.i64.wrap 30=30:=by decide
 go_enter gG,fT
 go_wp2_with fail
 go_quiet (fail)
 go_wp2_with fail;go_ret;refine⟨?_,_,rfl⟩;rw[<-kn (a:=1073741824) (b:=4) (by decide) (by decide) hx]
 rfl
theorem Gv (x:Nat) (w:World) (hx:x<4294967296):Calls Tryz.prog 218 #[.int .u32 (x:Int), .int .i64 13] w fun e w'=>e= .returned (.int .u32 ((gQ x 19:Nat):Int))/\ ∃m,w'=w.drewN m:=by
 have hw:IntKind.i64.wrap 19=19:=by decide
 go_enter gG,fT
 go_wp2_with fail
 go_quiet (fail)
 go_wp2_with fail;go_ret;refine⟨?_,_,rfl⟩;rw[<-kn (a:=524288) (b:=8192) (by decide) (by decide) hx]
 rfl
theorem Gr (x:Nat) (w:World) (hx:x<4294967296):Calls Tryz.prog 218 #[.int .u32 (x:Int), .int .i64 22] w fun e w'=>e= .returned (.int .u32 ((gQ x 10:Nat):Int))/\ ∃m,w'=w.drewN m:=by
 have hw:IntKind.i64.wrap 10=10:=by decide
 go_enter gG,fT
 go_wp2_with fail
 go_quiet (fail)
 go_wp2_with fail;go_ret;refine⟨?_,_,rfl⟩;rw[<-kn (a:=1024) (b:=4194304) (by decide) (by decide) hx]
 rfl
def yk (x:Nat) (n:Int):Nat:=gQ x (32-n.toNat)
theorem pQ (x:Nat) (n:Int) (w:World) (hx:x<4294967296) (hn:n=7\/n=18\/n=17\/n=19\/n=6\/n=11\/n=25\/n=2\/n=13\/n=22):Calls Tryz.prog 218 #[.int .u32 (x:Int), .int .i64 n] w fun e w'=>e= .returned (.int .u32 ((yk x n:Nat):Int))/\ ∃m,w'=w.drewN m:=by
 rcases hn with rfl | rfl | rfl | rfl | rfl | rfl | rfl | rfl | rfl | rfl
 ·exact Gx x w hx
 ·exact Gt x w hx
 ·exact Gu x w hx
 ·exact Gs x w hx
 ·exact Gy x w hx
 ·exact Gw x w hx
 ·exact Lg x w hx
 ·exact Gz x w hx
 ·exact Gv x w hx
 ·exact Gr x w hx
def nF :Array Value:=(kc.map fp).toArray
theorem MX :Tryz.prog.built 252 ((kc.map fp).zipIdx.map fun p=>(p.2,p.1))=some nF:=by kernel_rfl
theorem yS (w:World):Calls Tryz.prog 217 #[] w fun e w'=>e= .returned (.agg nF)/\Below w.heap.size w w':=by
 go_enter Tryz.func217,Tryz.ntmps217
 obtain⟨W0,ha⟩:=bH (w.alloc (.cells (List.replicate 64 (fp 0)).toArray 252));have hb:=ag (show W0.heap[w.heap.size]? =some (.cells (List.replicate 64 (fp 0)).toArray 252 (0,0)) by rw[ha]; exact aC w _);have HB:=ag (show Below w.heap.size w W0 by rw[ha]; exact eT)
 go_upto_region 1 with(fail)
 change Code.wp _ _ _ _ (w.alloc (.cells (List.replicate 64 (fp 0)).toArray 252))
 rw[<-ha];clear ha;go_wp2_with (first | (refine iS rfl 252 _ rfl ((kc.map fp).zipIdx.map fun p=>(p.2,p.1)) (by kernel_rfl) nF MX ?_) | (refine dF rfl 252 _ _ rfl w.heap.size nF rfl rfl _ _ hb.o (by kernel_rfl) (by kernel_rfl) (by kernel_rfl) ?_));refine cS (results_cell_row rfl _ _ w.heap.size _ _ _ _ rfl (eu W0 _ _ _ _ _ hb.o) Tryz.underlying252 rfl (by kernel_rfl)) rfl ?_
 exact⟨rfl,eK HB.o (ah _) _⟩
end
end Go.Proofs.YtpffpjbkbaleiaaGreatDoor
