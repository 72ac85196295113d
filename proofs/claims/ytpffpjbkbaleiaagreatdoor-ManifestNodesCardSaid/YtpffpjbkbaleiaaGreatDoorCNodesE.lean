/- Texts of this proof, one after the other: WalkA, WalkB, WalkC, Needs, NeedP, LoadA, LookA, FtC, FtD, FtE, FtP, FtQ, BldA, LoadB. -/
import Derived.Test.YtpffpjbkbaleiaaGreatDoorCNodesD
set_option maxRecDepth 100000
set_option maxHeartbeats 8000000
namespace Go.Proofs.YtpffpjbkbaleiaaGreatDoor
open Go.RowKit
structure fO (w : World) (base wb eb sb : Nat) (fv v : Value) (ex rs : List aN) : Prop where
 box:w.heap[wb]? =some (.cells #[fv, .map (some eb), .map (some sb),v] 191 (0,0))
 exs:du w eb ex
 see:du w sb rs
 row:w.ownsRow base 26 3 v rs.length (rs.flatMap dH)
 ne:eb≠sb
def io (wb eb sb:Nat) (v:Value) (k:Nat):Prop:=k=wb\/k=eb\/k=sb\/v.ownBlock=some k
section
variable {w w' : World} {base wb eb sb : Nat} {fv v : Value} {ex rs : List aN}
theorem du.cells {b:Nat} {l:List aN} (h:du w b l) {cs:Array Value} {t:TypeId} {z:Nat×Nat} :w.heap[b]? ≠some (.cells cs t z):=fun e=>by
 obtain⟨es,clock,hb,_⟩:=h.map;rw[hb]at e; cases e
theorem fO.wne (h:fO w base wb eb sb fv v ex rs):wb≠eb/\wb≠sb:=⟨fun e=>h.exs.cells (e▸h.box),fun e=>h.see.cells (e▸h.box)⟩
theorem aA {e:TypeId} {sz:Nat} {n:Nat} {xs:List Value} {k:Nat} (h:w.ownsRow base e sz v n xs) (hk:v.ownBlock=some k): ∃cs,w.heap[k]? =some (.cells cs e (0,0)):=by
 obtain⟨_,h2⟩:=h
 rcases h2 with⟨rfl,rfl⟩ | ⟨g,cap,cur,rfl,_,hh,_⟩
 ·cases hk
 ·have:g=k:=by simpa [Value.ownBlock]using hk
  subst this;exact⟨cur,hh⟩
theorem fO.own (h:fO w base wb eb sb fv v ex rs) {k:Nat} (hk:v.ownBlock=some k):k≠wb/\k≠eb/\k≠sb:=by
 obtain⟨cs,hc⟩:=aA h.row hk;refine⟨fun e=> ?_,fun e=> ?_,fun e=> ?_⟩
 ·subst e;have:=hc.symm.trans h.box;simp at this
 ·subst e; exact h.exs.cells hc
 ·subst e; exact h.see.cells hc
theorem fO.keep (h:fO w base wb eb sb fv v ex rs) (hs: ∀k,k<w.heap.size->io wb eb sb v k->w'.heap[k]? =w.heap[k]?):fO w' base wb eb sb fv v ex rs:=by
 refine⟨(hs wb (lt_of_block h.box) (.inl rfl)).trans h.box,h.exs.same (hs eb h.exs.map.lt (.inr (.inl rfl))),h.see.same (hs sb h.see.map.lt (.inr (.inr (.inl rfl)))), ?_,h.ne⟩;obtain⟨hl,h2⟩:=h.row;refine⟨hl, ?_⟩
 rcases h2 with h2 | ⟨g,cap,cur,rfl,hg,hh,h3⟩
 ·exact .inl h2
 ·exact .inr ⟨g,cap,cur,rfl,hg,(hs g (lt_of_block hh) (.inr (.inr (.inr rfl)))).trans hh,h3⟩
theorem fO.below (h:fO w base wb eb sb fv v ex rs) (hb:Below w.heap.size w w'):fO w' base wb eb sb fv v ex rs:=h.keep (fun k hk _=>hb.block k hk)
theorem fO.ok (h:fO w base wb eb sb fv v ex rs): ∀r∈rs,bz r:=h.see.ok
theorem fO.shape (h:fO w base wb eb sb fv v ex rs): ∃a cap,v= .slice a rs.length cap:=by
 obtain⟨a,cap,h1,_⟩:=ak h.row;exact⟨a,cap,h1⟩
end
def be (r:aN) (rs:List aN):List aN:=if r∈rs then rs else rs++[r]
def zT (base wb eb sb:Nat) (fv v:Value) (ex rs:List aN) (w w':World):Prop:=
 ∃v',fO w' base wb eb sb fv v' ex rs/\cj (io wb eb sb v) w w'/\ ∀k,v'.ownBlock=some k->v.ownBlock=some k\/w.heap.size<=k
theorem mE (base wb eb sb:Nat) (fv v:Value) (ex rs:List aN) (r:aN) (w:World) (h:fO w base wb eb sb fv v ex rs) (hr:bz r) (hl:rs.length<1099511627775) (hbase:base<=w.heap.size):
  Calls Tryz.prog 161 #[.pointer (some ⟨wb,0,none⟩),bJ r] w fun e w'=>e= .returned (.tuple #[])/\zT base wb eb sb fv v ex (be r rs) w w':=by
 obtain⟨av,cv,rfl⟩:=h.shape;obtain⟨W,hW⟩: ∃W:World,W=(w.alloc (.cells #[.string r.name, .int .i64 r.gen, .int .i64 r.size] 26)).drew:=⟨_,rfl⟩;have hbW:Below w.heap.size w W:=by rw[hW]; exact((Below.refl _ _).alloc (Nat.le_refl _) _).drew
 have HBW:=ab hbW;have HK:=ab (h.below hbW);have bx:W.heap[w.heap.size]? =some (.cells #[.string r.name, .int .i64 r.gen, .int .i64 r.size] 26 (0,0)):=by rw[hW]; exact heap_alloc_new w _
 have HBX:=ab bx;have HR:=ab hr;have HW:=ab hW;have q0:=aj (k:=0) bx;have q1:=aj (k:=1) bx;have q2:=aj (k:=2) bx;have c2:=aj (k:=2) HK.out.box;have hlk:=HK.out.see.look hr;simp only[aW]at q0 q1 q2 c2;have hwb:wb<w.heap.size:=lt_of_block h.box;have H0:=ab h;unfold bJ at hlk ⊢;clear h hr bx hbW
 by_cases hm:r∈rs
 ·have e1:decide (r∈rs)=true:=by simp[hm]
  have HM:=ab (show be r rs=rs by unfold be; rw[if_pos hm]);rw[e1]at hlk;clear e1 hm
  go_enter Tryz.func161,Tryz.ntmps161
  go_wp2_with fail;refine aw [some 7] (by kernel_rfl) (by kernel_rfl) (by kernel_rfl) ?_;simp only[bi,List.take_succ_cons,List.take_zero];rw[<-HW.out];clear hW
  repeat (first | (refine aG rfl ?_; simp only[Act.put,aB,aC,aD]) | (refine aL rfl (fun K hK=> ?_); go_simp; refine hK _ ?_; clear hK K))
  refine aK ?_;go_wp2_with fail
  go_end0
  exact⟨rfl, .slice av rs.length cv,by rw[HM.out]; exact HK.out,cj.of_below HBW.out,fun k hk=> .inl hk⟩
 ·have e1:decide (r∈rs)=false:=by simp[hm]
  have HM:=ab (show be r rs=rs++[r] by unfold be; rw[if_neg hm]);have HNM:=ab hm;rw[e1]at hlk;clear e1 hm
  go_enter Tryz.func161,Tryz.ntmps161
  go_wp2_with fail;refine aw [some 7] (by kernel_rfl) (by kernel_rfl) (by kernel_rfl) ?_;simp only[bi,List.take_succ_cons,List.take_zero];rw[<-HW.out];clear hW
  repeat (first | (refine aG rfl ?_; simp only[Act.put,aB,aC,aD]) | (refine aL rfl (fun K hK=> ?_); go_simp; refine hK _ ?_; clear hK K))
  refine aK ?_;go_wp2_with fail;refine aw [some 5,none] (by kernel_rfl) (by kernel_rfl) (by kernel_rfl) ?_;simp only[bi,List.take_succ_cons,List.take_zero,List.drop_succ_cons,List.drop_zero];have HK1:=ab (HK.out.below ((Below.refl _ W).drew))
  repeat (first | (refine aG rfl ?_; simp only[Act.put,aB,aC,aD]) | (refine aL rfl (fun K hK=> ?_); go_simp; refine hK _ ?_; clear hK K))
  refine aK ?_;refine bA rfl (fun K hK=> ?_);go_wp2_with (at_mapUpdate; go_must (refine fq rfl _ _ _ rfl sb rs HK1.out.see rfl r HR.out rfl rfl HNM.out ?_); intro w2 hset hg2);have hsb:sb<w.heap.size:=H0.out.see.map.lt;have heb:eb<w.heap.size:=H0.out.exs.map.lt;have hbs:=HBW.out.size;obtain⟨W3,hW3⟩: ∃W3:World,W3=w2.drew:=⟨_,rfl⟩;have hg3:W.grownBy W3 (some sb):=by rw[hW3]; exact az (b:=W.drew) ⟨rfl,rfl,rfl,Nat.le_refl _,fun _ _ _=>rfl⟩ (az hg2 ⟨rfl,rfl,rfl,Nat.le_refl _,fun _ _ _=>rfl⟩)
  have hz3:=hg3.size;have HSET:=ab (show du W3 sb (rs++[r]) by rw[hW3]; exact hset.same rfl);have HEX:=ab (HK.out.exs.same (w':=W3) (hg3.block eb HK.out.exs.map.lt (by simp; exact HK.out.ne)));have HROW:=ab (HK.out.row.kept hg3 (.inr (fun e=>(HK.out.own e).2.2 rfl)));have HWB:=ab (fM hg3 HK.out.box HK.out.wne.2);have HRB:=ab (fM hg3 HBX.out (by omega));have HG3:=ab hg3
  have c3:=aj (k:=3) HWB.out;have f3:=ai (k:=3) HWB.out;have r0:=aj (k:=0) HRB.out;have r1:=aj (k:=1) HRB.out;have r2:=aj (k:=2) HRB.out;simp only[aW]at c3 r0 r1 r2;clear q0 q1 q2 c2 hlk hset hg2 hg3;refine bS (fun w'=>w'.cell? ⟨wb,3,none⟩=some (.slice av rs.length cv)/\w'.cell? ⟨w.heap.size,0,none⟩=some (.string r.name)/\w'.cell? ⟨w.heap.size,1,none⟩=some (.int .i64 r.gen)/\w'.cell? ⟨w.heap.size,2,none⟩=some (.int .i64 r.size)) (by kernel_rfl) (by kernel_rfl) ?_
  simp only[List.dropLast_cons_cons,List.dropLast_singleton,List.length_cons,List.length_nil,Nat.reduceAdd,Nat.reduceSub];rw[<-hW3];clear hW3;refine ag 0 rfl (by kernel_rfl) (by kernel_rfl) (by kernel_rfl) (fun _ _ _ h=>h) rfl (by go_simp) (by rintro w' ⟨hw1,hw2,hw3,hw4⟩; go_simp; rfl) ?_;simp only[Act.put,aB,aC,aD];refine ag 1 rfl (by kernel_rfl) (by kernel_rfl) (by kernel_rfl) (fun _ _ _ h=>h) rfl (by go_simp) (by rintro w' ⟨hw1,hw2,hw3,hw4⟩; go_simp; rfl) ?_
  simp only[Act.put,aB,aC,aD];refine ag 2 rfl (by kernel_rfl) (by kernel_rfl) (by kernel_rfl) (fun _ _ _ h=>h) rfl (by go_simp) (by rintro w' ⟨hw1,hw2,hw3,hw4⟩; go_simp; rfl) ?_;simp only[Act.put,aB,aC,aD];refine ag 3 rfl (by kernel_rfl) (by kernel_rfl) (by kernel_rfl) (fun _ _ _ h=>h) rfl (by go_simp) (by rintro w' ⟨hw1,hw2,hw3,hw4⟩; go_simp; rfl) ?_;simp only[Act.put,aB,aC,aD]
  refine ag 4 rfl (by kernel_rfl) (by kernel_rfl) (by kernel_rfl) (fun _ _ _ h=>h) rfl (by go_simp) (by rintro w' ⟨hw1,hw2,hw3,hw4⟩; go_simp; rfl) ?_;simp only[Act.put,aB,aC,aD];refine ag 5 rfl (by kernel_rfl) (by kernel_rfl) (by kernel_rfl) (fun _ _ _ h=>h) rfl (by go_simp) (by rintro w' ⟨hw1,hw2,hw3,hw4⟩; go_simp; rfl) ?_;simp only[Act.put,aB,aC,aD];have hltw:wb<W3.heap.size:=lt_of_block HWB.out
  have hltr:w.heap.size<W3.heap.size:=lt_of_block HRB.out;have HAL:=ab ((Below.refl W3.heap.size W3).alloc (Nat.le_refl _) (.cells #[.string r.name, .int .i64 r.gen, .int .i64 r.size] 26));have hS2:=And.intro ((HAL.out.cell (p:=⟨wb,3,none⟩) hltw).trans c3) (And.intro ((HAL.out.cell (p:=⟨w.heap.size,0,none⟩) hltr).trans r0) (And.intro ((HAL.out.cell (p:=⟨w.heap.size,1,none⟩) hltr).trans r1) ((HAL.out.cell (p:=⟨w.heap.size,2,none⟩) hltr).trans r2)))
  have HS2:=ab hS2;clear hS2;refine ar 6 rfl (by kernel_rfl) rfl (fun K hK=> ?_);go_wp2_with fail
  (first | (refine⟨HS2.out, ?_⟩) | skip)
  refine ar 7 rfl (by kernel_rfl) rfl (fun K hK=> ?_);go_wp2_with (at_builtin; go_must (refine aP Tryz.appRefs rfl _ _ rfl base (.slice av rs.length cv) rs.length (rs.flatMap dH) rfl W3 [.string r.name, .int .i64 r.gen, .int .i64 r.size] _ rfl rfl (ll (r:=r)) HROW.out (by omega) (by omega) ?_); intro v' wc hown' hgrow' _ hpl; obtain⟨ae,ce,rfl,-,-⟩:=ak hown')
  have hne: ∀k,(Value.slice av rs.length cv).ownBlock=some k->k≠wb/\k≠eb/\k≠sb:=fun k hk=>H0.out.own hk
  have hner:(Value.slice av rs.length cv).ownBlock≠some w.heap.size:=fun e=>by have:=(H0.out.row.lt _ e).2; omega
  have HWB2:=ab ((hgrow'.block wb hltw (fun e=>(hne wb e.symm).1 rfl)).trans HWB.out);have HRB2:=ab ((hgrow'.block w.heap.size hltr (fun e=>hner e.symm)).trans HRB.out);have HEX2:=ab (HEX.out.same (hgrow'.block eb HEX.out.map.lt (fun e=>(hne eb e.symm).2.1 rfl)));have HSET2:=ab (HSET.out.same (hgrow'.block sb HSET.out.map.lt (fun e=>(hne sb e.symm).2.2 rfl)));have HGR:=ab hgrow'
  have HPL:=ab hpl;have HOW:=ab (show wc.ownsRow base 26 3 (.slice ae (rs.length+1) ce) (rs++[r]).length ((rs++[r]).flatMap dH) by rw[List.length_append,List.flatMap_append]; simpa [dH]using hown');have c4:=aj (k:=3) HWB2.out;have f4:=ai (k:=3) HWB2.out;have s0:=aj (k:=0) HRB2.out;have s1:=aj (k:=1) HRB2.out;have s2:=aj (k:=2) HRB2.out;simp only[aW]at c4 s0 s1 s2
  clear hown' hgrow' hpl c3 f3 r0 r1 r2 hne hner;refine⟨⟨c4,s0,s1,s2⟩, ?_⟩;refine ag 8 rfl (by kernel_rfl) (by kernel_rfl) (by kernel_rfl) (fun _ _ _ h=>h) rfl (by go_simp) (by rintro w' ⟨hw1,hw2,hw3,hw4⟩; go_simp; rfl) ?_;simp only[Act.put,aB,aC,aD];refine ag 9 rfl (by kernel_rfl) (by kernel_rfl) (by kernel_rfl) (fun _ _ _ h=>h) rfl (by go_simp) (by rintro w' ⟨hw1,hw2,hw3,hw4⟩; go_simp; rfl) ?_
  simp only[Act.put,aB,aC,aD];refine aS (by kernel_rfl) ?_;refine bZ rfl rfl (fun K hK=> ?_);go_wp2_with fail
  go_end0
  refine⟨rfl, .slice ae (rs.length+1) ce, ?_, ?_, ?_⟩
  ·rw[HM.out];have hws:=H0.out.wne;have hx:=dq (k:=3) HWB2.out (.slice ae (rs.length+1) ce);simp only[List.setIfInBounds_toArray,List.set_cons_succ,List.set_cons_zero]at hx;refine⟨hx,HEX2.out.same (Below.heap_setCell _ _ _ _ (Ne.symm hws.1)),HSET2.out.same (Below.heap_setCell _ _ _ _ (Ne.symm hws.2)),HOW.out.kept (aH _ _ _ _) (.inr (fun e=> ?_)),H0.out.ne⟩
   rcases HPL.out wb e with h1 | h1
   ·exact(H0.out.own h1).1 rfl
   ·omega
  ·refine cj.trans (cj.of_below HBW.out) (cj.trans (S:=io wb eb sb (.slice av rs.length cv)) (cj.of_grown HG3.out (fun k hk=>by cases hk; exact .inr (.inr (.inl rfl)))) (cj.trans (S:=io wb eb sb (.slice av rs.length cv)) (cj.of_grown HGR.out (fun k hk=> .inr (.inr (.inr hk)))) (cj.of_grown (S:=io wb eb sb (.slice av rs.length cv)) (aH wc wb 3 _) (fun k hk=>by cases hk; exact .inl rfl)) (fun i _ h=>h)) (fun i _ h=>h)) (fun i _ h=>h)
  ·intro k hk
   rcases HPL.out k hk with h1 | h1
   ·exact .inl h1
   ·exact .inr (by omega)
end Go.Proofs.YtpffpjbkbaleiaaGreatDoor
namespace Go.Proofs.YtpffpjbkbaleiaaGreatDoor
open Go.RowKit
def cA (cs rs:List aN):List aN:=cs.foldl (fun rs r=>be r rs) rs
def fy (f:aN->List aN×List aN->Option (Int×(List aN×List aN))):List aE->List aN×List aN->Option (Int×(List aN×List aN))
 | [],st=>some (0,st)
 | it::l,st=>if it.kind≠2 then fy f l (st.1,cA it.chunks st.2)else
  (f it.node (st.1,cA it.chunks st.2)).bind fun p=>if p.1≠0 then some p else fy f l p.2
def eh (visit:aN->Except Int (List aE)):Nat->aN->List aN×List aN->Option (Int×(List aN×List aN))
 | 0,_,_=>none
 | n+1,r,st=>if r∈st.1 then some (0,(st.1,be r st.2))else match visit r with
  | .error x=>some (x,(st.1++[r],be r st.2))
  | .ok l=>fy (eh visit n) l (st.1++[r],be r st.2)
theorem jA (r:aN) (rs:List aN):rs.length<=(be r rs).length:=by
 unfold be
 split
 ·exact Nat.le_refl _
 ·simp
theorem jY : ∀(cs rs:List aN),rs.length<=(cA cs rs).length
 | [],_=>Nat.le_refl _
 | c::cs,rs=>Nat.le_trans (jA c rs) (jY cs (be c rs))
theorem ub (cs:List aN) (c:aN) (rs:List aN):cA (cs++[c]) rs=be c (cA cs rs):=by
 unfold cA; rw[List.foldl_append]; rfl
theorem oF (cs rs:List aN) (j:Nat):(cA (cs.take j) rs).length<=(cA cs rs).length:=by
 have:cA cs rs=cA (cs.drop j) (cA (cs.take j) rs):=by
  unfold cA;rw[<-List.foldl_append,List.take_append_drop]
 rw[this];exact jY _ _
theorem gt {f:aN->List aN×List aN->Option (Int×(List aN×List aN))} (hf: ∀r st x st',f r st=some (x,st')->st.2.length<=st'.2.length):
  ∀(l:List aE) (st:List aN×List aN) (x:Int) (st':List aN×List aN),fy f l st=some (x,st')->st.2.length<=st'.2.length
 | [],st,x,st',h=>by
  simp only[fy,Option.some.injEq,Prod.mk.injEq]at h;obtain⟨_,rfl⟩:=h;exact Nat.le_refl _
 | it::l,st,x,st',h=>by
  rw[fy]at h
  split at h
  ·exact Nat.le_trans (jY it.chunks st.2) (gt hf l _ x st' h)
  ·rw[Option.bind_eq_some_iff]at h;obtain⟨⟨y,st2⟩,h1,h2⟩:=h;have h3:=hf _ _ _ _ h1;have h4:=jY it.chunks st.2;simp only at h2 h3
   split at h2
   ·simp only[Option.some.injEq,Prod.mk.injEq]at h2;obtain⟨_,rfl⟩:=h2;exact Nat.le_trans h4 h3
   ·exact Nat.le_trans (Nat.le_trans h4 h3) (gt hf l _ x st' h2)
theorem iE (visit:aN->Except Int (List aE)): ∀(n:Nat) (r:aN) (st:List aN×List aN) (x:Int) (st':List aN×List aN),eh visit n r st=some (x,st')->st.2.length<=st'.2.length
 | 0,_,_,_,_,h=>by simp[eh]at h
 | n+1,r,st,x,st',h=>by
  have hm:=jA r st.2;rw[eh]at h
  split at h
  ·simp only[Option.some.injEq,Prod.mk.injEq]at h;obtain⟨_,rfl⟩:=h;exact hm
  ·split at h
   ·simp only[Option.some.injEq,Prod.mk.injEq]at h;obtain⟨_,rfl⟩:=h;exact hm
   ·exact Nat.le_trans hm (gt (iE visit n) _ _ x st' h)
def Dy (res:Except Int (List aE)) (w:World) (e:Ending) (w':World):Prop:=Below w.heap.size w w'/\match res with
 | .error x=>e= .returned (.tuple #[.slice none 0 0, .int .i64 x])/\x≠0
 | .ok l=> ∃v,e= .returned (.tuple #[v, .int .i64 0])/\aM (w.heap.size<= ·) w' v l
theorem fO.notown {w:World} {base wb eb sb:Nat} {fv v:Value} {ex rs:List aN} (h:fO w base wb eb sb fv v ex rs) {k:Nat} {cs:Array Value} {t:TypeId} {z:Nat×Nat} (hb:w.heap[k]? =some (.cells cs t z)) (h1:t≠191) (h2:t≠26): ¬io wb eb sb v k:=by
 rintro(e | e | e | e)
 ·subst e;have:=hb.symm.trans h.box;simp at this;exact h1 this.2.1
 ·subst e; exact h.exs.cells hb
 ·subst e; exact h.see.cells hb
 ·obtain⟨cs',hc⟩:=aA h.row e;have:=hb.symm.trans hc;simp at this;exact h2 this.2.1
structure nz (w : World) (B h5 h6 base wb eb sb : Nat) (fv v itv : Value) (l : List aE) (wr : World) (v2 : Value) (ex rs : List aN) : Prop where
 at':fO wr base wb eb sb fv v2 ex rs
 gr:cj (io wb eb sb v) w wr
 own: ∀k,v2.ownBlock=some k->v.ownBlock=some k\/w.heap.size<=k
 apart: ∀k,v2.ownBlock=some k->k<h5\/h6<=k
 lo:wb<h5/\eb<h5/\sb<h5
 ord:w.heap.size<=h5/\h5<=h6/\h6<=wr.heap.size
 its:aM (fun k=>h5<=k/\k<h6) wr itv l
theorem aM.same {S:Nat->Prop} {w w':World} {v:Value} {l:List aE} (h:aM S w v l) (hs: ∀k,k<w.heap.size->S k->w'.heap[k]? =w.heap[k]?):aM S w' v l:=by
 obtain⟨cells,hr,hin⟩:=h;have h2:=hr.mono (T:=fun k=>k<w.heap.size/\S k) (fun k hk hS=>⟨hk,hS⟩) (by omega);have h3:=h2.same (w':=w') (fun k hk=>hs k hk.1 hk.2);exact⟨cells,h3.weak (fun k hk=>hk.2),hin.mono (fun c x _ hx=>hx.same (fun k hk hS=>⟨hS,hs k hk hS⟩))⟩
section
variable {w wr w' : World} {B h5 h6 base wb eb sb : Nat} {fv v itv v2 v3 : Value} {l : List aE} {ex rs ex3 rs3 : List aN}
theorem nz.below (h:nz w B h5 h6 base wb eb sb fv v itv l wr v2 ex rs) (hb:Below wr.heap.size wr w'):nz w B h5 h6 base wb eb sb fv v itv l w' v2 ex rs:=
 ⟨h.at'.below hb,h.gr.trans (cj.of_below hb (S:=fun _=>False)) (fun _ _ h=>False.elim h),h.own,h.apart,h.lo,⟨h.ord.1,h.ord.2.1,Nat.le_trans h.ord.2.2 hb.size⟩,h.its.below hb⟩
theorem nz.notown (h:nz w B h5 h6 base wb eb sb fv v itv l wr v2 ex rs) {k:Nat} (hk:h5<=k/\k<h6): ¬io wb eb sb v2 k:=by
 have:=h.lo;rintro(e | e | e | e)
 ·omega
 ·omega
 ·omega
 ·have:=h.apart k e; omega
theorem nz.step (h:nz w B h5 h6 base wb eb sb fv v itv l wr v2 ex rs) (hr:zT base wb eb sb fv v2 ex3 rs3 wr w'): ∃v3,nz w B h5 h6 base wb eb sb fv v itv l w' v3 ex3 rs3/\cj (io wb eb sb v2) wr w':=by
 obtain⟨v3,h1,h2,h3⟩:=hr;have hz:=h.gr.size;refine⟨v3,⟨h1,h.gr.trans h2 (fun i hi ho=> ?_),fun k hk=> ?_,fun k hk=> ?_,h.lo,⟨h.ord.1,h.ord.2.1,Nat.le_trans h.ord.2.2 h2.size⟩,h.its.same (fun k hk hS=>h2.block k hk (h.notown hS))⟩,h2⟩
 ·rcases ho with e | e | e | e
  ·exact .inl e
  ·exact .inr (.inl e)
  ·exact .inr (.inr (.inl e))
  ·rcases h.own i e with e | e
   ·exact .inr (.inr (.inr e))
   ·omega
 ·rcases h3 k hk with e | e
  ·exact h.own k e
  ·exact .inr (by omega)
 ·rcases h3 k hk with e | e
  ·exact h.apart k e
  ·have:=h.ord; exact .inr (by omega)
end
end Go.Proofs.YtpffpjbkbaleiaaGreatDoor
namespace Go.Proofs.YtpffpjbkbaleiaaGreatDoor
open Go.RowKit
def zS (visit:aN->Except Int (List aE)) (F:Nat) (cv:Value) (I:World->Prop) (B n:Nat):Prop:= ∀(r:aN) (st:List aN×List aN) (x:Int) (st':List aN×List aN) (base wb eb sb:Nat) (v:Value) (w:World),eh visit n r st=some (x,st')->st'.2.length<1099511627775->
 fO w base wb eb sb (.func (.func F) #[cv] #[]) v st.1 st.2->bz r->I w->(B<=base/\B<=wb/\B<=eb/\B<=sb)->base<=w.heap.size->
 Calls Tryz.prog 133 #[.pointer (some ⟨wb,0,none⟩),bJ r] w fun e w'=>e= .returned (.int .i64 x)/\zT base wb eb sb (.func (.func F) #[cv] #[]) v st'.1 st'.2 w w'
def zR (visit:aN->Except Int (List aE)) (F:Nat) (cv:Value) (I:World->Prop):Prop:= ∀(W:World) (r:aN),I W->bz r->Calls Tryz.prog F #[cv,bJ r] W (Dy (visit r) W)
def wE (I:World->Prop) (B:Nat):Prop:= ∀w w':World,I w->cj (B<= ·) w w'->I w'
theorem vP {B base wb eb sb:Nat} {w:World} {fv v:Value} {ex rs:List aN} (h:fO w base wb eb sb fv v ex rs) (hB:B<=base/\B<=wb/\B<=eb/\B<=sb) {k:Nat} (hk:io wb eb sb v k):B<=k:=by
 rcases hk with e | e | e | e
 ·omega
 ·omega
 ·omega
 ·have:=(h.row.lt k e).1; omega
theorem oh {S T:Nat->Prop} {w w':World} (h:cj S w w') (hs: ∀k,S k->T k):cj T w w':=⟨h.os,h.tape,h.output,h.size,fun k hk hn=>h.block k hk (fun hS=>hn (hs k hS))⟩
theorem aM.lt {S:Nat->Prop} {w:World} {v:Value} {l:List aE} (h:aM S w v l):aM (fun k=>S k/\k<w.heap.size) w v l:=by
 obtain⟨cells,hr,hin⟩:=h;exact⟨cells,hr.mono (fun k hk hS=>⟨hS,hk⟩) (by omega),hin.mono (fun c x _ hx=>hx.same (fun k hk hS=>⟨⟨hS,hk⟩,rfl⟩))⟩
theorem oO {f:aN->List aN×List aN->Option (Int×(List aN×List aN))} {it:aE} {l:List aE} {ex rs:List aN} {q:Int×(List aN×List aN)} (h:fy f (it::l) (ex,rs)=some q):
  (it.kind≠2/\fy f l (ex,cA it.chunks rs)=some q)\/(it.kind=2/\ ∃y st2,f it.node (ex,cA it.chunks rs)=some (y,st2)/\((y≠0/\q=(y,st2))\/(y=0/\fy f l st2=some q))):=by
 rw[fy]at h
 split at h
 ·rename_i hk;exact .inl ⟨hk,h⟩
 ·rename_i hk;rw[Option.bind_eq_some_iff]at h;obtain⟨⟨y,st2⟩,h1,h2⟩:=h;refine .inr ⟨Decidable.not_not.1 hk,y,st2,h1, ?_⟩;simp only at h2
  split at h2
  ·rename_i hy;exact .inl ⟨hy,(Option.some.inj h2).symm⟩
  ·rename_i hy;exact .inr ⟨Decidable.not_not.1 hy,h2⟩
theorem yC {visit:aN->Except Int (List aE)} {n:Nat} {it:aE} {l:List aE} {ex rs:List aN} {x:Int} {st':List aN×List aN} (h:fy (eh visit n) (it::l) (ex,rs)=some (x,st')):(cA it.chunks rs).length<=st'.2.length:=by
 rcases oO h with⟨_,h2⟩ | ⟨_,y,st2,h1,h2⟩
 ·exact gt (iE visit n) l _ x st' h2
 ·have h3:=iE visit n _ _ _ _ h1
  rcases h2 with⟨_,h2⟩ | ⟨_,h2⟩
  ·obtain⟨_,rfl⟩:=Prod.mk.inj h2;exact h3
  ·exact Nat.le_trans h3 (gt (iE visit n) l _ x st' h2)
end Go.Proofs.YtpffpjbkbaleiaaGreatDoor
namespace Go.Proofs.YtpffpjbkbaleiaaGreatDoor
open Go.RowKit
def lf (visit:aN->Except Int (List aE)) (n:Nat) (root:aN):Option (Except Int (List aN)):=
 if dT root=true then(eh visit n root ([],[])).map fun p=>if p.1=0 then .ok p.2.2 else .error p.1 else some (.error 1)
def rE (res:Except Int (List aN)) (w:World) (e:Ending) (w':World):Prop:=Below w.heap.size w w'/\match res with
 | .error x=>e= .returned (.tuple #[.slice none 0 0, .int .i64 x])/\x≠0
 | .ok rs=> ∃v,e= .returned (.tuple #[v, .int .i64 0])/\aV (w.heap.size<= ·) w' v rs
theorem BN {w:World} {B:Nat} {fv:Value} :fO (((w.alloc (.map #[] 0)).alloc (.map #[] 0)).alloc (.cells #[fv, .map (some w.heap.size), .map (some (w.heap.size+1)), .slice none 0 0] 191)) B (w.heap.size+1+1) w.heap.size (w.heap.size+1) fv (.slice none 0 0) [] []:=by
 have e1:(w.alloc (.map #[] 0)).heap.size=w.heap.size+1:=by simp
 have e2:((w.alloc (.map #[] 0)).alloc (.map #[] 0)).heap.size=w.heap.size+1+1:=by simp
 have h1:=du.made w;have h2:=du.made (w.alloc (.map #[] 0));rw[e1]at h2;have h3:=heap_alloc_new ((w.alloc (.map #[] 0)).alloc (.map #[] 0)) (.cells #[fv, .map (some w.heap.size), .map (some (w.heap.size+1)), .slice none 0 0] 191);rw[e2]at h3;refine⟨h3, ?_,h2.same (Below.heap_alloc _ _ _ (by rw[e2]; omega)),World.ownsRow_nil _ _ _ _,by omega⟩;exact h1.same ((Below.heap_alloc _ _ _ (by rw[e2]; omega)).trans (Below.heap_alloc _ _ _ (by rw[e1]; omega)))
structure eJ (B : Nat) (cv : Value) (cs : List (ByteArray × List UInt8)) (w : World) : Prop where
 cont:bV (· <B) w cv cs
 env:fN w
 lt:1<B/\3<B/\4<B
 size:B<=w.heap.size
theorem aO.lt' {S:Nat->Prop} {w:World} {sz:Nat} {v:Value} {n:Nat} {cells:List Value} (h:aO S w sz v n cells) (hs:0<sz):aO (· <w.heap.size) w sz v n cells:=h.mono (fun _ hk _=>hk) hs
theorem bV.lt {S:Nat->Prop} {w:World} {cv:Value} {cs:List (ByteArray×List UInt8)} (h:bV S w cv cs):bV (· <w.heap.size) w cv cs:=by
 rcases h with h | ⟨b,m,h1,h0,h2,h3⟩
 ·exact .inl h
 ·refine .inr ⟨b,m,h1,h2.lt,h2, ?_⟩;clear h1 h2 h0
  induction m generalizing cs with
  | nil=>cases cs with
   | nil=>trivial
   | cons=>exact h3
  | cons p m ih=>cases cs with
   | nil=>exact h3
   | cons q cs=>exact⟨h3.1,aO.lt' h3.2.1 (by omega),ih h3.2.2⟩
theorem eJ.keep {B:Nat} {cv:Value} {cs:List (ByteArray×List UInt8)} :wE (eJ B cv cs) B:=by
 intro w w' h hg;have hb:Below B w w':=hg.below h.size (fun k hk=>hk);refine⟨?_,h.env.belowB hb h.lt.1 h.lt.2.1 h.lt.2.2,h.lt,Nat.le_trans h.size hg.size⟩
 rcases h.cont with h1 | ⟨b,m,h1,h0,h2,h3⟩
 ·exact .inl h1
 ·exact .inr ⟨b,m,h1,h0,h2.same (hb.block b h0),h3.mono (fun v bs hv=>aO.same hv (fun k hk=>hb.block k hk))⟩
theorem eJ.visit {B:Nat} {cv:Value} {cs:List (ByteArray×List UInt8)} :zR (dF cs) 83 cv (eJ B cv cs):=fun W r hI hr=>(lh (· <B) cv cs r W hI.cont hr hI.env).mono fun _ _ h=>h
theorem eJ.start {S:Nat->Prop} {w:World} {cv:Value} {cs:List (ByteArray×List UInt8)} (h:bV S w cv cs) (he:fN w):eJ w.heap.size cv cs w:=⟨h.lt,he,he.lt,Nat.le_refl _⟩
end Go.Proofs.YtpffpjbkbaleiaaGreatDoor
namespace Go.Proofs.YtpffpjbkbaleiaaGreatDoor
open Go.RowKit
theorem li : ∀ {l U:List aN},l.Nodup->(∀x∈l,x∈U)->l.length<=U.length
 | [],_,_,_=>Nat.zero_le _
 | a::l,U,hn,hs=>by
  obtain⟨h1,h2⟩:=List.nodup_cons.1 hn;have ha:a∈U:=hs a (by simp);have h3:=li (l:=l) (U:=U.erase a) h2 (fun x hx=>(List.mem_erase_of_ne (fun e=>by subst e; exact h1 hx)).2 (hs x (by simp[hx])));have h4:=List.length_erase_of_mem ha;have h5:0<U.length:=List.length_pos_of_mem ha;simp only[List.length_cons];omega
def jx (it:aE):List aN:=it.chunks++[it.node]
def DP (l:List aE):List aN:=l.flatMap jx
def kw (cs:List (ByteArray×List UInt8)):List aN:=cs.flatMap fun p=>match cG p.2 with
 | some l=>DP l
 | none=>[]
theorem xY {cs:List (ByteArray×List UInt8)} {n:ByteArray} {bs:List UInt8} (h:dm cs n=some bs): ∃k,(k,bs)∈cs:=by
 induction cs with
 | nil=>simp[dm]at h
 | cons p cs ih=>
  obtain⟨k,b⟩:=p;simp only[dm]at h
  split at h
  ·simp only[Option.some.injEq]at h; subst h; exact⟨k,by simp⟩
  ·obtain⟨k',hk⟩:=ih h;exact⟨k',by simp[hk]⟩
theorem qT {cs:List (ByteArray×List UInt8)} {r:aN} {l:List aE} (h:dF cs r= .ok l): ∃k bs,(k,bs)∈cs/\cG bs=some l:=by
 unfold dF at h
 cases hc:dN cs r with
 | error x=>rw[hc]at h; simp at h
 | ok bs=>
  rw[hc]at h;simp only at h
  cases hi:cG bs with
  | none=>rw[hi]at h; simp at h
  | some l'=>
   rw[hi]at h;simp only[Except.ok.injEq]at h;subst h;unfold dN at hc
   cases hf:dm cs r.name with
   | none=>rw[hf]at hc; simp at hc
   | some b=>
    rw[hf]at hc;simp only at hc
    split at hc
    ·simp only[Except.ok.injEq]at hc; subst hc;obtain⟨k,hk⟩:=xY hf;exact⟨k,b,hk,hi⟩
    ·simp at hc
theorem vM {cs:List (ByteArray×List UInt8)} {r:aN} {l:List aE} (h:dF cs r= .ok l) {it:aE} (hit:it∈l): ∀c∈jx it,c∈kw cs:=fun c hc=>by
 obtain⟨k,bs,h1,h2⟩:=qT h;refine List.mem_flatMap.2 ⟨(k,bs),h1, ?_⟩;simp only[h2];exact List.mem_flatMap.2 ⟨it,hit,hc⟩
structure pF (U : List aN) (st : List aN × List aN) : Prop where
 e1:st.1.Nodup
 e2: ∀x∈st.1,x∈U
 l1:st.2.Nodup
 l2: ∀x∈st.2,x∈U
theorem jB {r:aN} {rs:List aN} (h:rs.Nodup):(be r rs).Nodup:=by
 unfold be
 split
 ·exact h
 ·rename_i hm;exact List.nodup_append.2 ⟨h,by simp,fun a ha b hb e=>by simp only[List.mem_singleton]at hb; subst hb e; exact hm ha⟩
theorem kZ {r x:aN} {rs:List aN} :x∈be r rs<->x∈rs\/x=r:=by
 unfold be
 split
 ·rename_i hm;exact⟨.inl,fun h=>by rcases h with h | rfl; exact h; exact hm⟩
 ·simp
theorem kY : ∀(cs:List aN) {rs:List aN},rs.Nodup->(cA cs rs).Nodup
 | [],_,h=>h
 | _c::cs,_,h=>kY cs (jB h)
theorem oE : ∀(cs:List aN) {rs:List aN} {x:aN},x∈cA cs rs<->x∈rs\/x∈cs
 | [],rs,x=>by simp[cA]
 | c::cs,rs,x=>by
  show x∈cA cs (be c rs)<->_
  rw[oE cs,kZ,List.mem_cons,or_assoc]
theorem pF.men {U:List aN} {st:List aN×List aN} (h:pF U st) {cs:List aN} (hc: ∀c∈cs,c∈U):pF U (st.1,cA cs st.2):=
 ⟨h.e1,h.e2,kY cs h.l1,fun x hx=>by
  rcases(oE cs).1 hx with hx | hx
  ·exact h.l2 x hx
  ·exact hc x hx⟩
def Do (U:List aN) (f:aN->List aN×List aN->Option (Int×(List aN×List aN))) (n:Nat):Prop:= ∀r st,r∈U->pF U st->U.length<n+st.1.length-> ∃x st',f r st=some (x,st')/\pF U st'/\st.1.length<=st'.1.length
theorem kF {U:List aN} {f:aN->List aN×List aN->Option (Int×(List aN×List aN))} {n:Nat} (hf:Do U f n):
  ∀(l:List aE) (st:List aN×List aN),(∀it∈l,∀c∈jx it,c∈U)->pF U st->U.length<n+st.1.length-> ∃x st',fy f l st=some (x,st')/\pF U st'/\st.1.length<=st'.1.length
 | [],st,_,hi,_=>⟨0,st,rfl,hi,Nat.le_refl _⟩
 | it::l,st,hl,hi,hn=>by
  have hi2:=hi.men (cs:=it.chunks) (fun c hc=>hl it (by simp) _ (by simp[jx,hc]));rw[fy]
  split
  ·exact kF hf l _ (fun x hx=>hl x (by simp[hx])) hi2 hn
  ·obtain⟨x,st2,h1,h2,h3⟩:=hf it.node _ (hl it (by simp) _ (by simp[jx])) hi2 hn;rw[h1,Option.bind_some];simp only at h3
   split
   ·exact⟨x,st2,rfl,h2,h3⟩
   ·obtain⟨y,st3,k1,k2,k3⟩:=kF hf l st2 (fun x hx=>hl x (by simp[hx])) h2 (by omega);exact⟨y,st3,k1,k2,Nat.le_trans h3 k3⟩
def ms (cs:List (ByteArray×List UInt8)):Nat:=(kw cs).length+2
theorem xS {data:List UInt8} {s s1:RS} {it:aE} (h:gp data s=some (it,s1)):it.chunks.length<=963:=by
 unfold gp jy at h
 split at h
 ·simp only[Option.some.injEq,Prod.mk.injEq]at h;obtain⟨rfl,_⟩:=h;simp only[nJ];exact rL _ _ _
 ·split at h
  ·simp only[Option.some.injEq,Prod.mk.injEq]at h;obtain⟨rfl,_⟩:=h;simp
  ·split at h
   ·simp only[Option.some.injEq,Prod.mk.injEq]at h;obtain⟨rfl,_⟩:=h;simp
   ·simp at h
theorem qK {data:List UInt8} {s0:RS} : ∀ {k:Nat} {l:List aE} {s:RS},dO data s0 k=some (l,s)->l.length=k/\ ∀it∈l,it.chunks.length<=963
 | 0,l,s,h=>by
  simp only[dO,Option.some.injEq,Prod.mk.injEq]at h;obtain⟨rfl,_⟩:=h;exact⟨rfl,by simp⟩
 | k+1,l,s,h=>by
  rw[gM,Option.bind_eq_some_iff]at h;obtain⟨⟨l0,s1⟩,h1,h2⟩:=h;rw[Option.map_eq_some_iff]at h2;obtain⟨⟨it,s2⟩,h3,h4⟩:=h2;simp only[Prod.mk.injEq]at h4;obtain⟨rfl,_⟩:=h4;obtain⟨k1,k2⟩:=qK h1;refine⟨by simp[k1],fun x hx=> ?_⟩
  rcases List.mem_append.1 hx with hx | hx
  ·exact k2 x hx
  ·simp only[List.mem_singleton]at hx; subst hx; exact xS h3
theorem qM {data:List UInt8} {l:List aE} (h:cG data=some l):l.length<=4096/\ ∀it∈l,it.chunks.length<=963:=by
 unfold cG at h
 split at h
 ·simp at h
 ·rw[Option.bind_eq_some_iff]at h;obtain⟨⟨l0,s1⟩,h1,h2⟩:=h
  split at h2
  ·simp only[Option.some.injEq]at h2;subst h2;obtain⟨k1,k2⟩:=qK h1;exact⟨by rw[k1]; exact rL _ _ _,k2⟩
  ·simp at h2
theorem fw {α β:Type} (f:α->List β) (m:Nat): ∀(l:List α),(∀x∈l,(f x).length<=m)->(l.flatMap f).length<=l.length*m
 | [],_=>by simp
 | a::l,h=>by
  have h1:=fw f m l (fun x hx=>h x (by simp[hx]));have h2:=h a (by simp);rw[List.flatMap_cons,List.length_append,List.length_cons,Nat.succ_mul];omega
theorem xW {cs:List (ByteArray×List UInt8)} :(kw cs).length<=cs.length*3948544:=fw _ _ cs (fun p _=>by
 cases h:cG p.2 with
 | none=>simp
 | some l=>
  obtain⟨h1,h2⟩:=qM h;simp only;have h3:=fw jx 964 l (fun it hit=>by have:=h2 it hit; simp[jx]; omega);exact Nat.le_trans h3 (Nat.le_trans (Nat.mul_le_mul_right 964 h1) (by decide)))
theorem oJ {cs:List (ByteArray×List UInt8)} {r:aN} {l:List aE} (h:dF cs r= .ok l):l.length<=4096/\cb l=true/\ ∀it∈l,it.chunks.length<=963:=by
 obtain⟨k,bs,_,h2⟩:=qT h;have h3:=qM h2;refine⟨h3.1, ?_,h3.2⟩;unfold cG at h2
 split at h2
 ·simp at h2
 ·rw[Option.bind_eq_some_iff]at h2;obtain⟨⟨l0,s1⟩,_,h4⟩:=h2
  split at h4
  ·rename_i h5;simp only[Option.some.injEq]at h4;subst h4;exact h5.2
  ·simp at h4
end Go.Proofs.YtpffpjbkbaleiaaGreatDoor
namespace Go.Proofs.YtpffpjbkbaleiaaGreatDoor
open Go Go.RowKit
def eE (w:World) (base eb:Nat) (v:Value) (acc:List bw):Prop:=
 w.heap[eb]? =some (.cells #[v] 46 (0,0))/\ ∃ys:List iJ,ys.map Prod.snd=acc/\w.ownsRow base 79 6 v ys.length (cV ys)/\ ∀y∈ys,w.ownsRow base 5 1 y.1 y.2.data.length (y.2.data.map an)
structure kr (base eb : Nat) (v v' : Value) (w w' : World) : Prop where
 below:Below base w w'
 same: ∀k,k<w.heap.size->k≠eb->v.ownBlock≠some k->w'.heap[k]? =w.heap[k]?
 place: ∀k,v'.ownBlock=some k->v.ownBlock=some k\/w.heap.size<=k
theorem kr.refl (base eb:Nat) (v:Value) (w:World):kr base eb v v w w:=⟨Below.refl _ _,fun _ _ _ _=>rfl,fun _ h=> .inl h⟩
theorem kr.trans {base eb:Nat} {v v1 v2:Value} {A B C:World} (h:kr base eb v v1 A B) (k:kr base eb v1 v2 B C) (hs:A.heap.size<=B.heap.size):kr base eb v v2 A C:=
 ⟨h.below.trans k.below,fun i h1 h2 h3=>(k.same i (by omega) h2 (fun e=>by
  rcases h.place i e with e2 | e2
  ·exact h3 e2
  ·omega)).trans (h.same i h1 h2 h3),fun i e=>by
  rcases k.place i e with e2 | e2
  ·exact h.place i e2
  ·exact .inr (by omega)⟩
theorem kr.ofBelow {base eb:Nat} {v:Value} {w w':World} (h:Below w.heap.size w w') (hb:base<=w.heap.size):kr base eb v v w w':=⟨h.mono hb,fun k h1 _ _=>h.block k h1,fun _ e=> .inl e⟩
theorem eE.below {w w':World} {base eb:Nat} {v:Value} {acc:List bw} (h:eE w base eb v acc) (hb:Below w.heap.size w w'):eE w' base eb v acc:=by
 obtain⟨h1,ys,h2,h3,h4⟩:=h;exact⟨(hb.block _ (lt_of_block h1)).trans h1,ys,h2,bc h3 hb,fun y hy=>bc (h4 y hy) hb⟩
theorem aI {w:World} {k:Nat} {cs cs':Array Value} {t t':TypeId} {z z':Nat×Nat} (h:w.heap[k]? =some (.cells cs t z)) (h':w.heap[k]? =some (.cells cs' t' z')):t=t':=by
 have:=h.symm.trans h';simp at this;exact this.2.1
theorem dp {w w':World} {base sz n:Nat} {e:TypeId} {v:Value} {xs:List Value} (h:w.ownsRow base e sz v n xs) (hs: ∀k,k<w.heap.size->v.ownBlock=some k->w'.heap[k]? =w.heap[k]?):w'.ownsRow base e sz v n xs:=by
 obtain⟨hl,h2⟩:=h;refine⟨hl, ?_⟩
 rcases h2 with h2 | ⟨g,cap,cur,rfl,hg,hh,h3⟩
 ·exact .inl h2
 ·exact .inr ⟨g,cap,cur,rfl,hg,(hs g (lt_of_block hh) rfl).trans hh,h3⟩
theorem eE.push {w w2:World} {base eb:Nat} {v v' dv:Value} {ys:List iJ} {e:bw} (hx:w.heap[eb]? =some (.cells #[v] 46 (0,0))) (hr:w.ownsRow base 79 6 v ys.length (cV ys)) (hd: ∀y∈ys,w.ownsRow base 5 1 y.1 y.2.data.length (y.2.data.map an)) (hn:w.ownsRow base 5 1 dv e.data.length (e.data.map an))
  (hown:w2.ownsRow base 79 6 v' (ys.length+1) (cV ys++ob dv e)) (hg:w.grownBy w2 v.ownBlock) (hpl: ∀k,v'.ownBlock=some k->v.ownBlock=some k\/w.heap.size<=k) (hbe:base<=eb) (hbz:base<=w.heap.size):
  eE (w2.setCell ⟨eb,0,none⟩ v') base eb v' (ys.map Prod.snd++[e])/\kr base eb v v' w (w2.setCell ⟨eb,0,none⟩ v'):=by
 have hlt:=lt_of_block hx;have hne:v.ownBlock≠some eb:=fun h=>by
  obtain⟨cs,hc⟩:=aA hr h;exact absurd (aI hx hc) (by decide)
 have hne':v'.ownBlock≠some eb:=fun h=>by
  rcases hpl eb h with h | h
  ·exact hne h
  ·omega
 have hb2:=(hg.block eb hlt (fun h=>hne h.symm)).trans hx;have hdat: ∀(u:Value) (bs:List UInt8),w.ownsRow base 5 1 u bs.length (bs.map an)->(w2.setCell ⟨eb,0,none⟩ v').ownsRow base 5 1 u bs.length (bs.map an):=by
  intro u bs h;refine dp h (fun k hk hu=> ?_);obtain⟨cs,hc⟩:=aA h hu;rw[Below.heap_setCell _ _ _ _ (show k≠eb from fun e=>absurd (aI (e▸hc) hx) (by decide))];refine hg.block k hk (fun e=> ?_);obtain⟨cs2,hc2⟩:=aA hr e.symm;exact absurd (aI hc hc2) (by decide)
 refine⟨⟨?_,ys++[(dv,e)],by simp, ?_,fun y hy=> ?_⟩,⟨?_,fun k hk h1 h2=> ?_,hpl⟩⟩
 ·have:=dq (k:=0) hb2 v'
  simpa using this
 ·rw[List.length_append,List.length_singleton,od];exact hown.kept (aH _ _ _ _) (.inr (fun h=>hne' h))
 ·rcases List.mem_append.1 hy with hy | hy
  ·exact hdat _ _ (hd y hy)
  ·rw[List.mem_singleton]at hy;subst hy;exact hdat _ _ hn
 ·exact((Below.refl base w).grown hg hbz (fun k hk=>(hr.lt k hk).1)).grown (aH w2 eb 0 v') (Nat.le_trans hbz hg.size) (fun k hk=>by cases hk; exact hbe)
 ·rw[Below.heap_setCell _ _ _ _ (show k≠eb from h1)];exact hg.block k hk (fun e=>h2 e.symm)
structure mP (w : World) (h5 h6 base eb : Nat) (v itv : Value) (l : List aE) (wr : World) (v2 : Value) (acc : List bw) : Prop where
 box:eE wr base eb v2 acc
 kp:kr base eb v v2 w wr
 apart: ∀k,v2.ownBlock=some k->k<h5\/h6<=k
 lo:eb<h5
 ord:w.heap.size<=h5/\h5<=h6/\h6<=wr.heap.size
 its:aM (fun k=>h5<=k/\k<h6) wr itv l
theorem mP.step {w wr w':World} {h5 h6 base eb:Nat} {v itv v2 v3:Value} {l:List aE} {acc acc3:List bw} (h:mP w h5 h6 base eb v itv l wr v2 acc) (h1:eE w' base eb v3 acc3) (h2:kr base eb v2 v3 wr w'):mP w h5 h6 base eb v itv l w' v3 acc3:=by
 have ho:=h.ord;have hl:=h.lo;have hz:=h2.below.size;refine⟨h1,h.kp.trans h2 (by omega),fun k hk=> ?_,hl,⟨ho.1,ho.2.1,by omega⟩,h.its.same (fun k hk hS=>h2.same k hk (by omega) (fun e=> ?_))⟩
 ·rcases h2.place k hk with e | e
  ·exact h.apart k e
  ·exact .inr (by omega)
 ·have:=h.apart k e;omega
theorem mP.below {w wr w':World} {h5 h6 base eb:Nat} {v itv v2:Value} {l:List aE} {acc:List bw} (h:mP w h5 h6 base eb v itv l wr v2 acc) (hb:Below wr.heap.size wr w') (hbz:base<=wr.heap.size):mP w h5 h6 base eb v itv l w' v2 acc:=
 h.step (h.box.below hb) (kr.ofBelow hb hbz)
end Go.Proofs.YtpffpjbkbaleiaaGreatDoor
namespace Go.Proofs.YtpffpjbkbaleiaaGreatDoor
open Go Go.RowKit
theorem Bo {w:World} {b:Nat} {a0 a1 a2 x0 x1 x2:Value} {t:TypeId} (h:w.heap[b]? =some (.cells #[a0,a1,a2] t (0,0))):
  (((w.setCell ⟨b,0,none⟩ x0).setCell ⟨b,1,none⟩ x1).setCell ⟨b,2,none⟩ x2).heap[b]? =some (.cells #[x0,x1,x2] t (0,0)):=by
 have:=dq (k:=2) (dq (k:=1) (dq (k:=0) h x0) x1) x2
 simpa using this
theorem Bm {w:World} {b:Nat} {a0 a1 a2 a3 a4 a5 a6 a7 a8 a9 x0 x1 x2 x3 x4 x5 x6 x7 x8 x9:Value} {t:TypeId} (h:w.heap[b]? =some (.cells #[a0,a1,a2,a3,a4,a5,a6,a7,a8,a9] t (0,0))):
  ((((((((((w.setCell ⟨b,0,none⟩ x0).setCell ⟨b,1,none⟩ x1).setCell ⟨b,2,none⟩ x2).setCell ⟨b,3,none⟩ x3).setCell ⟨b,4,none⟩ x4).setCell ⟨b,5,none⟩ x5).setCell ⟨b,6,none⟩ x6).setCell ⟨b,7,none⟩ x7).setCell ⟨b,8,none⟩ x8).setCell ⟨b,9,none⟩ x9).heap[b]? =some (.cells #[x0,x1,x2,x3,x4,x5,x6,x7,x8,x9] t (0,0)):=by
 have:=dq (k:=9) (dq (k:=8) (dq (k:=7) (dq (k:=6) (dq (k:=5) (dq (k:=4) (dq (k:=3) (dq (k:=2) (dq (k:=1) (dq (k:=0) (h) x0) x1) x2) x3) x4) x5) x6) x7) x8) x9
 simpa using this
theorem df {B b:Nat} {a w:World} {x0 x1 x2:Value} (h:Below B a w) (hb:B<=b):Below B a (((w.setCell ⟨b,0,none⟩ x0).setCell ⟨b,1,none⟩ x1).setCell ⟨b,2,none⟩ x2):=(Below.setCell (Below.setCell (Below.setCell h hb x0) hb x1) hb x2)
theorem dw {B b:Nat} {a w:World} {x0 x1 x2 x3 x4 x5 x6 x7 x8 x9:Value} (h:Below B a w) (hb:B<=b):Below B a ((((((((((w.setCell ⟨b,0,none⟩ x0).setCell ⟨b,1,none⟩ x1).setCell ⟨b,2,none⟩ x2).setCell ⟨b,3,none⟩ x3).setCell ⟨b,4,none⟩ x4).setCell ⟨b,5,none⟩ x5).setCell ⟨b,6,none⟩ x6).setCell ⟨b,7,none⟩ x7).setCell ⟨b,8,none⟩ x8).setCell ⟨b,9,none⟩ x9):=(Below.setCell (Below.setCell (Below.setCell (Below.setCell (Below.setCell (Below.setCell (Below.setCell (Below.setCell (Below.setCell (Below.setCell h hb x0) hb x1) hb x2) hb x3) hb x4) hb x5) hb x6) hb x7) hb x8) hb x9)
theorem bK {b k:Nat} {w:World} {x0 x1 x2:Value} (hk:k≠b):(((w.setCell ⟨b,0,none⟩ x0).setCell ⟨b,1,none⟩ x1).setCell ⟨b,2,none⟩ x2).heap[k]? =w.heap[k]? :=(Below.heap_setCell _ _ _ _ hk).trans ((Below.heap_setCell _ _ _ _ hk).trans (Below.heap_setCell _ _ _ _ hk))
theorem kC {b k:Nat} {w:World} {x0 x1 x2 x3 x4 x5 x6 x7 x8 x9:Value} (hk:k≠b):((((((((((w.setCell ⟨b,0,none⟩ x0).setCell ⟨b,1,none⟩ x1).setCell ⟨b,2,none⟩ x2).setCell ⟨b,3,none⟩ x3).setCell ⟨b,4,none⟩ x4).setCell ⟨b,5,none⟩ x5).setCell ⟨b,6,none⟩ x6).setCell ⟨b,7,none⟩ x7).setCell ⟨b,8,none⟩ x8).setCell ⟨b,9,none⟩ x9).heap[k]? =w.heap[k]? :=(Below.heap_setCell _ _ _ _ hk).trans ((Below.heap_setCell _ _ _ _ hk).trans ((Below.heap_setCell _ _ _ _ hk).trans ((Below.heap_setCell _ _ _ _ hk).trans ((Below.heap_setCell _ _ _ _ hk).trans ((Below.heap_setCell _ _ _ _ hk).trans ((Below.heap_setCell _ _ _ _ hk).trans ((Below.heap_setCell _ _ _ _ hk).trans ((Below.heap_setCell _ _ _ _ hk).trans (Below.heap_setCell _ _ _ _ hk)))))))))
def oq (c:ByteArray):List aE->Nat->Int
 | [],_=> -1
 | x::t,k=>if x.name=c then(k:Int)else oq c t (k+1)
theorem qG {c:ByteArray} {l:List aE} {k:Nat} {x:aE} (h:l[k]? =some x):oq c (l.drop k) k=if x.name=c then(k:Int)else oq c (l.drop (k+1)) (k+1):=by
 obtain⟨hk,rfl⟩:=List.getElem?_eq_some_iff.1 h;rw[List.drop_eq_getElem_cons hk,oq]
theorem qH (c:ByteArray): ∀(l:List aE) (k:Nat),(l.find? (fun y=>decide (y.name=c))=none/\oq c l k= -1)\/ ∃(j:Nat) (y:aE),l[j]? =some y/\l.find? (fun y=>decide (y.name=c))=some y/\oq c l k=((k+j:Nat):Int)
 | [],_=> .inl ⟨rfl,rfl⟩
 | x::t,k=>by
  by_cases h:x.name=c
  ·exact .inr ⟨0,x,rfl,by rw[List.find?_cons_of_pos (by simp[h])],by rw[oq,if_pos h]; rfl⟩
  ·rw[List.find?_cons_of_neg (by simp[h]),oq,if_neg h]
   rcases qH c t (k+1)with⟨h1,h2⟩ | ⟨j,y,h1,h2,h3⟩
   ·exact .inl ⟨h1,h2⟩
   ·exact .inr ⟨j+1,y,by simpa using h1,h2,by rw[h3]; congr 1; omega⟩
theorem qQ (it:aE) (cv:Value) (c:ByteArray) (pb:Nat) (w:World) (hc:w.cell? ⟨pb,0,none⟩=some (.string c)):
  Calls Tryz.prog 85 #[eZ cv it, .pointer (some ⟨pb,0,none⟩)] w fun e w'=>e= .returned (.bool (decide (it.name=c)))/\Below w.heap.size w w':=by
 have hlt:=aR hc;simp only at hlt;have hne: ¬pb=w.heap.size:=by omega
 unfold eZ
 go_enter Tryz.func85,Tryz.ntmps85
 go_wp2_with fail;go_ret;refine⟨am ?_,(Below.refl _ _).alloc (Nat.le_refl _) _⟩;rw[Bool.eq_iff_iff];simp only[ci,beq_iff_eq,decide_eq_true_eq];exact⟨fun h=>eM h,fun h=>by rw[h]⟩
theorem pL (S:Nat->Prop) (l:List aE) (c:ByteArray) (pb:Nat) (v:Value) (w:World) (hv:aM S w v l) (hc:w.cell? ⟨pb,0,none⟩=some (.string c)):
  Calls Tryz.prog 84 #[v, .func (.func 85) #[] #[.pointer (some ⟨pb,0,none⟩)]] w fun e w'=>e= .returned (.int .i64 (oq c l 0))/\Below w.heap.size w w':=by
 obtain⟨a,cap,rfl,hcp,hm,-⟩:=aJ.shape hv cM.len;unfold maxLen at hm;have HV:=ab hv;have HC:=ab hc;clear hv hc
 go_enter Tryz.func84,Tryz.ntmps84
 go_wp2_with fail
 go_loopw [8] (fun i wr=> ∃k:Nat,k<=l.length/\i= .int .i64 k/\Below w.heap.size w wr/\oq c l 0=oq c (l.drop k) k) (fun i _=>l.length-(intOf i).toNat)
 case atStart=>exact⟨0,Nat.zero_le _,rfl,Below.refl _ _,rfl⟩
 case round=>
  obtain⟨k,hk,rfl,hb,hd⟩:=hrel;have HB:=ab hb;have HD:=ab hd;clear hb hd
  by_cases hlt:k<l.length
  ·obtain⟨it,hr⟩: ∃it,l[k]? =some it:=⟨l[k],by simp[hlt]⟩;obtain⟨b,o,ca,cc,rfl,-,-,hbl,-,hcl⟩:=cW HV.out HB.out hr;have q0:=hcl 0 (by omega);have q1:=hcl 1 (by omega);have q2:=hcl 2 (by omega);have q3:=hcl 3 (by omega);have q4:=hcl 4 (by omega);have q5:=hcl 5 (by omega);have q6:=hcl 6 (by omega);have q7:=hcl 7 (by omega);have q8:=hcl 8 (by omega);have q9:=hcl 9 (by omega)
   simp only[cN,vr,Nat.add_zero]at q0 q1 q2 q3 q4 q5 q6 q7 q8 q9;have HC2:=ab ((HB.out.cell (p:=⟨pb,0,none⟩) (aR HC.out)).trans HC.out);have HR:=ab hr;clear hcl hr
   by_cases hin:it.name=c
   ·have HIN:=ab hin;clear hin;go_wp2_with (go_at_call 85; refine(qQ it (.slice ca it.chunks.length cc) c pb _ HC2.out).mono ?_; rintro e w1 ⟨rfl,hb1⟩; rw[decide_eq_true HIN.out]; have HB1:=ab hb1; clear hb1);go_ret;exact⟨cn (by rw[HD.out,qG HR.out,if_pos HIN.out]),ah HB.out HB1.out⟩
   ·have HIN:=ab hin;clear hin;go_wp2_with (go_at_call 85; refine(qQ it (.slice ca it.chunks.length cc) c pb _ HC2.out).mono ?_; rintro e w1 ⟨rfl,hb1⟩; rw[decide_eq_false HIN.out]; have HB1:=ab hb1; clear hb1)
    go_roundw
    case rel=>exact⟨k+1,by omega,by go_num,ah HB.out HB1.out,by rw[HD.out,qG HR.out,if_neg HIN.out]⟩
    case measure=>simp[intOf]; omega
  ·go_wp2_with fail;go_ret;exact⟨cn (by rw[HD.out,List.drop_eq_nil_of_le (by omega)]; rfl),HB.out⟩
end Go.Proofs.YtpffpjbkbaleiaaGreatDoor
namespace Go.Proofs.YtpffpjbkbaleiaaGreatDoor
open Go.RowKit
theorem ti (a:Option Addr) (c:Nat) (w:World):(convert 29 9 (.slice a 0 c)).run Tryz.prog w= .ok (.string ⟨#[]⟩) w:=by cases a<;> kernel_rfl
theorem xU {S:Nat->Prop} {w:World} {v:Value} {bs:List UInt8} (hd:bE S w v bs):(convert 29 9 v).run Tryz.prog w= .ok (.string (strOfNums (bs.map fun b=>(b.toNat:Int)))) w:=by
 obtain⟨_,a,cap,rfl,hn,hm,h0⟩:=hd
 rcases h0 with h0 | ⟨b,o,rfl,_,hc⟩
 ·obtain rfl:=List.eq_nil_of_length_eq_zero h0;exact ti a cap w
 ·exact run_convert_bytes_arg (P:=Tryz.prog) w 29 5 Tryz.underlying29 Tryz.underlying5 b o bs.length cap (bs.map fun b=>(b.toNat:Int)) (by simp) (fun i hi=>by
   rw[hc i (u8V bs[i]) (by simp[hi])];simp[u8V,List.getD,hi]) 9 Tryz.underlying9
end Go.Proofs.YtpffpjbkbaleiaaGreatDoor
namespace Go.Proofs.YtpffpjbkbaleiaaGreatDoor
open Go.RowKit Go.Maps
theorem ey (p q:ByteArray) (w:World) (he:fN w) (hv:bh (bl p)=true) (hq:q=⟨(aT (bl p)).toArray⟩):
  Calls Tryz.prog 72 #[.string p] w fun e w'=>e= .returned (.tuple #[.string q, .bool true])/\Below w.heap.size w w':=by
 rw[hq]; exact vQ p w he hv
theorem no (q:ByteArray):q.toList.isEmpty=decide (bl q=[]):=by rw[ci,Bool.eq_iff_iff]; simp
end Go.Proofs.YtpffpjbkbaleiaaGreatDoor
namespace Go.Proofs.YtpffpjbkbaleiaaGreatDoor
open Go.RowKit Go.Maps
theorem kg (S:Nat->Prop) (en:bw) (v:Value) (b:Bool) (w:World) (hd:bE S w v en.data) (hok:gE en) (henv:fN w) (h:ig en=b):Calls Tryz.prog 117 #[DC v en] w fun e w'=>e= .returned (.bool b)/\Below w.heap.size w w':=by
 rw[<-h]; exact ws S en v w hd hok henv
end Go.Proofs.YtpffpjbkbaleiaaGreatDoor
namespace Go.Proofs.YtpffpjbkbaleiaaGreatDoor
open Go.RowKit Go.Maps
theorem qn : ∀ {m pre:List bw} (r:List bw),Tr (pre++m)->gV pre (m++r)=gV (pre++m) r
 | [],pre,r,_=>by simp
 | e::m,pre,r,h=>by
  have h1:Tr (pre++[e]):=Tr.pre (M:=m) (by simpa using h);have h2:=(jm h1.pre e).2 h1;have h3:=qn (m:=m) (pre:=pre++[e]) r (by simpa using h);rw[List.cons_append,gV,if_pos h2,h3];simp
theorem sZ {L:List bw} (hl:L.length<=4096) {k:Nat} (h:Tr (L.take k)):cP L=gV (L.take k) (L.drop k):=by
 have h1:=qn (m:=L.take k) (pre:=[]) (L.drop k) (by simpa using h);rw[List.take_append_drop,List.nil_append]at h1;unfold cP;rw[if_neg (by omega),h1]
theorem qx {α:Type} {L:List α} {k:Nat} {e:α} (h:L[k]? =some e):L.drop k=e::L.drop (k+1):=by
 obtain⟨h1,h2⟩:=List.getElem?_eq_some_iff.1 h;rw[List.drop_eq_getElem_cons h1,h2]
theorem fe {L:List bw} (hl:L.length<=4096) {k:Nat} (h:Tr (L.take k)) {e:bw} (he:L[k]? =some e) {x:Int} (hx:cI (L.take k) e=x) (h0:x≠0):cP L=x:=by
 rw[sZ hl h,qx he,gV,hx,if_neg h0]
theorem iM {L:List bw} {k:Nat} (h:Tr (L.take k)) {e:bw} (he:L[k]? =some e) (hx:cI (L.take k) e=0):Tr (L.take (k+1)):=by
 rw[List.take_add_one,he];exact(jm h e).1 hx
theorem uX {L:List bw} (hl:L.length<=4096) (h:Tr (L.take L.length)):cP L=0:=by
 rw[sZ hl h,List.drop_length]; rfl
theorem xR {L:List bw} (hl:4096<L.length):cP L=2:=by unfold cP; rw[if_pos hl]
def oC (e:bw):Value×Value:=(.string e.path, .int .i64 e.kind)
theorem ew :Tryz.prog.underlying 47=some (.map 9 3):=Tryz.underlying47
theorem vJ (w:World) (n:Nat) (hn:n<=4096):(Instr.makeMap 47 (some (.int .i64 (n:Int)))).run Tryz.prog w= .ok (.map (some w.heap.size)) (w.alloc (.map #[] 0)):=by
 have h1:IntKind.i64.wrap (n:Int)=n:=by rw[IntKind.wrap_i64]; omega
 simp[Instr.makeMap,asInt,asIntOf]
theorem jV {w:World} {mb:Nat} {M:List bw} (h:cK Tryz.prog 9 w mb (M.map oC)) {p:ByteArray} (hp:p.size<=maxLen) {f:bw} (hf:gJ M p=some f):
  (Instr.lookup 47 (.map (some mb)) (.string p) true).run Tryz.prog w= .ok (.tuple #[.int .i64 f.kind, .bool true]) w:=by
 obtain⟨h1,h2⟩:=kz hf;have h3:(Value.string p,Value.int .i64 f.kind)∈M.map oC:=List.mem_map.2 ⟨f,h1,by rw[<-h2]; rfl⟩;have:=h.is.hit bO ew (cy hp) h3 true
 simpa only[if_true]using this
theorem oD {w:World} {mb:Nat} {M:List bw} (h:cK Tryz.prog 9 w mb (M.map oC)) {p:ByteArray} (hp:p.size<=maxLen) (hf:gJ M p=none):
  (Instr.lookup 47 (.map (some mb)) (.string p) true).run Tryz.prog w= .ok (.tuple #[.int .i64 0, .bool false]) w:=by
 have hz:(zeroValue 3).run Tryz.prog w= .ok (.int .i64 0) w:=by kernel_rfl
 have:=h.is.miss bO ew hz (cy hp) (fun q hq e=>by
  obtain⟨x,hx,rfl⟩:=List.mem_map.1 hq;simp only[oC,Value.string.injEq]at e;exact og hf x hx e) true
 simpa only[if_true]using this
theorem jW {M:List bw} {e:bw} (h:Tr (M++[e])): ∀q∈M.map oC,q.1≠Value.string e.path:=by
 intro q hq hc;obtain⟨x,hx,rfl⟩:=List.mem_map.1 hq;simp only[oC,Value.string.injEq]at hc;have hn:=h.ord.nodup;rw[List.map_append,List.nodup_append]at hn;exact hn.2.2 x.path (List.mem_map.2 ⟨x,hx,rfl⟩) e.path (by simp) hc
theorem qs (a b:ByteArray) (o:Int) (w:World) (ha:a.size<=maxLen) (h:cL (bl a) (bl b)=o):Calls Tryz.prog 118 #[.string a, .string b] w fun e w'=>e= .returned (.int .i64 o)/\Below w.heap.size w w':=by
 rw[<-h]; exact tg a b w (by unfold maxLen at ha; omega)
theorem zV {L:List bw} {k:Nat} {f e:bw} (hf:L[k]? =some f):ji (L.take (k+1)) e=decide (cL (bl f.path) (bl e.path)<0):=by
 have:(L.take (k+1)).getLast? =some f:=by rw[List.take_add_one,hf]; simp
 unfold ji;rw[this]; rfl
end Go.Proofs.YtpffpjbkbaleiaaGreatDoor
namespace Go.Proofs.YtpffpjbkbaleiaaGreatDoor
open Go.RowKit Go.Maps
def Dv (L:List bw) (mb:Nat) (w:World) (k:Nat) (wr:World):Prop:=Tr (L.take k)/\cK Tryz.prog 9 wr mb ((L.take k).map oC)/\Below w.heap.size w wr
theorem xQ (S:Nat->Prop) (L:List bw) (v:Value) (w:World) (hv:dA S w v L) (henv:fN w):Calls Tryz.prog 71 #[v] w fun e w'=>e= .returned (.int .i64 (cP L))/\Below w.heap.size w w':=by
 have HV:=ab hv;have HE:=ab henv;obtain⟨a,cap,rfl,hc,hm,-⟩:=aJ.shape hv pD.len;unfold maxLen at hm;obtain⟨n,hn⟩: ∃n,n=L.length:=⟨_,rfl⟩;have HN:=ab hn;rw[<-hn]at hc HV ⊢;clear hv henv
 by_cases hbig:4096<n
 ·have hbi:(4096:Int)<(n:Int):=by omega
  have HC:=ab (xR (by rw[<-hn]; exact hbig));clear hbig hn
  go_enter Tryz.func71,Tryz.ntmps71
  go_wp2_with fail;go_ret;exact⟨cn (by rw[HC.out]),Below.refl _ _⟩
 ·have hbi:(n:Int)<=(4096:Int):=by omega
  have hmk:=vJ w n (by omega);have HL4:=ab (show L.length<=4096 by omega);clear hbig hn
  go_enter Tryz.func71,Tryz.ntmps71
  go_wp2_with fail;obtain⟨W0,hW0⟩: ∃W0,W0=w.alloc (.map #[] 0):=⟨_,rfl⟩;rw[<-hW0];have HM0:=ab (show cK Tryz.prog 9 W0 w.heap.size [] by rw[hW0]; exact cK.made w);have HB0:=ab (show Below w.heap.size w W0 by rw[hW0]; exact(Below.refl _ _).alloc (Nat.le_refl _) _);clear hW0;clear hmk
  go_loopw [18] (fun i wr=> ∃k:Nat,k<=n/\i= .int .i64 k/\Dv L w.heap.size w k wr) (fun i _=>n-(intOf i).toNat)
  case atStart=>exact⟨0,Nat.zero_le _,rfl,⟨List.Pairwise.nil,by simp,by simp⟩,HM0.out,HB0.out⟩
  case round=>
   obtain⟨k,hk,rfl,htr,hkm,hbr⟩:=hrel;have HTR:=ab htr;have HKM:=ab hkm;have HBR:=ab hbr;clear htr hkm hbr
   by_cases hlt:k<n
   ·obtain⟨e,he⟩: ∃e,L[k]? =some e:=⟨L[k]'(by rw[<-HN.out]; exact hlt),by simp⟩;obtain⟨b,o,dv,rfl,-,hb,hd,hok,-,q0,q1,q2,q3,q4,q5⟩:=jT (HV.out.below HBR.out) he;have HAT:=ab he;have HD:=ab hd;have HOK:=ab hok;obtain⟨a1,cap1,rfl,hd1,hd2⟩:=hd.slice;unfold maxLen at hd2;clear he hd hok
    cases hve:ig e
    ·have HVE:=ab hve;have HCA:=ab (show cI (L.take k) e=1 by unfold cI; rw[hve]; rfl);clear hve;go_wp2_with fail;obtain⟨W,hW⟩: ∃W,W=wr.alloc (.cells #[.string e.path, .int .i64 e.kind, .int .i64 e.mode, .int .i64 e.time, .slice a1 e.data.length cap1, .string e.link] 79):=⟨_,rfl⟩;rw[<-hW];have HX:=ab (show W.heap[wr.heap.size]? =some (.cells #[.string e.path, .int .i64 e.kind, .int .i64 e.mode, .int .i64 e.time, .slice a1 e.data.length cap1, .string e.link] 79 (0,0)) by rw[hW]; exact bY wr _)
     have HWL:=ab (show Below wr.heap.size wr W by rw[hW]; exact(Below.refl _ _).alloc (Nat.le_refl _) _);have HBW:=ab (ah HBR.out HWL.out);clear hW;refine(kg S e _ false _ (HD.out.below HWL.out) HOK.out (HE.out.below HBW.out) HVE.out).mono ?_;rintro e7 w7 ⟨rfl,hb7⟩;have HB9:=ab (ah HBW.out hb7);clear hb7;go_wp2_with fail;go_ret;exact⟨cn (by rw[fe HL4.out HTR.out HAT.out (x:=1) HCA.out (by decide)]),HB9.out⟩
    ·have HVE:=ab hve;obtain⟨q,hq⟩: ∃q:ByteArray,q=⟨(aT (bl e.path)).toArray⟩:=⟨_,rfl⟩;have HBQ:=ab (show bl q=aT (bl e.path) by rw[hq]; exact eN _);have HQ:=ab hq;have HQS:=ab (show q.size<=maxLen by
      have h1:=gu (bL hve);have h2:=wt (bL hve);rw[ay,HBQ.out]; unfold maxLen; omega)
     clear hve hq
     rcases Nat.eq_zero_or_pos k with hk0 | hk0
     ·have e9:decide (0<k)=false:=by simp; omega
      have e8:(k:Int)<=0:=by omega
      have HCV:=ab (show(ig e && ji (L.take k) e)=true by rw[hk0,HVE.out]; rfl);clear hk0;go_wp2_with fail;obtain⟨W,hW⟩: ∃W,W=wr.alloc (.cells #[.string e.path, .int .i64 e.kind, .int .i64 e.mode, .int .i64 e.time, .slice a1 e.data.length cap1, .string e.link] 79):=⟨_,rfl⟩;rw[<-hW];have HX:=ab (show W.heap[wr.heap.size]? =some (.cells #[.string e.path, .int .i64 e.kind, .int .i64 e.mode, .int .i64 e.time, .slice a1 e.data.length cap1, .string e.link] 79 (0,0)) by rw[hW]; exact bY wr _)
      have HWL:=ab (show Below wr.heap.size wr W by rw[hW]; exact(Below.refl _ _).alloc (Nat.le_refl _) _);have HBW:=ab (ah HBR.out HWL.out);clear hW;refine(kg S e _ true _ (HD.out.below HWL.out) HOK.out (HE.out.below HBW.out) HVE.out).mono ?_;rintro e7 w7 ⟨rfl,hb7⟩;have HX7:=ab ((hb7.block wr.heap.size (mQ HX.out)).trans HX.out);have HL7:=ab (HWL.out.trans (hb7.mono HWL.out.size))
      have c0:=aa (k:=0) HX7.out;have c1:=aa (k:=1) HX7.out;have c2:=aa (k:=2) HX7.out;have c3:=aa (k:=3) HX7.out;have c4:=aa (k:=4) HX7.out;have c5:=aa (k:=5) HX7.out;simp only[aW]at c0 c1 c2 c3 c4 c5;clear hb7;go_wp2_with fail;refine aw [some 11,none,some 2] (by kernel_rfl) (by kernel_rfl) (by kernel_rfl) ?_;simp only[bi,List.take_succ_cons,List.take_zero,List.drop_succ_cons,List.drop_zero]
      obtain⟨wd,hwd⟩: ∃wd:World,wd=w7.drew:=⟨_,rfl⟩;rw[<-hwd];have HLD:=ab (show Below wr.heap.size wr wd by rw[hwd]; exact HL7.out.trans ((Below.refl w7.heap.size w7).drew.mono HL7.out.size));have HXD:=ab (show wd.heap[wr.heap.size]? =some (.cells #[.string e.path, .int .i64 e.kind, .int .i64 e.mode, .int .i64 e.time, .slice a1 e.data.length cap1, .string e.link] 79 (0,0)) by rw[hwd]; exact HX7.out)
      clear hwd c0 c1 c2 c3 c4 c5;have c0:=aa (k:=0) HXD.out;have c1:=aa (k:=1) HXD.out;have c2:=aa (k:=2) HXD.out;have c3:=aa (k:=3) HXD.out;have c4:=aa (k:=4) HXD.out;have c5:=aa (k:=5) HXD.out;simp only[aW]at c0 c1 c2 c3 c4 c5
      repeat (first | (refine aG rfl ?_; simp only[Act.put,aB,aC,aD]) | (refine aL rfl (fun K hK=> ?_); go_simp; refine hK _ ?_; clear hK K))
      refine aK ?_;refine zY rfl ?_;simp only[Act.put,aB,aC,aD]
      repeat (first | (refine aG rfl ?_; simp only[Act.put,aB,aC,aD]) | (refine aL rfl (fun K hK=> ?_); go_simp; refine hK _ ?_; clear hK K))
      refine aK ?_;clear c0 c1 c2 c3 c4 c5;have HL8:=ab HLD.out;have HX8:=ab HXD.out;have HB8:=ab (ah HBR.out HLD.out);have c0:=aa (k:=0) HX8.out;have c1:=aa (k:=1) HX8.out;have c2:=aa (k:=2) HX8.out;have c3:=aa (k:=3) HX8.out;have c4:=aa (k:=4) HX8.out;have c5:=aa (k:=5) HX8.out;simp only[aW]at c0 c1 c2 c3 c4 c5;go_wp2_with fail
      by_cases h0:aT (bl e.path)=[]
      ·have e1:q.toList.isEmpty=true:=by rw[no,HBQ.out,decide_eq_true h0]
       have HTN:=ab (iM HTR.out HAT.out (show cI (L.take k) e=0 by unfold cI; rw[if_pos HCV.out]; unfold kU; rw[if_pos h0]));clear h0;refine(ey e.path q _ (HE.out.below HB8.out) (bL HVE.out) HQ.out).mono ?_;rintro e9 w9 ⟨rfl,hb9⟩;have HL9:=ab (HL8.out.trans (hb9.mono HL8.out.size));have HB9:=ab (ah HB8.out hb9);have HX9:=ab ((hb9.block wr.heap.size (mQ HX8.out)).trans HX8.out)
       have HK9:=ab (HKM.out.same (HL9.out.block w.heap.size HKM.out.lt));clear hb9;have c0:=aa (k:=0) HX9.out;have c1:=aa (k:=1) HX9.out;have c2:=aa (k:=2) HX9.out;have c3:=aa (k:=3) HX9.out;have c4:=aa (k:=4) HX9.out;have c5:=aa (k:=5) HX9.out;simp only[aW]at c0 c1 c2 c3 c4 c5;go_wp2_with (at_mapUpdate; go_must (refine dU bO rfl _ _ _ _ rfl ew w.heap.size _ HK9.out rfl (.string e.path) (.int .i64 e.kind) rfl rfl (cy HOK.out.pth) (jW (by have h1:=HTN.out; rw[List.take_add_one,HAT.out]at h1; exact h1)) ?_); intro w10 hm10 hg10)
       have HM10:=ab hm10;have HG10:=ab hg10;clear hm10 hg10 c0 c1 c2 c3 c4 c5;go_wp2_with fail
       go_roundw
       case rel=>
        refine⟨k+1,by omega,by go_num,HTN.out, ?_, ?_⟩
        ·rw[List.take_add_one,HAT.out,List.map_append]; exact HM10.out
        ·exact HB9.out.grown HG10.out HB9.out.size (fun k e=>by cases e; exact Nat.le_refl _)
       case measure=>simp[intOf]; omega
      ·have e1:q.toList.isEmpty=false:=by rw[no,HBQ.out,decide_eq_false h0]
       have HDI:=ab (show ∀x,(match gJ (L.take k) q with | none=>(4:Int) | some f=>if f.kind=2 then 0 else 13)=x->cI (L.take k) e=x from fun x hx=>by unfold cI; rw[if_pos HCV.out]; unfold kU; rw[if_neg h0,<-HQ.out]; exact hx);clear h0
       cases hf:gJ (L.take k) q with
       | none=>
        have HF:=ab hf;have HCA:=ab (HDI.out 4 (by rw[hf]));clear hf;refine(ey e.path q _ (HE.out.below HB8.out) (bL HVE.out) HQ.out).mono ?_;rintro e9 w9 ⟨rfl,hb9⟩;have HL9:=ab (HL8.out.trans (hb9.mono HL8.out.size));have HB9:=ab (ah HB8.out hb9);have HX9:=ab ((hb9.block wr.heap.size (mQ HX8.out)).trans HX8.out);have HK9:=ab (HKM.out.same (HL9.out.block w.heap.size HKM.out.lt))
        clear hb9;have c0:=aa (k:=0) HX9.out;have c1:=aa (k:=1) HX9.out;have c2:=aa (k:=2) HX9.out;have c3:=aa (k:=3) HX9.out;have c4:=aa (k:=4) HX9.out;have c5:=aa (k:=5) HX9.out;simp only[aW]at c0 c1 c2 c3 c4 c5;have hlk:=oD HK9.out HQS.out HF.out;go_wp2_with fail;go_ret;exact⟨cn (by rw[fe HL4.out HTR.out HAT.out (x:=4) HCA.out (by decide)]),HB9.out⟩
       | some f=>
        have HF:=ab hf
        by_cases hk2:f.kind=2
        ·have e3:(f.kind != 2)=false:=by simp[hk2]
         have HTN:=ab (iM HTR.out HAT.out (HDI.out 0 (by rw[hf]; simp only[if_pos hk2])));clear hf hk2;refine(ey e.path q _ (HE.out.below HB8.out) (bL HVE.out) HQ.out).mono ?_;rintro e9 w9 ⟨rfl,hb9⟩;have HL9:=ab (HL8.out.trans (hb9.mono HL8.out.size));have HB9:=ab (ah HB8.out hb9);have HX9:=ab ((hb9.block wr.heap.size (mQ HX8.out)).trans HX8.out);have HK9:=ab (HKM.out.same (HL9.out.block w.heap.size HKM.out.lt))
         clear hb9;have c0:=aa (k:=0) HX9.out;have c1:=aa (k:=1) HX9.out;have c2:=aa (k:=2) HX9.out;have c3:=aa (k:=3) HX9.out;have c4:=aa (k:=4) HX9.out;have c5:=aa (k:=5) HX9.out;simp only[aW]at c0 c1 c2 c3 c4 c5;have hlk:=jV HK9.out HQS.out HF.out;go_wp2_with (at_mapUpdate; go_must (refine dU bO rfl _ _ _ _ rfl ew w.heap.size _ HK9.out rfl (.string e.path) (.int .i64 e.kind) rfl rfl (cy HOK.out.pth) (jW (by have h1:=HTN.out; rw[List.take_add_one,HAT.out]at h1; exact h1)) ?_); intro w10 hm10 hg10)
         have HM10:=ab hm10;have HG10:=ab hg10;clear hm10 hg10 c0 c1 c2 c3 c4 c5;go_wp2_with fail
         go_roundw
         case rel=>
          refine⟨k+1,by omega,by go_num,HTN.out, ?_, ?_⟩
          ·rw[List.take_add_one,HAT.out,List.map_append]; exact HM10.out
          ·exact HB9.out.grown HG10.out HB9.out.size (fun k e=>by cases e; exact Nat.le_refl _)
         case measure=>simp[intOf]; omega
        ·have e3:(f.kind != 2)=true:=by simp[hk2]
         have HCA:=ab (HDI.out 13 (by rw[hf]; simp only[if_neg hk2]));clear hf hk2;refine(ey e.path q _ (HE.out.below HB8.out) (bL HVE.out) HQ.out).mono ?_;rintro e9 w9 ⟨rfl,hb9⟩;have HL9:=ab (HL8.out.trans (hb9.mono HL8.out.size));have HB9:=ab (ah HB8.out hb9);have HX9:=ab ((hb9.block wr.heap.size (mQ HX8.out)).trans HX8.out);have HK9:=ab (HKM.out.same (HL9.out.block w.heap.size HKM.out.lt))
         clear hb9;have c0:=aa (k:=0) HX9.out;have c1:=aa (k:=1) HX9.out;have c2:=aa (k:=2) HX9.out;have c3:=aa (k:=3) HX9.out;have c4:=aa (k:=4) HX9.out;have c5:=aa (k:=5) HX9.out;simp only[aW]at c0 c1 c2 c3 c4 c5;have hlk:=jV HK9.out HQS.out HF.out;go_wp2_with fail;go_ret;exact⟨cn (by rw[fe HL4.out HTR.out HAT.out (x:=13) HCA.out (by decide)]),HB9.out⟩
     ·obtain⟨j,rfl⟩: ∃j,k=j+1:=⟨k-1,by omega⟩;obtain⟨f,hf⟩: ∃f,L[j]? =some f:=⟨L[j]'(by rw[<-HN.out]; omega),by simp⟩;obtain⟨b',o',dv',he',-,-,-,hokf,-,p0,-⟩:=jT (HV.out.below HBR.out) hf;simp only[Option.some.injEq,Addr.mk.injEq,and_true]at he';obtain⟨rfl,rfl⟩:=he';have HPF:=ab hokf.pth;obtain⟨c,hc⟩: ∃c,cL (bl f.path) (bl e.path)=c:=⟨_,rfl⟩
      have HC:=ab hc;have e9:decide (0<j+1)=true:=by simp
      have hjn:j<n:=by omega
      have hjn2:(j:Int)<(n:Int):=by omega
      have hjn3:decide (j<n)=true:=by simp; omega
      have hwj:IntKind.i64.wrap (j:Int)=j:=by rw[IntKind.wrap_i64]; omega
      have HAF:=ab (show ji (L.take (j+1)) e=decide (c<0) by rw[zV hf,hc]);clear hf hokf hc hk0
      by_cases hneg:c<0
      ·have HCV:=ab (show(ig e && ji (L.take (j+1)) e)=true by rw[HVE.out,HAF.out,decide_eq_true hneg]; rfl);have e8:decide (0<=c)=false:=by simp; omega
       go_wp2_with fail;obtain⟨W,hW⟩: ∃W,W=wr.alloc (.cells #[.string e.path, .int .i64 e.kind, .int .i64 e.mode, .int .i64 e.time, .slice a1 e.data.length cap1, .string e.link] 79):=⟨_,rfl⟩;rw[<-hW];have HX:=ab (show W.heap[wr.heap.size]? =some (.cells #[.string e.path, .int .i64 e.kind, .int .i64 e.mode, .int .i64 e.time, .slice a1 e.data.length cap1, .string e.link] 79 (0,0)) by rw[hW]; exact bY wr _)
       have HWL:=ab (show Below wr.heap.size wr W by rw[hW]; exact(Below.refl _ _).alloc (Nat.le_refl _) _);have HBW:=ab (ah HBR.out HWL.out);clear hW;refine(kg S e _ true _ (HD.out.below HWL.out) HOK.out (HE.out.below HBW.out) HVE.out).mono ?_;rintro e7 w7 ⟨rfl,hb7⟩;have HX7:=ab ((hb7.block wr.heap.size (mQ HX.out)).trans HX.out);have HL7:=ab (HWL.out.trans (hb7.mono HWL.out.size))
       have c0:=aa (k:=0) HX7.out;have c1:=aa (k:=1) HX7.out;have c2:=aa (k:=2) HX7.out;have c3:=aa (k:=3) HX7.out;have c4:=aa (k:=4) HX7.out;have c5:=aa (k:=5) HX7.out;simp only[aW]at c0 c1 c2 c3 c4 c5;clear hb7;go_wp2_with fail;refine aw [some 11,none,some 2] (by kernel_rfl) (by kernel_rfl) (by kernel_rfl) ?_;simp only[bi,List.take_succ_cons,List.take_zero,List.drop_succ_cons,List.drop_zero]
       obtain⟨wd,hwd⟩: ∃wd:World,wd=w7.drew:=⟨_,rfl⟩;rw[<-hwd];have HLD:=ab (show Below wr.heap.size wr wd by rw[hwd]; exact HL7.out.trans ((Below.refl w7.heap.size w7).drew.mono HL7.out.size));have HXD:=ab (show wd.heap[wr.heap.size]? =some (.cells #[.string e.path, .int .i64 e.kind, .int .i64 e.mode, .int .i64 e.time, .slice a1 e.data.length cap1, .string e.link] 79 (0,0)) by rw[hwd]; exact HX7.out)
       clear hwd c0 c1 c2 c3 c4 c5;have c0:=aa (k:=0) HXD.out;have c1:=aa (k:=1) HXD.out;have c2:=aa (k:=2) HXD.out;have c3:=aa (k:=3) HXD.out;have c4:=aa (k:=4) HXD.out;have c5:=aa (k:=5) HXD.out;simp only[aW]at c0 c1 c2 c3 c4 c5;have y0:=(HLD.out.cell (aR p0)).trans p0
       repeat (first | (refine aG rfl ?_; simp only[Act.put,aB,aC,aD]) | (refine aL rfl (fun K hK=> ?_); go_simp; refine hK _ ?_; clear hK K))
       refine aK ?_;refine bA rfl (fun K hK=> ?_);go_wp2_with (go_at_call 118; refine(qs f.path e.path c _ HPF.out HC.out).mono ?_; rintro e8' w8 ⟨rfl,hb8⟩; have HL8:=ab (HLD.out.trans (hb8.mono HLD.out.size)); have HX8:=ab ((hb8.block wr.heap.size (mQ HXD.out)).trans HXD.out); clear hb8 c0 c1 c2 c3 c4 c5 y0)
       repeat (first | (refine aG rfl ?_; simp only[Act.put,aB,aC,aD]) | (refine aL rfl (fun K hK=> ?_); go_simp; refine hK _ ?_; clear hK K))
       refine aK ?_;have HB8:=ab (ah HBR.out HL8.out);have c0:=aa (k:=0) HX8.out;have c1:=aa (k:=1) HX8.out;have c2:=aa (k:=2) HX8.out;have c3:=aa (k:=3) HX8.out;have c4:=aa (k:=4) HX8.out;have c5:=aa (k:=5) HX8.out;simp only[aW]at c0 c1 c2 c3 c4 c5;go_wp2_with fail
       by_cases h0:aT (bl e.path)=[]
       ·have e1:q.toList.isEmpty=true:=by rw[no,HBQ.out,decide_eq_true h0]
        have HTN:=ab (iM HTR.out HAT.out (show cI (L.take (j+1)) e=0 by unfold cI; rw[if_pos HCV.out]; unfold kU; rw[if_pos h0]));clear h0;refine(ey e.path q _ (HE.out.below HB8.out) (bL HVE.out) HQ.out).mono ?_;rintro e9 w9 ⟨rfl,hb9⟩;have HL9:=ab (HL8.out.trans (hb9.mono HL8.out.size));have HB9:=ab (ah HB8.out hb9);have HX9:=ab ((hb9.block wr.heap.size (mQ HX8.out)).trans HX8.out)
        have HK9:=ab (HKM.out.same (HL9.out.block w.heap.size HKM.out.lt));clear hb9;have c0:=aa (k:=0) HX9.out;have c1:=aa (k:=1) HX9.out;have c2:=aa (k:=2) HX9.out;have c3:=aa (k:=3) HX9.out;have c4:=aa (k:=4) HX9.out;have c5:=aa (k:=5) HX9.out;simp only[aW]at c0 c1 c2 c3 c4 c5;go_wp2_with (at_mapUpdate; go_must (refine dU bO rfl _ _ _ _ rfl ew w.heap.size _ HK9.out rfl (.string e.path) (.int .i64 e.kind) rfl rfl (cy HOK.out.pth) (jW (by have h1:=HTN.out; rw[List.take_add_one,HAT.out]at h1; exact h1)) ?_); intro w10 hm10 hg10)
        have HM10:=ab hm10;have HG10:=ab hg10;clear hm10 hg10 c0 c1 c2 c3 c4 c5;go_wp2_with fail
        go_roundw
        case rel=>
         refine⟨j+1+1,by omega,by go_num,HTN.out, ?_, ?_⟩
         ·rw[List.take_add_one,HAT.out,List.map_append]; exact HM10.out
         ·exact HB9.out.grown HG10.out HB9.out.size (fun k e=>by cases e; exact Nat.le_refl _)
        case measure=>simp[intOf]; omega
       ·have e1:q.toList.isEmpty=false:=by rw[no,HBQ.out,decide_eq_false h0]
        have HDI:=ab (show ∀x,(match gJ (L.take (j+1)) q with | none=>(4:Int) | some g=>if g.kind=2 then 0 else 13)=x->cI (L.take (j+1)) e=x from fun x hx=>by unfold cI; rw[if_pos HCV.out]; unfold kU; rw[if_neg h0,<-HQ.out]; exact hx);clear h0
        cases hf:gJ (L.take (j+1)) q with
        | none=>
         have HF:=ab hf;have HCA:=ab (HDI.out 4 (by rw[hf]));clear hf;refine(ey e.path q _ (HE.out.below HB8.out) (bL HVE.out) HQ.out).mono ?_;rintro e9 w9 ⟨rfl,hb9⟩;have HL9:=ab (HL8.out.trans (hb9.mono HL8.out.size));have HB9:=ab (ah HB8.out hb9);have HX9:=ab ((hb9.block wr.heap.size (mQ HX8.out)).trans HX8.out);have HK9:=ab (HKM.out.same (HL9.out.block w.heap.size HKM.out.lt))
         clear hb9;have c0:=aa (k:=0) HX9.out;have c1:=aa (k:=1) HX9.out;have c2:=aa (k:=2) HX9.out;have c3:=aa (k:=3) HX9.out;have c4:=aa (k:=4) HX9.out;have c5:=aa (k:=5) HX9.out;simp only[aW]at c0 c1 c2 c3 c4 c5;have hlk:=oD HK9.out HQS.out HF.out;go_wp2_with fail;go_ret;exact⟨cn (by rw[fe HL4.out HTR.out HAT.out (x:=4) HCA.out (by decide)]),HB9.out⟩
        | some g=>
         have HF:=ab hf
         by_cases hk2:g.kind=2
         ·have e3:(g.kind != 2)=false:=by simp[hk2]
          have HTN:=ab (iM HTR.out HAT.out (HDI.out 0 (by rw[hf]; simp only[if_pos hk2])));clear hf hk2;refine(ey e.path q _ (HE.out.below HB8.out) (bL HVE.out) HQ.out).mono ?_;rintro e9 w9 ⟨rfl,hb9⟩;have HL9:=ab (HL8.out.trans (hb9.mono HL8.out.size));have HB9:=ab (ah HB8.out hb9);have HX9:=ab ((hb9.block wr.heap.size (mQ HX8.out)).trans HX8.out);have HK9:=ab (HKM.out.same (HL9.out.block w.heap.size HKM.out.lt))
          clear hb9;have c0:=aa (k:=0) HX9.out;have c1:=aa (k:=1) HX9.out;have c2:=aa (k:=2) HX9.out;have c3:=aa (k:=3) HX9.out;have c4:=aa (k:=4) HX9.out;have c5:=aa (k:=5) HX9.out;simp only[aW]at c0 c1 c2 c3 c4 c5;have hlk:=jV HK9.out HQS.out HF.out;go_wp2_with (at_mapUpdate; go_must (refine dU bO rfl _ _ _ _ rfl ew w.heap.size _ HK9.out rfl (.string e.path) (.int .i64 e.kind) rfl rfl (cy HOK.out.pth) (jW (by have h1:=HTN.out; rw[List.take_add_one,HAT.out]at h1; exact h1)) ?_); intro w10 hm10 hg10)
          have HM10:=ab hm10;have HG10:=ab hg10;clear hm10 hg10 c0 c1 c2 c3 c4 c5;go_wp2_with fail
          go_roundw
          case rel=>
           refine⟨j+1+1,by omega,by go_num,HTN.out, ?_, ?_⟩
           ·rw[List.take_add_one,HAT.out,List.map_append]; exact HM10.out
           ·exact HB9.out.grown HG10.out HB9.out.size (fun k e=>by cases e; exact Nat.le_refl _)
          case measure=>simp[intOf]; omega
         ·have e3:(g.kind != 2)=true:=by simp[hk2]
          have HCA:=ab (HDI.out 13 (by rw[hf]; simp only[if_neg hk2]));clear hf hk2;refine(ey e.path q _ (HE.out.below HB8.out) (bL HVE.out) HQ.out).mono ?_;rintro e9 w9 ⟨rfl,hb9⟩;have HL9:=ab (HL8.out.trans (hb9.mono HL8.out.size));have HB9:=ab (ah HB8.out hb9);have HX9:=ab ((hb9.block wr.heap.size (mQ HX8.out)).trans HX8.out);have HK9:=ab (HKM.out.same (HL9.out.block w.heap.size HKM.out.lt))
          clear hb9;have c0:=aa (k:=0) HX9.out;have c1:=aa (k:=1) HX9.out;have c2:=aa (k:=2) HX9.out;have c3:=aa (k:=3) HX9.out;have c4:=aa (k:=4) HX9.out;have c5:=aa (k:=5) HX9.out;simp only[aW]at c0 c1 c2 c3 c4 c5;have hlk:=jV HK9.out HQS.out HF.out;go_wp2_with fail;go_ret;exact⟨cn (by rw[fe HL4.out HTR.out HAT.out (x:=13) HCA.out (by decide)]),HB9.out⟩
      ·have HCA:=ab (show cI (L.take (j+1)) e=1 by unfold cI; rw[HAF.out,decide_eq_false hneg]; simp);have e8:decide (0<=c)=true:=by simp; omega
       have e7:0<=c:=by omega
       go_wp2_with fail;obtain⟨W,hW⟩: ∃W,W=wr.alloc (.cells #[.string e.path, .int .i64 e.kind, .int .i64 e.mode, .int .i64 e.time, .slice a1 e.data.length cap1, .string e.link] 79):=⟨_,rfl⟩;rw[<-hW];have HX:=ab (show W.heap[wr.heap.size]? =some (.cells #[.string e.path, .int .i64 e.kind, .int .i64 e.mode, .int .i64 e.time, .slice a1 e.data.length cap1, .string e.link] 79 (0,0)) by rw[hW]; exact bY wr _)
       have HWL:=ab (show Below wr.heap.size wr W by rw[hW]; exact(Below.refl _ _).alloc (Nat.le_refl _) _);have HBW:=ab (ah HBR.out HWL.out);clear hW;refine(kg S e _ true _ (HD.out.below HWL.out) HOK.out (HE.out.below HBW.out) HVE.out).mono ?_;rintro e7 w7 ⟨rfl,hb7⟩;have HX7:=ab ((hb7.block wr.heap.size (mQ HX.out)).trans HX.out);have HL7:=ab (HWL.out.trans (hb7.mono HWL.out.size))
       have c0:=aa (k:=0) HX7.out;have c1:=aa (k:=1) HX7.out;have c2:=aa (k:=2) HX7.out;have c3:=aa (k:=3) HX7.out;have c4:=aa (k:=4) HX7.out;have c5:=aa (k:=5) HX7.out;simp only[aW]at c0 c1 c2 c3 c4 c5;clear hb7;go_wp2_with fail;refine aw [some 11,none,some 2] (by kernel_rfl) (by kernel_rfl) (by kernel_rfl) ?_;simp only[bi,List.take_succ_cons,List.take_zero,List.drop_succ_cons,List.drop_zero]
       obtain⟨wd,hwd⟩: ∃wd:World,wd=w7.drew:=⟨_,rfl⟩;rw[<-hwd];have HLD:=ab (show Below wr.heap.size wr wd by rw[hwd]; exact HL7.out.trans ((Below.refl w7.heap.size w7).drew.mono HL7.out.size));have HXD:=ab (show wd.heap[wr.heap.size]? =some (.cells #[.string e.path, .int .i64 e.kind, .int .i64 e.mode, .int .i64 e.time, .slice a1 e.data.length cap1, .string e.link] 79 (0,0)) by rw[hwd]; exact HX7.out)
       clear hwd c0 c1 c2 c3 c4 c5;have c0:=aa (k:=0) HXD.out;have c1:=aa (k:=1) HXD.out;have c2:=aa (k:=2) HXD.out;have c3:=aa (k:=3) HXD.out;have c4:=aa (k:=4) HXD.out;have c5:=aa (k:=5) HXD.out;simp only[aW]at c0 c1 c2 c3 c4 c5;have y0:=(HLD.out.cell (aR p0)).trans p0
       repeat (first | (refine aG rfl ?_; simp only[Act.put,aB,aC,aD]) | (refine aL rfl (fun K hK=> ?_); go_simp; refine hK _ ?_; clear hK K))
       refine aK ?_;refine bA rfl (fun K hK=> ?_);go_wp2_with (go_at_call 118; refine(qs f.path e.path c _ HPF.out HC.out).mono ?_; rintro e8' w8 ⟨rfl,hb8⟩; have HL8:=ab (HLD.out.trans (hb8.mono HLD.out.size)); clear hb8 c0 c1 c2 c3 c4 c5 y0)
       repeat (first | (refine aG rfl ?_; simp only[Act.put,aB,aC,aD]) | (refine aL rfl (fun K hK=> ?_); go_simp; refine hK _ ?_; clear hK K))
       refine aK ?_;have HB9:=ab (ah HBR.out HL8.out);go_wp2_with fail;go_ret;exact⟨cn (by rw[fe HL4.out HTR.out HAT.out (x:=1) HCA.out (by decide)]),HB9.out⟩
   ·have hk2:k=n:=by omega
    subst hk2;go_wp2_with fail;go_ret;exact⟨cn (by rw[uX HL4.out (by rw[<-HN.out]; exact HTR.out)]),HBR.out⟩
end Go.Proofs.YtpffpjbkbaleiaaGreatDoor
namespace Go.Proofs.YtpffpjbkbaleiaaGreatDoor
open Go Go.RowKit Go.Maps
def tC (p:ByteArray×Int):Value×Value:=(.string p.1, .int .i64 p.2)
def gS (S:Nat->Prop) (w:World) (gv:Value) (gs:List (ByteArray×Int)):Prop:=
 (gv= .map none/\gs=[])\/ ∃b,gv= .map (some b)/\S b/\cK Tryz.prog 9 w b (gs.map tC)
theorem gS.keep {S:Nat->Prop} {w w':World} {gv:Value} {gs:List (ByteArray×Int)} (h:gS S w gv gs) (hs: ∀k,S k->k<w.heap.size->w'.heap[k]? =w.heap[k]?):gS S w' gv gs:=by
 rcases h with h | ⟨b,h1,h0,h2⟩
 ·exact .inl h
 ·exact .inr ⟨b,h1,h0,h2.same (hs b h0 h2.lt)⟩
theorem Ap {S:Nat->Prop} {w:World} {gv:Value} {gs:List (ByteArray×Int)} (h:gS S w gv gs) {n:ByteArray} (hn:n.size<=maxLen):
  (Instr.lookup 47 gv (.string n) false).run Tryz.prog w= .ok (.int .i64 (ju gs n)) w:=by
 have hz:(zeroValue 3).run Tryz.prog w= .ok (.int .i64 0) w:=by kernel_rfl
 obtain⟨l,hl⟩:=cy hn
 rcases h with⟨rfl,rfl⟩ | ⟨b,rfl,_,h2⟩
 ·have:=Maps.look_nil false bO (t:=47) (e:=3) ew hz hl
  simpa [ju]using this
 ·unfold ju
  cases hf:gs.find? (fun p=>decide (p.1=n))with
  | none=>
   have:=h2.is.miss bO ew hz ⟨l,hl⟩ (fun q hq e=>by
    obtain⟨x,hx,rfl⟩:=List.mem_map.1 hq;simp only[tC,Value.string.injEq]at e;have:=List.find?_eq_none.1 hf x hx;simp[e]at this) false
   simpa using this
  | some p=>
   have h3:=List.mem_of_find?_eq_some hf;have h4:=List.find?_some hf;simp only[decide_eq_true_eq]at h4;have:=h2.is.hit bO ew ⟨l,hl⟩ (val:= .int .i64 p.2) (List.mem_map.2 ⟨p,h3,by rw[<-h4]; rfl⟩) false
   simpa using this
def jc (v:Value) (b:bI):List Value:=[.string b.ref.name, .int .i64 b.ref.gen, .int .i64 b.ref.size,v]
abbrev il :=Value×bI
def em (zs:List il):List Value:=zs.flatMap fun z=>jc z.1 z.2
theorem sR (zs:List il) (z:il):em (zs++[z])=em zs++jc z.1 z.2:=by simp[em]
theorem qi {a:Option Addr} {n c:Nat} {b:bI} : ∀u∈jc (.slice a n c) b,u.oneCell'=true:=by
 intro u hu;simp only[jc,List.mem_cons,List.not_mem_nil,or_false]at hu
 rcases hu with rfl | rfl | rfl | rfl<;> rfl
theorem Tryz.appBlobs :ee Tryz.prog 49 53 4 56:=ee.mk' (z:= .agg #[.string ⟨#[]⟩, .int .i64 0, .int .i64 0, .slice none 0 0]) Tryz.underlying49 (by kernel_rfl) rfl (by decide) (by decide)
structure dP (w : World) (base : Nat) (v : Value) (zs : List il) : Prop where
 row:w.ownsRow base 53 4 v zs.length (em zs)
 dat: ∀z∈zs,w.ownsRow base 5 1 z.1 z.2.con.length (z.2.con.map an)
def fQ (k:bF) (c:dD) (gv:Value) (im kb:Nat) (v:Value):List Value:=cY k++dr c++[gv, .map (some im),v, .map (some kb)]
structure dV (w : World) (base bb : Nat) (k : bF) (c : dD) (gv : Value) (im kb : Nat) (v : Value) (bs : List bI) : Prop where
 box:w.heap[bb]? =some (.cells (fQ k c gv im kb v).toArray 122 (0,0))
 own: ∃zs:List il,zs.map Prod.snd=bs/\dP w base v zs
 known:du w kb (bs.map bI.ref)
structure cR (base bb kb : Nat) (v v' : Value) (w w' : World) : Prop where
 below:Below base w w'
 same: ∀k,k<w.heap.size->k≠bb->k≠kb->v.ownBlock≠some k->w'.heap[k]? =w.heap[k]?
 place: ∀k,v'.ownBlock=some k->v.ownBlock=some k\/w.heap.size<=k
theorem cR.refl (base bb kb:Nat) (v:Value) (w:World):cR base bb kb v v w w:=⟨Below.refl _ _,fun _ _ _ _ _=>rfl,fun _ h=> .inl h⟩
theorem cR.trans {base bb kb:Nat} {v v1 v2:Value} {A B C:World} (h:cR base bb kb v v1 A B) (k:cR base bb kb v1 v2 B C):cR base bb kb v v2 A C:=by
 have hs:=h.below.size;refine⟨h.below.trans k.below,fun i h1 h2 h2' h3=>(k.same i (by omega) h2 h2' (fun e=> ?_)).trans (h.same i h1 h2 h2' h3),fun i e=> ?_⟩
 ·rcases h.place i e with e2 | e2
  ·exact h3 e2
  ·omega
 ·rcases k.place i e with e2 | e2
  ·exact h.place i e2
  ·exact .inr (by omega)
theorem cR.ofBelow {base bb kb:Nat} {v:Value} {w w':World} (h:Below w.heap.size w w') (hb:base<=w.heap.size):cR base bb kb v v w w':=⟨h.mono hb,fun k h1 _ _ _=>h.block k h1,fun _ e=> .inl e⟩
theorem dP.below {w w':World} {base:Nat} {v:Value} {zs:List il} (h:dP w base v zs) (hb:Below w.heap.size w w'):dP w' base v zs:=⟨bc h.row hb,fun z hz=>bc (h.dat z hz) hb⟩
theorem dV.below {w w':World} {base bb im kb:Nat} {k:bF} {c:dD} {gv v:Value} {bs:List bI} (h:dV w base bb k c gv im kb v bs) (hb:Below w.heap.size w w'):dV w' base bb k c gv im kb v bs:=by
 obtain⟨zs,h1,h2⟩:=h.own;exact⟨(hb.block _ (lt_of_block h.box)).trans h.box,⟨zs,h1,h2.below hb⟩,h.known.same (hb.block _ h.known.map.lt)⟩
theorem dV.push {w w1 w2:World} {base bb im kb:Nat} {k:bF} {c:dD} {gv v v' dv:Value} {bs:List bI} {zs:List il} {b:bI} (hz:zs.map Prod.snd=bs) (h:dP w base v zs) (hx:w.heap[bb]? =some (.cells (fQ k c gv im kb v).toArray 122 (0,0))) (hs:du w kb ((bs++[b]).map bI.ref))
  (hb:Below w.heap.size w w1) (hn:w1.ownsRow base 5 1 dv b.con.length (b.con.map an)) (hown:w2.ownsRow base 53 4 v' (zs.length+1) (em zs++jc dv b)) (hg:w1.grownBy w2 v.ownBlock) (hpl: ∀k,v'.ownBlock=some k->v.ownBlock=some k\/w1.heap.size<=k) (hbe:base<=bb) (hbz:base<=w.heap.size):
  dV (w2.setCell ⟨bb,12,none⟩ v') base bb k c gv im kb v' (bs++[b])/\cR base bb kb v v' w (w2.setCell ⟨bb,12,none⟩ v'):=by
 have h1:=h.below hb;have hx1:=(hb.block bb (lt_of_block hx)).trans hx;have hlt:=lt_of_block hx1;have hz1:=hb.size;have hne:v.ownBlock≠some bb:=fun e=>by
  obtain⟨cs,hc⟩:=aA h1.row e;exact absurd (aI hx1 hc) (by decide)
 have hne':v'.ownBlock≠some bb:=fun e=>by
  rcases hpl bb e with e | e
  ·exact hne e
  ·omega
 have hb2:=(hg.block bb hlt (fun e=>hne e.symm)).trans hx1;have hdat: ∀(u:Value) (ds:List UInt8),w1.ownsRow base 5 1 u ds.length (ds.map an)->(w2.setCell ⟨bb,12,none⟩ v').ownsRow base 5 1 u ds.length (ds.map an):=by
  intro u ds hd;refine dp hd (fun i hi hu=> ?_);obtain⟨cs,hc⟩:=aA hd hu;rw[Below.heap_setCell _ _ _ _ (show i≠bb from fun e=>absurd (aI (e▸hc) hx1) (by decide))];refine hg.block i hi (fun e=> ?_);obtain⟨cs2,hc2⟩:=aA h1.row e.symm;exact absurd (aI hc hc2) (by decide)
 have hkb:kb<w1.heap.size:=Nat.lt_of_lt_of_le hs.map.lt hz1;have hks:(w2.setCell ⟨bb,12,none⟩ v').heap[kb]? =w.heap[kb]? :=by
  rw[Below.heap_setCell _ _ _ _ (show kb≠bb from fun e=>hs.cells (by rw[e]; exact hx))];refine(hg.block kb hkb (fun e=> ?_)).trans (hb.block kb hs.map.lt);obtain⟨cs,hc⟩:=aA h.row e.symm;exact hs.cells hc
 refine⟨⟨?_,⟨zs++[(dv,b)],by simp[hz], ?_,fun z hz=> ?_⟩,hs.same hks⟩,⟨?_,fun i hi e1 e2 e3=> ?_,fun i e=> ?_⟩⟩
 ·have:=dq (k:=12) hb2 v'
  simpa [fQ,cY,dr]using this
 ·rw[List.length_append,List.length_singleton,sR];exact hown.kept (aH _ _ _ _) (.inr (fun e=>hne' e))
 ·rcases List.mem_append.1 hz with hz | hz
  ·exact hdat _ _ (h1.dat z hz)
  ·rw[List.mem_singleton]at hz;subst hz;exact hdat _ _ hn
 ·exact((hb.mono hbz).grown hg (Nat.le_trans hbz hz1) (fun i hi=>(h.row.lt i hi).1)).grown (aH w2 bb 12 v') (Nat.le_trans hbz (Nat.le_trans hz1 hg.size)) (fun i hi=>by cases hi; exact hbe)
 ·rw[Below.heap_setCell _ _ _ _ (show i≠bb from e1)];exact(hg.block i (by omega) (fun e=>e3 e.symm)).trans (hb.block i hi)
 ·rcases hpl i e with e | e
  ·exact .inl e
  ·exact .inr (by omega)
end Go.Proofs.YtpffpjbkbaleiaaGreatDoor
namespace Go.Proofs.YtpffpjbkbaleiaaGreatDoor
open Go Go.RowKit
theorem gh {l:List UInt8} (h:bh l=true):l.length<=512:=by
 unfold bh at h;simp only[Bool.and_eq_true,decide_eq_true_eq]at h;exact h.1.1
theorem iY {l:List UInt8} (h:bh l=true):1<=l.length:=by
 cases l with
 | nil=>exact absurd h (by decide)
 | cons a l=>simp
theorem mH (d n:ByteArray) (hn:1<=n.size):d.size+1<=(eR d n).size:=by
 unfold eR
 split
 ·omega
 ·simp only[ByteArray.size_append]
  show d.size+1<=d.size+1+n.size
  omega
theorem lP {cs:List (ByteArray×List UInt8)} {rec:ByteArray->aN->List bw->Int×List bw} {dir p:ByteArray} {it:aE} {r:List aE} {acc:List bw} (hp:eR dir it.name=p) (hv:bh (bl p)=true) (hl:acc.length<4096) (hk:it.kind=2):
  ef cs rec dir (it::r) acc=if(rec p it.node (acc++[⟨p,it.kind,it.mode,it.time,[],it.link⟩])).1=0 then ef cs rec dir r (rec p it.node (acc++[⟨p,it.kind,it.mode,it.time,[],it.link⟩])).2 else rec p it.node (acc++[⟨p,it.kind,it.mode,it.time,[],it.link⟩]):=by
 have hf:km cs it=([],0):=by unfold km; rw[if_neg (by omega)]
 rw[ef,hp,if_pos ⟨hv,hl⟩,hf];simp only[if_pos hk]
theorem ph {cs:List (ByteArray×List UInt8)} {rec:ByteArray->aN->List bw->Int×List bw} {dir p:ByteArray} {it:aE} {r:List aE} {acc:List bw} (hp:eR dir it.name=p) (hv:bh (bl p)=true) (hl:acc.length<4096) (hk:it.kind≠2) (hk1:it.kind≠1):
  ef cs rec dir (it::r) acc=ef cs rec dir r (acc++[⟨p,it.kind,it.mode,it.time,[],it.link⟩]):=by
 have hf:km cs it=([],0):=by unfold km; rw[if_neg hk1]
 rw[ef,hp,if_pos ⟨hv,hl⟩,hf];simp only[if_neg hk,if_true]
theorem kL {cs:List (ByteArray×List UInt8)} {rec:ByteArray->aN->List bw->Int×List bw} {dir p:ByteArray} {it:aE} {r:List aE} {acc:List bw} {bs:List UInt8} (hp:eR dir it.name=p) (hv:bh (bl p)=true) (hl:acc.length<4096) (hk1:it.kind=1) (hb:gI cs it.chunks []= .ok bs):
  ef cs rec dir (it::r) acc=ef cs rec dir r (acc++[⟨p,it.kind,it.mode,it.time,bs,it.link⟩]):=by
 have hf:km cs it=(bs,0):=by unfold km; rw[if_pos hk1,hb]
 have hk: ¬it.kind=2:=by omega
 rw[ef,hp,if_pos ⟨hv,hl⟩,hf];simp only[if_neg hk,if_true]
theorem rm {cs:List (ByteArray×List UInt8)} {rec:ByteArray->aN->List bw->Int×List bw} {dir p:ByteArray} {it:aE} {r:List aE} {acc:List bw} {x:Int} (hp:eR dir it.name=p) (hv:bh (bl p)=true) (hl:acc.length<4096) (hk1:it.kind=1) (hb:gI cs it.chunks []= .error x) (hx:x≠0):
  ef cs rec dir (it::r) acc=(x,acc++[⟨p,it.kind,it.mode,it.time,[],it.link⟩]):=by
 have hf:km cs it=([],x):=by unfold km; rw[if_pos hk1,hb]
 have hk: ¬it.kind=2:=by omega
 rw[ef,hp,if_pos ⟨hv,hl⟩,hf];simp only[if_neg hk,if_neg hx]
def wF (cs:List (ByteArray×List UInt8)) (cv:Value) (B n:Nat):Prop:= ∀(dir:ByteArray) (ref:aN) (acc:List bw) (base eb:Nat) (v:Value) (w:World),
 514<=dir.size+n->(dir.size=0\/bh (bl dir)=true)->eE w base eb v acc->bz ref->eJ B cv cs w->B<=base->base<=eb->base<=w.heap.size->
 Calls Tryz.prog 78 #[cv, .string dir,bJ ref, .pointer (some ⟨eb,0,none⟩)] w fun e w'=>e= .returned (.int .i64 (cZ cs n dir ref acc).1)/\ ∃v',eE w' base eb v' (cZ cs n dir ref acc).2/\kr base eb v v' w w'
theorem yl (cs:List (ByteArray×List UInt8)) (cv:Value) (B:Nat):wF cs cv B 0:=by
 intro dir ref acc base eb v w hn hd
 exfalso
 rcases hd with h | h
 ·omega
 ·have:=gh h;rw[<-ay]at this;omega
theorem bt.wide {S:Nat->Prop} {w:World} : ∀ {m:List (Value×Value)} {cs:List (ByteArray×List UInt8)},bt S w m cs->bt (fun _=>True) w m cs
 | [],[],_=>trivial
 | [],_::_,h=>h
 | _::_,[],h=>h
 | (_,_)::_,(_,_)::_,h=>⟨h.1,aO.weak h.2.1 (fun _ _=>trivial),bt.wide h.2.2⟩
theorem bV.wide {S:Nat->Prop} {w:World} {cv:Value} {cs:List (ByteArray×List UInt8)} (h:bV S w cv cs):bV (fun _=>True) w cv cs:=by
 rcases h with h | ⟨b,m,h1,_,h2,h3⟩
 ·exact .inl h
 ·exact .inr ⟨b,m,h1,trivial,h2,h3.wide⟩
theorem eJ.keepL {B base:Nat} {cv:Value} {cs:List (ByteArray×List UInt8)} {w w':World} (h:eJ B cv cs w) (hb:Below base w w') (hB:B<=base):eJ B cv cs w':=
 eJ.keep w w' h ⟨hb.os,hb.tape,hb.output,hb.size,fun k _ hn=>hb.block k (by omega)⟩
theorem yk (cs:List (ByteArray×List UInt8)) (cv:Value) (B n:Nat) (IH:wF cs cv B n):wF cs cv B (n+1):=by
 intro dir ref acc base eb v w hn hd hbx hr hi hB hbe hbase;have HIH:=ab IH;have HD:=ab hd;have HBX:=ab hbx;have HI:=ab hi;have HA:=ab ((Below.refl w.heap.size w).alloc (Nat.le_refl _) (.cells #[.string ref.name, .int .i64 ref.gen, .int .i64 ref.size] 26));have hnd:=lh (· <B) cv cs ref _ (hi.cont.below HA.out) hr (hi.env.below HA.out);have heb:eb<w.heap.size:=lt_of_block hbx.1
 unfold bJ at *;unfold rF at hnd;have HLP:=ab (show cZ cs (n+1) dir ref acc=match dF cs ref with
  | .error x=>(x,acc)
  | .ok l=>ef cs (cZ cs n) dir l acc from rfl)
 cases hnp:dF cs ref with
 | error x=>
  rw[hnp]at hnd;have HND:=ab hnd;have HE:=ab (show cZ cs (n+1) dir ref acc=(x,acc) by rw[HLP.out,hnp]);clear hnp hnd IH hd hbx hr hi
  go_enter Tryz.func78,Tryz.ntmps78
  go_wp2_with fail;refine HND.out.mono ?_;rintro e w1 ⟨hb1,rfl,hx⟩;have HB1:=ab (ah HA.out hb1);have e1:(x != 0)=true:=by simp[hx]
  clear hb1 hx;go_wp2_with fail;go_ret;rw[HE.out];exact⟨rfl,v,HBX.out.below HB1.out,kr.ofBelow HB1.out hbase⟩
 | ok l=>
  rw[hnp]at hnd;have HND:=ab hnd;have HE:=ab (show cZ cs (n+1) dir ref acc=ef cs (cZ cs n) dir l acc by rw[HLP.out,hnp]);have HLV:=ab (oJ hnp);clear hnp hnd IH hd hbx hr hi
  go_enter Tryz.func78,Tryz.ntmps78
  go_wp2_with fail;refine HND.out.mono ?_;rintro e w1 ⟨hb1,v1,rfl,hv1⟩;have HB1:=ab (ah HA.out hb1);obtain⟨a1,cap1,rfl,hc1,hm1,-⟩:=aJ.shape hv1 cM.len;unfold maxLen at hm1;have HIN0:=ab (show mP w (w.heap.size+1) w1.heap.size base eb v (.slice a1 l.length cap1) l w1 v acc from
   ⟨HBX.out.below HB1.out,kr.ofBelow HB1.out hbase,fun k hk=> .inl (by obtain⟨_,ys,_,hr,_⟩:=HBX.out; have:=(hr.lt k hk).2; omega),by omega,⟨by omega,by have:=hb1.size; simpa using this,Nat.le_refl _⟩,
    by have h:=aM.lt hv1; simpa using h⟩)
  obtain⟨m,hm⟩: ∃m,m=l.length:=⟨_,rfl⟩;rw[<-hm]at HIN0 hc1 ⊢;have HM:=ab hm;have hm4:m<=4096:=by rw[hm]; exact HLV.out.1
  clear hb1 hv1 hm;go_wp2_with fail
  go_loopw [26] (fun i wr=> ∃(k:Nat) (v2:Value) (acc2:List bw),k<=m/\i= .int .i64 (k:Int)/\ef cs (cZ cs n) dir (l.drop k) acc2=cZ cs (n+1) dir ref acc/\mP w (w.heap.size+1) w1.heap.size base eb v (.slice a1 m cap1) l wr v2 acc2) (fun i _=>m-(intOf i).toNat)
  case atStart=>exact⟨0,v,acc,Nat.zero_le _,rfl,HE.out.symm,HIN0.out⟩
  case round=>
   obtain⟨k,v2,acc2,hk,rfl,hst,hin⟩:=hrel;have HST:=ab hst;have HIN:=ab hin;clear hst hin
   by_cases hlt:k<m
   ·obtain⟨it,hr⟩: ∃it,l[k]? =some it:=⟨l[k]'(by rw[<-HM.out]; exact hlt),by simp⟩;obtain⟨b,o,ca,cc,rfl,hok,hrf,hbl,-,hcl⟩:=cW HIN.out.its (Below.refl _ _) hr;have q0:=hcl 0 (by omega);have q1:=hcl 1 (by omega);have q2:=hcl 2 (by omega);have q3:=hcl 3 (by omega);have q4:=hcl 4 (by omega);have q5:=hcl 5 (by omega);have q6:=hcl 6 (by omega);have q7:=hcl 7 (by omega)
    have q8:=hcl 8 (by omega);have q9:=hcl 9 (by omega);simp only[cN,vr,Nat.add_zero]at q0 q1 q2 q3 q4 q5 q6 q7 q8 q9;have HO:=ab hok;have HRF:=ab hrf;have HDR:=ab (show l.drop k=it::l.drop (k+1) by
     rw[List.drop_eq_getElem_cons (by rw[<-HM.out]; exact hlt)]
     congr 1
     exact(List.getElem?_eq_some_iff.1 hr).2)
    have hvi:=(gg HLV.out.2.1).2 it (List.mem_of_getElem? hr);have HVI:=ab hvi;have hds:dir.size<=512:=by
     rcases HD.out with h | h
     ·omega
     ·have:=gh h; rw[<-ay]at this; exact this
    have hhd:=jw.1 (by unfold cr at hvi; rw[Bool.and_eq_true]at hvi; exact hvi.1);have hnm:it.name.size<=64:=by rw[ay]; exact jn hhd.val hhd.nos
    have hnp:1<=it.name.size:=by rw[ay]; exact iY hhd.val
    have HCL:=ab (HLV.out.2.2 it (List.mem_of_getElem? hr));clear hr hok hrf hcl hvi hhd;have HBZ:=ab (show base<=wr.heap.size by have:=HIN.out.ord; omega)
    by_cases hde:dir.size=0
    ·have e2:dir.toList=[]:=by rw[ci]; exact List.eq_nil_of_length_eq_zero (by rw[<-ay]; exact hde)
     have e3:dir.toList.isEmpty=true:=by rw[e2]; rfl
     have HPI:=ab (show eR dir it.name=it.name by unfold eR; rw[if_pos hde]);go_wp2_with fail;obtain⟨W,hW⟩: ∃W,W=(wr.alloc (.cells #[.string it.name, .int .i64 it.kind, .int .i64 it.mode, .int .i64 it.time, .int .i64 it.size, .string it.link, .slice ca it.chunks.length cc, .string it.node.name, .int .i64 it.node.gen, .int .i64 it.node.size] 28)).alloc (.cells #[.string (it.name), .int .i64 it.kind, .int .i64 it.mode, .int .i64 it.time, .slice none 0 0, .string it.link] 79):=⟨_,rfl⟩
     rw[<-hW];have HWB:=ab (show Below wr.heap.size wr W by rw[hW]; exact((Below.refl _ _).alloc (Nat.le_refl _) _).alloc (by simp) _);have HX0:=ab (show W.heap[wr.heap.size]? =some (.cells #[.string it.name, .int .i64 it.kind, .int .i64 it.mode, .int .i64 it.time, .int .i64 it.size, .string it.link, .slice ca it.chunks.length cc, .string it.node.name, .int .i64 it.node.gen, .int .i64 it.node.size] 28 (0,0)) by rw[hW]; exact iK (bY wr _) _)
     have HY0:=ab (show W.heap[wr.heap.size+1]? =some (.cells #[.string (it.name), .int .i64 it.kind, .int .i64 it.mode, .int .i64 it.time, .slice none 0 0, .string it.link] 79 (0,0)) by rw[hW]; exact jC wr _ _);have HIN3:=ab (HIN.out.below HWB.out HBZ.out);have HEW:=ab (show fN W from(HI.out.keepL (HIN3.out.kp.below) hB).env);clear hW q0 q1 q2 q3 q4 q5 q6 q7 q8 q9
     cases hval:bh (bl (it.name))with
     | false=>
      have HVL:=ab hval;clear hval;refine(fD (it.name) false W HEW.out HVL.out).mono ?_;rintro e w2 ⟨rfl,hb2⟩;have HIN4:=ab (HIN3.out.below hb2 (Nat.le_trans HBZ.out HWB.out.size));clear hb2;go_wp2_with fail;go_ret;have h1:=HST.out;rw[HDR.out,ef,if_neg (fun h=>by rw[HPI.out,HVL.out]at h; cases h.1)]at h1;rw[<-h1];exact⟨rfl,v2,HIN4.out.box,HIN4.out.kp⟩
     | true=>
      have HVL:=ab hval;clear hval;refine(fD (it.name) true W HEW.out HVL.out).mono ?_;rintro e w2 ⟨rfl,hb2⟩;have HIN4:=ab (HIN3.out.below hb2 (Nat.le_trans HBZ.out HWB.out.size));have HX:=ab ((hb2.block _ (lt_of_block HX0.out)).trans HX0.out);have HY:=ab ((hb2.block _ (lt_of_block HY0.out)).trans HY0.out);have HBZ4:=ab (Nat.le_trans (Nat.le_trans HBZ.out HWB.out.size) hb2.size)
      have HRF4:=ab (show aV (fun k=>w.heap.size+1<=k/\k<w1.heap.size) w2 (.slice ca it.chunks.length cc) it.chunks from aJ.below (aJ.below HRF.out (by omega) HWB.out (fun _ _ _ h=>h)) (by omega) hb2 (fun _ _ _ h=>h));have HB2:=ab (HWB.out.trans (hb2.mono HWB.out.size));clear hb2 HX0 HY0;obtain⟨ys0,hys0,hrow0,-⟩:=HIN4.out.box.2;obtain⟨av0,cv0,hv0,hvn0,hvm0⟩:=ak hrow0
      have hlen:ys0.length=acc2.length:=by rw[<-hys0,List.length_map]
      rw[hlen]at hv0 hvn0;have e0:=aa (k:=0) HIN4.out.box.1;simp only[List.getElem?_toArray,List.getElem?_cons_zero]at e0;rw[hv0]at e0;have c0:=aa (k:=0) HX.out;have c1:=aa (k:=1) HX.out;have c6:=aa (k:=6) HX.out;have c7:=aa (k:=7) HX.out;have c8:=aa (k:=8) HX.out;have c9:=aa (k:=9) HX.out;have d0:=aa (k:=0) HY.out;have d1:=aa (k:=1) HY.out
      have d2:=aa (k:=2) HY.out;have d3:=aa (k:=3) HY.out;have d4:=aa (k:=4) HY.out;have d5:=aa (k:=5) HY.out;simp only[aW]at c0 c1 c6 c7 c8 c9 d0 d1 d2 d3 d4 d5;clear hys0 hrow0 hv0 hlen
      by_cases hfull:acc2.length<4096
      ·have hfi:(acc2.length:Int)<4096:=by omega
       have HFL:=ab hfull;clear hfull
       by_cases hk1:it.kind=1
       ·have e1:(it.kind == 1)=true:=by simp[hk1]
        have HK1:=ab hk1;have e2:(it.kind == 2)=false:=by simp[hk1]
        have hbf:=fd hk1 (by have h:=HVI.out; unfold cr at h; rw[Bool.and_eq_true]at h; exact h.2);have htw:=pm (l:=it.chunks) (by have:=HCL.out; omega) (fun r hr=>(hbf.2.2.1 r hr).1) _ (Nat.le_refl _);rw[List.take_length]at htw;have hfl:=mB (fun _=>True) cv (.slice ca it.chunks.length cc) cs it.chunks w2 (bV.wide (HI.out.keepL HIN4.out.kp.below hB).cont) (aV.same HRF4.out (fun k _ _=>⟨trivial,rfl⟩)) htw.1 (by rw[<-hbf.2.2.2.1]; exact hbf.2.2.2.2) (by have:=HCL.out; omega) (fun r hr=>(hbf.2.2.1 r hr).1)
        unfold rB at hfl;clear hk1 hbf htw
        cases hfp:gI cs it.chunks []with
        | error x=>
         rw[hfp]at hfl;have HFL2:=ab hfl;have HFP:=ab hfp;clear hfl hfp;go_wp2_with fail;refine HFL2.out.mono ?_;rintro e w5 ⟨hb5,rfl,hx⟩;have hx5:=(hb5.block _ (lt_of_block HX.out)).trans HX.out;have hy5:=(hb5.block _ (lt_of_block HY.out)).trans HY.out;have HY0:=ab hy5;have d4':=aa (k:=4) hy5;have f4':=ai (k:=4) hy5;simp only[aW]at d4';clear e0 c0 c1 c6 c7 c8 c9 d0 d1 d2 d3 d4 d5
         go_wp2_with fail;obtain⟨W5,hW5⟩: ∃W5:World,W5=w5.setCell ⟨wr.heap.size+1,4,none⟩ (.slice none 0 0):=⟨_,rfl⟩;rw[<-hW5];have HW5:=ab hW5;have HX5:=ab ((show W5.heap[wr.heap.size]? =w5.heap[wr.heap.size]? from by rw[hW5,Below.heap_setCell _ _ _ _ (by show wr.heap.size≠wr.heap.size+1; omega)]).trans hx5);have hy6:=dq (k:=4) hy5 (.slice none 0 0);simp only[List.setIfInBounds_toArray,List.set_cons_succ,List.set_cons_zero]at hy6
         rw[<-hW5]at hy6;have HY5:=ab hy6;have HIN5:=ab (show mP w (w.heap.size+1) w1.heap.size base eb v (.slice (some ⟨b,o,none⟩) m cap1) l W5 v2 acc2 from HIN.out.below (by rw[hW5]; exact Below.setCell (HB2.out.trans (hb5.mono HB2.out.size)) (by show wr.heap.size<=wr.heap.size+1; omega) _) HBZ.out);have HBZ5:=ab (show base<=W5.heap.size from Nat.le_trans HBZ4.out (by rw[hW5]; have:=hb5.size; simpa [World.setCell]using this))
         clear hW5 hx5 hy5 hy6 d4' f4' HX HY hb5;have HX:=HX5;have HY:=HY5;clear HX5 HY5;have HDN:=ab (World.ownsRow_nil W5 base 5 1);have e4:(x != 0)=true:=by simp[hx]
         have HSP:=ab (rm (cs:=cs) (rec:=cZ cs n) (r:=l.drop (k+1)) HPI.out HVL.out HFL.out HK1.out HFP.out hx);clear hx;obtain⟨ys,hys,hrow,hdat⟩:=HIN5.out.box.2;obtain⟨av,cv2,hv2,hvn,hvm⟩:=ak hrow;have HBX5:=ab HIN5.out.box.1;have HROW5:=ab hrow;have HDAT5:=ab hdat
         have HYS:=ab hys;subst hv2;clear hys hrow hdat
         obtain⟨W6,hW6⟩: ∃W6:World,W6=(W5).drew:=⟨_,rfl⟩;have hb6:Below (W5).heap.size (W5) W6:=by rw[hW6]; exact(Below.refl _ _).drew
         have HB6:=ab hb6;have HX6:=ab ((hb6.block _ (lt_of_block HX.out)).trans HX.out);have HY6:=ab ((hb6.block _ (lt_of_block HY.out)).trans HY.out);have HBX6:=ab ((hb6.block _ (lt_of_block HBX5.out)).trans HBX5.out);have HROW6:=ab (bc HROW5.out hb6);have HDAT6:=ab (fun y hy=>bc (HDAT5.out y hy) hb6);have HDV6:=ab (bc (HDN).out hb6);have HIN6:=ab (HIN5.out.below hb6 HBZ5.out)
         have hbz6:=Nat.le_trans HBZ5.out hb6.size;have HBZ6:=ab hbz6;clear hb6 HX HY HIN5 HBX5 HROW5 HDAT5;have hS1:=aa (k:=0) HBX6.out;have d0:=aa (k:=0) HY6.out;have d1:=aa (k:=1) HY6.out;have d2:=aa (k:=2) HY6.out;have d3:=aa (k:=3) HY6.out;have d4:=aa (k:=4) HY6.out;have d5:=aa (k:=5) HY6.out;have f1:=ai (k:=0) HBX6.out;simp only[aW]at hS1 d0 d1 d2 d3 d4 d5
         refine bS (fun w'=>w'.cell? ⟨eb,0,none⟩=some (.slice av ys.length cv2)/\w'.cell? ⟨wr.heap.size+1,0,none⟩=some (.string (it.name))/\w'.cell? ⟨wr.heap.size+1,1,none⟩=some (.int .i64 it.kind)/\w'.cell? ⟨wr.heap.size+1,2,none⟩=some (.int .i64 it.mode)/\w'.cell? ⟨wr.heap.size+1,3,none⟩=some (.int .i64 it.time)/\w'.cell? ⟨wr.heap.size+1,4,none⟩=some (.slice none 0 0)/\w'.cell? ⟨wr.heap.size+1,5,none⟩=some (.string it.link)) (by kernel_rfl) (by kernel_rfl) ?_
         simp only[List.dropLast_cons_cons,List.dropLast_singleton,List.length_cons,List.length_nil,Nat.reduceAdd,Nat.reduceSub];rw[<-hW6];clear hW6;refine ag 0 rfl (by kernel_rfl) (by kernel_rfl) (by kernel_rfl) (fun _ _ _ h=>h) rfl ⟨hS1,d0,d1,d2,d3,d4,d5⟩ (by rintro w' ⟨hw1,hw2,hw3,hw4,hw5,hw6,hw7⟩; go_simp; rfl) ?_;simp only[Act.put,aB,aC,aD];refine ag 1 rfl (by kernel_rfl) (by kernel_rfl) (by kernel_rfl) (fun _ _ _ h=>h) rfl ⟨hS1,d0,d1,d2,d3,d4,d5⟩ (by rintro w' ⟨hw1,hw2,hw3,hw4,hw5,hw6,hw7⟩; go_simp; rfl) ?_
         simp only[Act.put,aB,aC,aD];refine ag 2 rfl (by kernel_rfl) (by kernel_rfl) (by kernel_rfl) (fun _ _ _ h=>h) rfl ⟨hS1,d0,d1,d2,d3,d4,d5⟩ (by rintro w' ⟨hw1,hw2,hw3,hw4,hw5,hw6,hw7⟩; go_simp; rfl) ?_;simp only[Act.put,aB,aC,aD];refine ag 3 rfl (by kernel_rfl) (by kernel_rfl) (by kernel_rfl) (fun _ _ _ h=>h) rfl ⟨hS1,d0,d1,d2,d3,d4,d5⟩ (by rintro w' ⟨hw1,hw2,hw3,hw4,hw5,hw6,hw7⟩; go_simp; rfl) ?_
         simp only[Act.put,aB,aC,aD];refine ag 4 rfl (by kernel_rfl) (by kernel_rfl) (by kernel_rfl) (fun _ _ _ h=>h) rfl ⟨hS1,d0,d1,d2,d3,d4,d5⟩ (by rintro w' ⟨hw1,hw2,hw3,hw4,hw5,hw6,hw7⟩; go_simp; rfl) ?_;simp only[Act.put,aB,aC,aD];have hltb:eb<W6.heap.size:=lt_of_block HBX6.out;have hlty:wr.heap.size+1<W6.heap.size:=lt_of_block HY6.out;have HAL:=ab ((Below.refl W6.heap.size W6).alloc (Nat.le_refl _) (.cells #[.string (it.name), .int .i64 it.kind, .int .i64 it.mode, .int .i64 it.time, .slice none 0 0, .string it.link] 79))
         have hS2:=And.intro ((HAL.out.cell (p:=⟨eb,0,none⟩) hltb).trans hS1) (And.intro ((HAL.out.cell (p:=⟨wr.heap.size+1,0,none⟩) hlty).trans d0) (And.intro ((HAL.out.cell (p:=⟨wr.heap.size+1,1,none⟩) hlty).trans d1) (And.intro ((HAL.out.cell (p:=⟨wr.heap.size+1,2,none⟩) hlty).trans d2) (And.intro ((HAL.out.cell (p:=⟨wr.heap.size+1,3,none⟩) hlty).trans d3) (And.intro ((HAL.out.cell (p:=⟨wr.heap.size+1,4,none⟩) hlty).trans d4) ((HAL.out.cell (p:=⟨wr.heap.size+1,5,none⟩) hlty).trans d5))))))
         have HS2:=ab hS2;clear hS2;refine ar 5 rfl (by kernel_rfl) rfl (fun K hK=> ?_);go_wp2_with fail
         (first | (refine⟨HS2.out, ?_⟩) | skip)
         refine ar 6 rfl (by kernel_rfl) rfl (fun K hK=> ?_);have hyl:ys.length<4096:=by have h1:=HFL.out; rw[<-HYS.out,List.length_map]at h1; exact h1
         go_wp2_with (at_builtin; go_must (refine aP Tryz.appEnts rfl _ _ rfl base (.slice av ys.length cv2) ys.length (cV ys) rfl W6 [.string (it.name), .int .i64 it.kind, .int .i64 it.mode, .int .i64 it.time, .slice none 0 0, .string it.link] _ rfl rfl (eq (e:=⟨it.name,it.kind,it.mode,it.time,[],it.link⟩)) HROW6.out (by omega) (by omega) ?_); intro v' wc hown' hgrow' _ hpl; obtain⟨ae,ce,rfl,-,-⟩:=ak hown')
         have hneb:(Value.slice av ys.length cv2).ownBlock≠some eb:=fun e=>by
          obtain⟨cs,hc⟩:=aA HROW6.out e;exact absurd (aI HBX6.out hc) (by decide)
         have hlow: ∀i,(Value.slice av ys.length cv2).ownBlock=some i->i<wr.heap.size:=fun i e=>by
          obtain⟨_,ys',_,hr',_⟩:=HIN.out.box;exact(hr'.lt _ e).2
         have hney:(Value.slice av ys.length cv2).ownBlock≠some (wr.heap.size+1):=fun e=>by have:=hlow _ e; omega
         have hnex:(Value.slice av ys.length cv2).ownBlock≠some wr.heap.size:=fun e=>by have:=hlow _ e; omega
         have hbx7:=(hgrow'.block eb hltb (fun e=>hneb e.symm)).trans HBX6.out;have hy7:=(hgrow'.block (wr.heap.size+1) hlty (fun e=>hney e.symm)).trans HY6.out;have hx7:=(hgrow'.block wr.heap.size (lt_of_block HX6.out) (fun e=>hnex e.symm)).trans HX6.out;have hpush:=eE.push (e:=⟨it.name,it.kind,it.mode,it.time,[],it.link⟩) HBX6.out HROW6.out HDAT6.out HDV6.out hown' hgrow' hpl hbe HBZ6.out
         rw[HYS.out]at hpush;have HIN8:=ab (HIN6.out.step hpush.1 hpush.2);have HX8:=ab ((Below.heap_setCell wc ⟨eb,0,none⟩ (.slice ae (ys.length+1) ce) wr.heap.size (by show wr.heap.size≠eb; have:=HIN.out.lo; have:=HIN.out.ord; omega)).trans hx7);have HY8:=ab ((Below.heap_setCell wc ⟨eb,0,none⟩ (.slice ae (ys.length+1) ce) (wr.heap.size+1) (by show wr.heap.size+1≠eb; have:=HIN.out.lo; have:=HIN.out.ord; omega)).trans hy7)
         have c0':=aa (k:=0) hbx7;have f0':=ai (k:=0) hbx7;have y0:=aa (k:=0) hy7;have y1:=aa (k:=1) hy7;have y2:=aa (k:=2) hy7;have y3:=aa (k:=3) hy7;have y4:=aa (k:=4) hy7;have y5:=aa (k:=5) hy7;simp only[aW]at c0' y0 y1 y2 y3 y4 y5;clear hown' hgrow' hpl hpush hneb hney hnex hlow hS1 d0 d1 d2 d3 d4 d5 f1 hbx7 hy7 hx7;refine⟨⟨c0',y0,y1,y2,y3,y4,y5⟩, ?_⟩
         refine ag 7 rfl (by kernel_rfl) (by kernel_rfl) (by kernel_rfl) (fun _ _ _ h=>h) rfl ⟨c0',y0,y1,y2,y3,y4,y5⟩ (by rintro w' ⟨hw1,hw2,hw3,hw4,hw5,hw6,hw7⟩; go_simp; rfl) ?_;simp only[Act.put,aB,aC,aD];refine aS (by kernel_rfl) ?_;refine bZ rfl rfl (fun K hK=> ?_)
         go_upto_region 16 with(fail)
         obtain⟨W8,hW8⟩: ∃W8:World,W8=wc.setCell ⟨eb,0,none⟩ (.slice ae (ys.length+1) ce):=⟨_,rfl⟩;rw[<-hW8]at HIN8 HX8 HY8 ⊢;clear hW8 c0' f0' y0 y1 y2 y3 y4 y5;have HX:=HX8;have HY:=HY8;clear HX8 HY8;have c0:=aa (k:=0) HX.out;have c1:=aa (k:=1) HX.out;have c6:=aa (k:=6) HX.out;have c7:=aa (k:=7) HX.out;have c8:=aa (k:=8) HX.out;have c9:=aa (k:=9) HX.out
         have d0:=aa (k:=0) HY.out;have d1:=aa (k:=1) HY.out;have d2:=aa (k:=2) HY.out;have d3:=aa (k:=3) HY.out;have d4:=aa (k:=4) HY.out;have d5:=aa (k:=5) HY.out;simp only[aW]at c0 c1 c6 c7 c8 c9 d0 d1 d2 d3 d4 d5;go_wp2_with fail;go_ret;rw[<-HST.out,HDR.out,HSP.out];exact⟨rfl,_,HIN8.out.box,HIN8.out.kp⟩
        | ok bs=>
         rw[hfp]at hfl;have HFL2:=ab hfl;have HFP:=ab hfp;clear hfl hfp;go_wp2_with fail;refine HFL2.out.mono ?_;rintro e w5 ⟨hb5,v5,rfl,ho5⟩;obtain⟨a5,c5,rfl,-,-⟩:=ak ho5;have HO5:=ab ho5;clear ho5;have hx5:=(hb5.block _ (lt_of_block HX.out)).trans HX.out;have hy5:=(hb5.block _ (lt_of_block HY.out)).trans HY.out;have HY0:=ab hy5;have d4':=aa (k:=4) hy5;have f4':=ai (k:=4) hy5
         simp only[aW]at d4';clear e0 c0 c1 c6 c7 c8 c9 d0 d1 d2 d3 d4 d5;go_wp2_with fail;obtain⟨W5,hW5⟩: ∃W5:World,W5=w5.setCell ⟨wr.heap.size+1,4,none⟩ (.slice a5 bs.length c5):=⟨_,rfl⟩;rw[<-hW5];have HW5:=ab hW5;have HX5:=ab ((show W5.heap[wr.heap.size]? =w5.heap[wr.heap.size]? from by rw[hW5,Below.heap_setCell _ _ _ _ (by show wr.heap.size≠wr.heap.size+1; omega)]).trans hx5)
         have hy6:=dq (k:=4) hy5 (.slice a5 bs.length c5);simp only[List.setIfInBounds_toArray,List.set_cons_succ,List.set_cons_zero]at hy6;rw[<-hW5]at hy6;have HY5:=ab hy6;have HIN5:=ab (show mP w (w.heap.size+1) w1.heap.size base eb v (.slice (some ⟨b,o,none⟩) m cap1) l W5 v2 acc2 from HIN.out.below (by rw[hW5]; exact Below.setCell (HB2.out.trans (hb5.mono HB2.out.size)) (by show wr.heap.size<=wr.heap.size+1; omega) _) HBZ.out)
         have HBZ5:=ab (show base<=W5.heap.size from Nat.le_trans HBZ4.out (by rw[hW5]; have:=hb5.size; simpa [World.setCell]using this));clear hW5 hx5 hy5 hy6 d4' f4' HX HY hb5;have HX:=HX5;have HY:=HY5;clear HX5 HY5;have HDN:=ab (show W5.ownsRow base 5 1 (.slice a5 bs.length c5) bs.length (bs.map an)from by
          rw[HW5.out];refine(cE HO5.out HBZ4.out).kept (aH w5 _ _ _) (.inr (fun e=> ?_));obtain⟨cs2,hc2⟩:=aA HO5.out e;exact absurd (aI HY0.out hc2) (by decide))
         have HSP:=ab (kL (cs:=cs) (rec:=cZ cs n) (r:=l.drop (k+1)) HPI.out HVL.out HFL.out HK1.out HFP.out);obtain⟨ys,hys,hrow,hdat⟩:=HIN5.out.box.2;obtain⟨av,cv2,hv2,hvn,hvm⟩:=ak hrow;have HBX5:=ab HIN5.out.box.1;have HROW5:=ab hrow;have HDAT5:=ab hdat
         have HYS:=ab hys;subst hv2;clear hys hrow hdat
         obtain⟨W6,hW6⟩: ∃W6:World,W6=(W5).drew:=⟨_,rfl⟩;have hb6:Below (W5).heap.size (W5) W6:=by rw[hW6]; exact(Below.refl _ _).drew
         have HB6:=ab hb6;have HX6:=ab ((hb6.block _ (lt_of_block HX.out)).trans HX.out);have HY6:=ab ((hb6.block _ (lt_of_block HY.out)).trans HY.out);have HBX6:=ab ((hb6.block _ (lt_of_block HBX5.out)).trans HBX5.out);have HROW6:=ab (bc HROW5.out hb6);have HDAT6:=ab (fun y hy=>bc (HDAT5.out y hy) hb6);have HDV6:=ab (bc (HDN).out hb6);have HIN6:=ab (HIN5.out.below hb6 HBZ5.out)
         have hbz6:=Nat.le_trans HBZ5.out hb6.size;have HBZ6:=ab hbz6;clear hb6 HX HY HIN5 HBX5 HROW5 HDAT5;have hS1:=aa (k:=0) HBX6.out;have d0:=aa (k:=0) HY6.out;have d1:=aa (k:=1) HY6.out;have d2:=aa (k:=2) HY6.out;have d3:=aa (k:=3) HY6.out;have d4:=aa (k:=4) HY6.out;have d5:=aa (k:=5) HY6.out;have f1:=ai (k:=0) HBX6.out;simp only[aW]at hS1 d0 d1 d2 d3 d4 d5
         refine bS (fun w'=>w'.cell? ⟨eb,0,none⟩=some (.slice av ys.length cv2)/\w'.cell? ⟨wr.heap.size+1,0,none⟩=some (.string (it.name))/\w'.cell? ⟨wr.heap.size+1,1,none⟩=some (.int .i64 it.kind)/\w'.cell? ⟨wr.heap.size+1,2,none⟩=some (.int .i64 it.mode)/\w'.cell? ⟨wr.heap.size+1,3,none⟩=some (.int .i64 it.time)/\w'.cell? ⟨wr.heap.size+1,4,none⟩=some (.slice a5 bs.length c5)/\w'.cell? ⟨wr.heap.size+1,5,none⟩=some (.string it.link)) (by kernel_rfl) (by kernel_rfl) ?_
         simp only[List.dropLast_cons_cons,List.dropLast_singleton,List.length_cons,List.length_nil,Nat.reduceAdd,Nat.reduceSub];rw[<-hW6];clear hW6;refine ag 0 rfl (by kernel_rfl) (by kernel_rfl) (by kernel_rfl) (fun _ _ _ h=>h) rfl ⟨hS1,d0,d1,d2,d3,d4,d5⟩ (by rintro w' ⟨hw1,hw2,hw3,hw4,hw5,hw6,hw7⟩; go_simp; rfl) ?_;simp only[Act.put,aB,aC,aD];refine ag 1 rfl (by kernel_rfl) (by kernel_rfl) (by kernel_rfl) (fun _ _ _ h=>h) rfl ⟨hS1,d0,d1,d2,d3,d4,d5⟩ (by rintro w' ⟨hw1,hw2,hw3,hw4,hw5,hw6,hw7⟩; go_simp; rfl) ?_
         simp only[Act.put,aB,aC,aD];refine ag 2 rfl (by kernel_rfl) (by kernel_rfl) (by kernel_rfl) (fun _ _ _ h=>h) rfl ⟨hS1,d0,d1,d2,d3,d4,d5⟩ (by rintro w' ⟨hw1,hw2,hw3,hw4,hw5,hw6,hw7⟩; go_simp; rfl) ?_;simp only[Act.put,aB,aC,aD];refine ag 3 rfl (by kernel_rfl) (by kernel_rfl) (by kernel_rfl) (fun _ _ _ h=>h) rfl ⟨hS1,d0,d1,d2,d3,d4,d5⟩ (by rintro w' ⟨hw1,hw2,hw3,hw4,hw5,hw6,hw7⟩; go_simp; rfl) ?_
         simp only[Act.put,aB,aC,aD];refine ag 4 rfl (by kernel_rfl) (by kernel_rfl) (by kernel_rfl) (fun _ _ _ h=>h) rfl ⟨hS1,d0,d1,d2,d3,d4,d5⟩ (by rintro w' ⟨hw1,hw2,hw3,hw4,hw5,hw6,hw7⟩; go_simp; rfl) ?_;simp only[Act.put,aB,aC,aD];have hltb:eb<W6.heap.size:=lt_of_block HBX6.out;have hlty:wr.heap.size+1<W6.heap.size:=lt_of_block HY6.out;have HAL:=ab ((Below.refl W6.heap.size W6).alloc (Nat.le_refl _) (.cells #[.string (it.name), .int .i64 it.kind, .int .i64 it.mode, .int .i64 it.time, .slice a5 bs.length c5, .string it.link] 79))
         have hS2:=And.intro ((HAL.out.cell (p:=⟨eb,0,none⟩) hltb).trans hS1) (And.intro ((HAL.out.cell (p:=⟨wr.heap.size+1,0,none⟩) hlty).trans d0) (And.intro ((HAL.out.cell (p:=⟨wr.heap.size+1,1,none⟩) hlty).trans d1) (And.intro ((HAL.out.cell (p:=⟨wr.heap.size+1,2,none⟩) hlty).trans d2) (And.intro ((HAL.out.cell (p:=⟨wr.heap.size+1,3,none⟩) hlty).trans d3) (And.intro ((HAL.out.cell (p:=⟨wr.heap.size+1,4,none⟩) hlty).trans d4) ((HAL.out.cell (p:=⟨wr.heap.size+1,5,none⟩) hlty).trans d5))))))
         have HS2:=ab hS2;clear hS2;refine ar 5 rfl (by kernel_rfl) rfl (fun K hK=> ?_);go_wp2_with fail
         (first | (refine⟨HS2.out, ?_⟩) | skip)
         refine ar 6 rfl (by kernel_rfl) rfl (fun K hK=> ?_);have hyl:ys.length<4096:=by have h1:=HFL.out; rw[<-HYS.out,List.length_map]at h1; exact h1
         go_wp2_with (at_builtin; go_must (refine aP Tryz.appEnts rfl _ _ rfl base (.slice av ys.length cv2) ys.length (cV ys) rfl W6 [.string (it.name), .int .i64 it.kind, .int .i64 it.mode, .int .i64 it.time, .slice a5 bs.length c5, .string it.link] _ rfl rfl (eq (e:=⟨it.name,it.kind,it.mode,it.time,bs,it.link⟩)) HROW6.out (by omega) (by omega) ?_); intro v' wc hown' hgrow' _ hpl; obtain⟨ae,ce,rfl,-,-⟩:=ak hown')
         have hneb:(Value.slice av ys.length cv2).ownBlock≠some eb:=fun e=>by
          obtain⟨cs,hc⟩:=aA HROW6.out e;exact absurd (aI HBX6.out hc) (by decide)
         have hlow: ∀i,(Value.slice av ys.length cv2).ownBlock=some i->i<wr.heap.size:=fun i e=>by
          obtain⟨_,ys',_,hr',_⟩:=HIN.out.box;exact(hr'.lt _ e).2
         have hney:(Value.slice av ys.length cv2).ownBlock≠some (wr.heap.size+1):=fun e=>by have:=hlow _ e; omega
         have hnex:(Value.slice av ys.length cv2).ownBlock≠some wr.heap.size:=fun e=>by have:=hlow _ e; omega
         have hbx7:=(hgrow'.block eb hltb (fun e=>hneb e.symm)).trans HBX6.out;have hy7:=(hgrow'.block (wr.heap.size+1) hlty (fun e=>hney e.symm)).trans HY6.out;have hx7:=(hgrow'.block wr.heap.size (lt_of_block HX6.out) (fun e=>hnex e.symm)).trans HX6.out;have hpush:=eE.push (e:=⟨it.name,it.kind,it.mode,it.time,bs,it.link⟩) HBX6.out HROW6.out HDAT6.out HDV6.out hown' hgrow' hpl hbe HBZ6.out
         rw[HYS.out]at hpush;have HIN8:=ab (HIN6.out.step hpush.1 hpush.2);have HX8:=ab ((Below.heap_setCell wc ⟨eb,0,none⟩ (.slice ae (ys.length+1) ce) wr.heap.size (by show wr.heap.size≠eb; have:=HIN.out.lo; have:=HIN.out.ord; omega)).trans hx7);have HY8:=ab ((Below.heap_setCell wc ⟨eb,0,none⟩ (.slice ae (ys.length+1) ce) (wr.heap.size+1) (by show wr.heap.size+1≠eb; have:=HIN.out.lo; have:=HIN.out.ord; omega)).trans hy7)
         have c0':=aa (k:=0) hbx7;have f0':=ai (k:=0) hbx7;have y0:=aa (k:=0) hy7;have y1:=aa (k:=1) hy7;have y2:=aa (k:=2) hy7;have y3:=aa (k:=3) hy7;have y4:=aa (k:=4) hy7;have y5:=aa (k:=5) hy7;simp only[aW]at c0' y0 y1 y2 y3 y4 y5;clear hown' hgrow' hpl hpush hneb hney hnex hlow hS1 d0 d1 d2 d3 d4 d5 f1 hbx7 hy7 hx7;refine⟨⟨c0',y0,y1,y2,y3,y4,y5⟩, ?_⟩
         refine ag 7 rfl (by kernel_rfl) (by kernel_rfl) (by kernel_rfl) (fun _ _ _ h=>h) rfl ⟨c0',y0,y1,y2,y3,y4,y5⟩ (by rintro w' ⟨hw1,hw2,hw3,hw4,hw5,hw6,hw7⟩; go_simp; rfl) ?_;simp only[Act.put,aB,aC,aD];refine aS (by kernel_rfl) ?_;refine bZ rfl rfl (fun K hK=> ?_)
         go_upto_region 16 with(fail)
         obtain⟨W8,hW8⟩: ∃W8:World,W8=wc.setCell ⟨eb,0,none⟩ (.slice ae (ys.length+1) ce):=⟨_,rfl⟩;rw[<-hW8]at HIN8 HX8 HY8 ⊢;clear hW8 c0' f0' y0 y1 y2 y3 y4 y5;have HX:=HX8;have HY:=HY8;clear HX8 HY8;have c0:=aa (k:=0) HX.out;have c1:=aa (k:=1) HX.out;have c6:=aa (k:=6) HX.out;have c7:=aa (k:=7) HX.out;have c8:=aa (k:=8) HX.out;have c9:=aa (k:=9) HX.out
         have d0:=aa (k:=0) HY.out;have d1:=aa (k:=1) HY.out;have d2:=aa (k:=2) HY.out;have d3:=aa (k:=3) HY.out;have d4:=aa (k:=4) HY.out;have d5:=aa (k:=5) HY.out;simp only[aW]at c0 c1 c6 c7 c8 c9 d0 d1 d2 d3 d4 d5;go_wp2_with fail;clear c0 c1 c6 c7 c8 c9 d0 d1 d2 d3 d4 d5
         go_roundw
         case rel=>exact⟨k+1,_,_,by omega,by go_num,by rw[<-HST.out,HDR.out,HSP.out],HIN8.out⟩
         case measure=>simp[intOf]; omega
       ·have e1:(it.kind == 1)=false:=by simp[hk1]
        have HK1:=ab hk1;clear hk1;have HIN5:=HIN4;have HBZ5:=HBZ4;have HDN:=ab (World.ownsRow_nil w2 base 5 1);go_wp2_with fail;clear e0 c0 c1 c6 c7 c8 c9 d0 d1 d2 d3 d4 d5;obtain⟨ys,hys,hrow,hdat⟩:=HIN5.out.box.2;obtain⟨av,cv2,hv2,hvn,hvm⟩:=ak hrow;have HBX5:=ab HIN5.out.box.1;have HROW5:=ab hrow;have HDAT5:=ab hdat
        have HYS:=ab hys;subst hv2;clear hys hrow hdat
        obtain⟨W6,hW6⟩: ∃W6:World,W6=(w2).drew:=⟨_,rfl⟩;have hb6:Below (w2).heap.size (w2) W6:=by rw[hW6]; exact(Below.refl _ _).drew
        have HB6:=ab hb6;have HX6:=ab ((hb6.block _ (lt_of_block HX.out)).trans HX.out);have HY6:=ab ((hb6.block _ (lt_of_block HY.out)).trans HY.out);have HBX6:=ab ((hb6.block _ (lt_of_block HBX5.out)).trans HBX5.out);have HROW6:=ab (bc HROW5.out hb6);have HDAT6:=ab (fun y hy=>bc (HDAT5.out y hy) hb6);have HDV6:=ab (bc (HDN).out hb6);have HIN6:=ab (HIN5.out.below hb6 HBZ5.out)
        have hbz6:=Nat.le_trans HBZ5.out hb6.size;have HBZ6:=ab hbz6;clear hb6 HX HY HIN5 HBX5 HROW5 HDAT5;have hS1:=aa (k:=0) HBX6.out;have d0:=aa (k:=0) HY6.out;have d1:=aa (k:=1) HY6.out;have d2:=aa (k:=2) HY6.out;have d3:=aa (k:=3) HY6.out;have d4:=aa (k:=4) HY6.out;have d5:=aa (k:=5) HY6.out;have f1:=ai (k:=0) HBX6.out;simp only[aW]at hS1 d0 d1 d2 d3 d4 d5
        refine bS (fun w'=>w'.cell? ⟨eb,0,none⟩=some (.slice av ys.length cv2)/\w'.cell? ⟨wr.heap.size+1,0,none⟩=some (.string (it.name))/\w'.cell? ⟨wr.heap.size+1,1,none⟩=some (.int .i64 it.kind)/\w'.cell? ⟨wr.heap.size+1,2,none⟩=some (.int .i64 it.mode)/\w'.cell? ⟨wr.heap.size+1,3,none⟩=some (.int .i64 it.time)/\w'.cell? ⟨wr.heap.size+1,4,none⟩=some (.slice none 0 0)/\w'.cell? ⟨wr.heap.size+1,5,none⟩=some (.string it.link)) (by kernel_rfl) (by kernel_rfl) ?_
        simp only[List.dropLast_cons_cons,List.dropLast_singleton,List.length_cons,List.length_nil,Nat.reduceAdd,Nat.reduceSub];rw[<-hW6];clear hW6;refine ag 0 rfl (by kernel_rfl) (by kernel_rfl) (by kernel_rfl) (fun _ _ _ h=>h) rfl ⟨hS1,d0,d1,d2,d3,d4,d5⟩ (by rintro w' ⟨hw1,hw2,hw3,hw4,hw5,hw6,hw7⟩; go_simp; rfl) ?_;simp only[Act.put,aB,aC,aD];refine ag 1 rfl (by kernel_rfl) (by kernel_rfl) (by kernel_rfl) (fun _ _ _ h=>h) rfl ⟨hS1,d0,d1,d2,d3,d4,d5⟩ (by rintro w' ⟨hw1,hw2,hw3,hw4,hw5,hw6,hw7⟩; go_simp; rfl) ?_
        simp only[Act.put,aB,aC,aD];refine ag 2 rfl (by kernel_rfl) (by kernel_rfl) (by kernel_rfl) (fun _ _ _ h=>h) rfl ⟨hS1,d0,d1,d2,d3,d4,d5⟩ (by rintro w' ⟨hw1,hw2,hw3,hw4,hw5,hw6,hw7⟩; go_simp; rfl) ?_;simp only[Act.put,aB,aC,aD];refine ag 3 rfl (by kernel_rfl) (by kernel_rfl) (by kernel_rfl) (fun _ _ _ h=>h) rfl ⟨hS1,d0,d1,d2,d3,d4,d5⟩ (by rintro w' ⟨hw1,hw2,hw3,hw4,hw5,hw6,hw7⟩; go_simp; rfl) ?_
        simp only[Act.put,aB,aC,aD];refine ag 4 rfl (by kernel_rfl) (by kernel_rfl) (by kernel_rfl) (fun _ _ _ h=>h) rfl ⟨hS1,d0,d1,d2,d3,d4,d5⟩ (by rintro w' ⟨hw1,hw2,hw3,hw4,hw5,hw6,hw7⟩; go_simp; rfl) ?_;simp only[Act.put,aB,aC,aD];have hltb:eb<W6.heap.size:=lt_of_block HBX6.out;have hlty:wr.heap.size+1<W6.heap.size:=lt_of_block HY6.out;have HAL:=ab ((Below.refl W6.heap.size W6).alloc (Nat.le_refl _) (.cells #[.string (it.name), .int .i64 it.kind, .int .i64 it.mode, .int .i64 it.time, .slice none 0 0, .string it.link] 79))
        have hS2:=And.intro ((HAL.out.cell (p:=⟨eb,0,none⟩) hltb).trans hS1) (And.intro ((HAL.out.cell (p:=⟨wr.heap.size+1,0,none⟩) hlty).trans d0) (And.intro ((HAL.out.cell (p:=⟨wr.heap.size+1,1,none⟩) hlty).trans d1) (And.intro ((HAL.out.cell (p:=⟨wr.heap.size+1,2,none⟩) hlty).trans d2) (And.intro ((HAL.out.cell (p:=⟨wr.heap.size+1,3,none⟩) hlty).trans d3) (And.intro ((HAL.out.cell (p:=⟨wr.heap.size+1,4,none⟩) hlty).trans d4) ((HAL.out.cell (p:=⟨wr.heap.size+1,5,none⟩) hlty).trans d5))))))
        have HS2:=ab hS2;clear hS2;refine ar 5 rfl (by kernel_rfl) rfl (fun K hK=> ?_);go_wp2_with fail
        (first | (refine⟨HS2.out, ?_⟩) | skip)
        refine ar 6 rfl (by kernel_rfl) rfl (fun K hK=> ?_);have hyl:ys.length<4096:=by have h1:=HFL.out; rw[<-HYS.out,List.length_map]at h1; exact h1
        go_wp2_with (at_builtin; go_must (refine aP Tryz.appEnts rfl _ _ rfl base (.slice av ys.length cv2) ys.length (cV ys) rfl W6 [.string (it.name), .int .i64 it.kind, .int .i64 it.mode, .int .i64 it.time, .slice none 0 0, .string it.link] _ rfl rfl (eq (e:=⟨it.name,it.kind,it.mode,it.time,[],it.link⟩)) HROW6.out (by omega) (by omega) ?_); intro v' wc hown' hgrow' _ hpl; obtain⟨ae,ce,rfl,-,-⟩:=ak hown')
        have hneb:(Value.slice av ys.length cv2).ownBlock≠some eb:=fun e=>by
         obtain⟨cs,hc⟩:=aA HROW6.out e;exact absurd (aI HBX6.out hc) (by decide)
        have hlow: ∀i,(Value.slice av ys.length cv2).ownBlock=some i->i<wr.heap.size:=fun i e=>by
         obtain⟨_,ys',_,hr',_⟩:=HIN.out.box;exact(hr'.lt _ e).2
        have hney:(Value.slice av ys.length cv2).ownBlock≠some (wr.heap.size+1):=fun e=>by have:=hlow _ e; omega
        have hnex:(Value.slice av ys.length cv2).ownBlock≠some wr.heap.size:=fun e=>by have:=hlow _ e; omega
        have hbx7:=(hgrow'.block eb hltb (fun e=>hneb e.symm)).trans HBX6.out;have hy7:=(hgrow'.block (wr.heap.size+1) hlty (fun e=>hney e.symm)).trans HY6.out;have hx7:=(hgrow'.block wr.heap.size (lt_of_block HX6.out) (fun e=>hnex e.symm)).trans HX6.out;have hpush:=eE.push (e:=⟨it.name,it.kind,it.mode,it.time,[],it.link⟩) HBX6.out HROW6.out HDAT6.out HDV6.out hown' hgrow' hpl hbe HBZ6.out
        rw[HYS.out]at hpush;have HIN8:=ab (HIN6.out.step hpush.1 hpush.2);have HX8:=ab ((Below.heap_setCell wc ⟨eb,0,none⟩ (.slice ae (ys.length+1) ce) wr.heap.size (by show wr.heap.size≠eb; have:=HIN.out.lo; have:=HIN.out.ord; omega)).trans hx7);have HY8:=ab ((Below.heap_setCell wc ⟨eb,0,none⟩ (.slice ae (ys.length+1) ce) (wr.heap.size+1) (by show wr.heap.size+1≠eb; have:=HIN.out.lo; have:=HIN.out.ord; omega)).trans hy7)
        have c0':=aa (k:=0) hbx7;have f0':=ai (k:=0) hbx7;have y0:=aa (k:=0) hy7;have y1:=aa (k:=1) hy7;have y2:=aa (k:=2) hy7;have y3:=aa (k:=3) hy7;have y4:=aa (k:=4) hy7;have y5:=aa (k:=5) hy7;simp only[aW]at c0' y0 y1 y2 y3 y4 y5;clear hown' hgrow' hpl hpush hneb hney hnex hlow hS1 d0 d1 d2 d3 d4 d5 f1 hbx7 hy7 hx7;refine⟨⟨c0',y0,y1,y2,y3,y4,y5⟩, ?_⟩
        refine ag 7 rfl (by kernel_rfl) (by kernel_rfl) (by kernel_rfl) (fun _ _ _ h=>h) rfl ⟨c0',y0,y1,y2,y3,y4,y5⟩ (by rintro w' ⟨hw1,hw2,hw3,hw4,hw5,hw6,hw7⟩; go_simp; rfl) ?_;simp only[Act.put,aB,aC,aD];refine aS (by kernel_rfl) ?_;refine bZ rfl rfl (fun K hK=> ?_)
        go_upto_region 16 with(fail)
        obtain⟨W8,hW8⟩: ∃W8:World,W8=wc.setCell ⟨eb,0,none⟩ (.slice ae (ys.length+1) ce):=⟨_,rfl⟩;rw[<-hW8]at HIN8 HX8 HY8 ⊢;clear hW8 c0' f0' y0 y1 y2 y3 y4 y5;have HX:=HX8;have HY:=HY8;clear HX8 HY8;have c0:=aa (k:=0) HX.out;have c1:=aa (k:=1) HX.out;have c6:=aa (k:=6) HX.out;have c7:=aa (k:=7) HX.out;have c8:=aa (k:=8) HX.out;have c9:=aa (k:=9) HX.out
        have d0:=aa (k:=0) HY.out;have d1:=aa (k:=1) HY.out;have d2:=aa (k:=2) HY.out;have d3:=aa (k:=3) HY.out;have d4:=aa (k:=4) HY.out;have d5:=aa (k:=5) HY.out;simp only[aW]at c0 c1 c6 c7 c8 c9 d0 d1 d2 d3 d4 d5
        by_cases hk2:it.kind=2
        ·have e2:(it.kind == 2)=true:=by simp[hk2]
         have hrec:=HIH.out (it.name) it.node (acc2++[⟨it.name,it.kind,it.mode,it.time,[],it.link⟩]) base eb _ W8 (by have h1:=mH dir it.name hnp; rw[HPI.out]at h1; omega) (.inr HVL.out) HIN8.out.box HO.out.nd (HI.out.keepL HIN8.out.kp.below hB) hB hbe (Nat.le_trans hbase HIN8.out.kp.below.size);have HSP:=ab (lP (cs:=cs) (rec:=cZ cs n) (r:=l.drop (k+1)) HPI.out HVL.out HFL.out hk2)
         obtain⟨q,hq⟩: ∃q,q=cZ cs n (it.name) it.node (acc2++[⟨it.name,it.kind,it.mode,it.time,[],it.link⟩]):=⟨_,rfl⟩;rw[<-hq]at hrec HSP;have HREC:=ab hrec;clear hrec hq hk2;go_wp2_with fail;refine HREC.out.mono ?_;rintro e w9 ⟨rfl,v9,hbx9,hkp9⟩;have HIN9:=ab (HIN8.out.step hbx9 hkp9);clear hbx9 hkp9 c0 c1 c6 c7 c8 c9 d0 d1 d2 d3 d4 d5
         by_cases hx:q.1=0
         ·have e3:(q.1 != 0)=false:=by simp[hx]
          have HQX:=ab hx;clear hx;go_wp2_with fail
          go_roundw
          case rel=>exact⟨k+1,v9,q.2,by omega,by go_num,by rw[<-HST.out,HDR.out,HSP.out,if_pos HQX.out],HIN9.out⟩
          case measure=>simp[intOf]; omega
         ·have e3:(q.1 != 0)=true:=by simp[hx]
          have HQX:=ab hx;clear hx;go_wp2_with fail;go_ret;rw[<-HST.out,HDR.out,HSP.out,if_neg HQX.out];exact⟨rfl,v9,HIN9.out.box,HIN9.out.kp⟩
        ·have e2:(it.kind == 2)=false:=by simp[hk2]
         have HSP:=ab (ph (cs:=cs) (rec:=cZ cs n) (r:=l.drop (k+1)) HPI.out HVL.out HFL.out hk2 HK1.out);clear hk2;go_wp2_with fail;clear c0 c1 c6 c7 c8 c9 d0 d1 d2 d3 d4 d5
         go_roundw
         case rel=>exact⟨k+1,_,_,by omega,by go_num,by rw[<-HST.out,HDR.out,HSP.out],HIN8.out⟩
         case measure=>simp[intOf]; omega
      ·have hfi: ¬(acc2.length:Int)<4096:=by omega
       have HFL:=ab hfull;clear hfull;go_wp2_with fail;go_ret;have h1:=HST.out;rw[HDR.out,ef,if_neg (fun h=>HFL.out h.2)]at h1;rw[<-h1];exact⟨rfl,v2,HIN4.out.box,HIN4.out.kp⟩
    ·have e2:dir.toList≠[]:=by rw[ci]; intro h; apply hde; rw[ay,h]; rfl
     have e3:dir.toList.isEmpty=false:=by simpa using e2
     have hpi:eR dir it.name=dir++⟨#[47]⟩++it.name:=by unfold eR; rw[if_neg hde]
     go_wp2_with fail;rw[<-hpi];obtain⟨pt,hpt⟩: ∃pt,eR dir it.name=pt:=⟨_,rfl⟩;have HPI:=ab hpt;rw[hpt];clear hpt hpi;obtain⟨W,hW⟩: ∃W,W=(wr.alloc (.cells #[.string it.name, .int .i64 it.kind, .int .i64 it.mode, .int .i64 it.time, .int .i64 it.size, .string it.link, .slice ca it.chunks.length cc, .string it.node.name, .int .i64 it.node.gen, .int .i64 it.node.size] 28)).alloc (.cells #[.string (pt), .int .i64 it.kind, .int .i64 it.mode, .int .i64 it.time, .slice none 0 0, .string it.link] 79):=⟨_,rfl⟩
     rw[<-hW];have HWB:=ab (show Below wr.heap.size wr W by rw[hW]; exact((Below.refl _ _).alloc (Nat.le_refl _) _).alloc (by simp) _);have HX0:=ab (show W.heap[wr.heap.size]? =some (.cells #[.string it.name, .int .i64 it.kind, .int .i64 it.mode, .int .i64 it.time, .int .i64 it.size, .string it.link, .slice ca it.chunks.length cc, .string it.node.name, .int .i64 it.node.gen, .int .i64 it.node.size] 28 (0,0)) by rw[hW]; exact iK (bY wr _) _)
     have HY0:=ab (show W.heap[wr.heap.size+1]? =some (.cells #[.string (pt), .int .i64 it.kind, .int .i64 it.mode, .int .i64 it.time, .slice none 0 0, .string it.link] 79 (0,0)) by rw[hW]; exact jC wr _ _);have HIN3:=ab (HIN.out.below HWB.out HBZ.out);have HEW:=ab (show fN W from(HI.out.keepL (HIN3.out.kp.below) hB).env);clear hW q0 q1 q2 q3 q4 q5 q6 q7 q8 q9
     cases hval:bh (bl (pt))with
     | false=>
      have HVL:=ab hval;clear hval;refine(fD (pt) false W HEW.out HVL.out).mono ?_;rintro e w2 ⟨rfl,hb2⟩;have HIN4:=ab (HIN3.out.below hb2 (Nat.le_trans HBZ.out HWB.out.size));clear hb2;go_wp2_with fail;go_ret;have h1:=HST.out;rw[HDR.out,ef,if_neg (fun h=>by rw[HPI.out,HVL.out]at h; cases h.1)]at h1;rw[<-h1];exact⟨rfl,v2,HIN4.out.box,HIN4.out.kp⟩
     | true=>
      have HVL:=ab hval;clear hval;refine(fD (pt) true W HEW.out HVL.out).mono ?_;rintro e w2 ⟨rfl,hb2⟩;have HIN4:=ab (HIN3.out.below hb2 (Nat.le_trans HBZ.out HWB.out.size));have HX:=ab ((hb2.block _ (lt_of_block HX0.out)).trans HX0.out);have HY:=ab ((hb2.block _ (lt_of_block HY0.out)).trans HY0.out);have HBZ4:=ab (Nat.le_trans (Nat.le_trans HBZ.out HWB.out.size) hb2.size);have HRF4:=ab (show aV (fun k=>w.heap.size+1<=k/\k<w1.heap.size) w2 (.slice ca it.chunks.length cc) it.chunks from aJ.below (aJ.below HRF.out (by omega) HWB.out (fun _ _ _ h=>h)) (by omega) hb2 (fun _ _ _ h=>h))
      have HB2:=ab (HWB.out.trans (hb2.mono HWB.out.size));clear hb2 HX0 HY0;obtain⟨ys0,hys0,hrow0,-⟩:=HIN4.out.box.2;obtain⟨av0,cv0,hv0,hvn0,hvm0⟩:=ak hrow0;have hlen:ys0.length=acc2.length:=by rw[<-hys0,List.length_map]
      rw[hlen]at hv0 hvn0;have e0:=aa (k:=0) HIN4.out.box.1;simp only[List.getElem?_toArray,List.getElem?_cons_zero]at e0;rw[hv0]at e0;have c0:=aa (k:=0) HX.out;have c1:=aa (k:=1) HX.out;have c6:=aa (k:=6) HX.out;have c7:=aa (k:=7) HX.out;have c8:=aa (k:=8) HX.out;have c9:=aa (k:=9) HX.out;have d0:=aa (k:=0) HY.out;have d1:=aa (k:=1) HY.out
      have d2:=aa (k:=2) HY.out;have d3:=aa (k:=3) HY.out;have d4:=aa (k:=4) HY.out;have d5:=aa (k:=5) HY.out;simp only[aW]at c0 c1 c6 c7 c8 c9 d0 d1 d2 d3 d4 d5;clear hys0 hrow0 hv0 hlen
      by_cases hfull:acc2.length<4096
      ·have hfi:(acc2.length:Int)<4096:=by omega
       have HFL:=ab hfull;clear hfull
       by_cases hk1:it.kind=1
       ·have e1:(it.kind == 1)=true:=by simp[hk1]
        have HK1:=ab hk1;have e2:(it.kind == 2)=false:=by simp[hk1]
        have hbf:=fd hk1 (by have h:=HVI.out; unfold cr at h; rw[Bool.and_eq_true]at h; exact h.2);have htw:=pm (l:=it.chunks) (by have:=HCL.out; omega) (fun r hr=>(hbf.2.2.1 r hr).1) _ (Nat.le_refl _);rw[List.take_length]at htw;have hfl:=mB (fun _=>True) cv (.slice ca it.chunks.length cc) cs it.chunks w2 (bV.wide (HI.out.keepL HIN4.out.kp.below hB).cont) (aV.same HRF4.out (fun k _ _=>⟨trivial,rfl⟩)) htw.1 (by rw[<-hbf.2.2.2.1]; exact hbf.2.2.2.2) (by have:=HCL.out; omega) (fun r hr=>(hbf.2.2.1 r hr).1)
        unfold rB at hfl;clear hk1 hbf htw
        cases hfp:gI cs it.chunks []with
        | error x=>
         rw[hfp]at hfl;have HFL2:=ab hfl;have HFP:=ab hfp;clear hfl hfp;go_wp2_with fail;refine HFL2.out.mono ?_;rintro e w5 ⟨hb5,rfl,hx⟩;have hx5:=(hb5.block _ (lt_of_block HX.out)).trans HX.out;have hy5:=(hb5.block _ (lt_of_block HY.out)).trans HY.out;have HY0:=ab hy5;have d4':=aa (k:=4) hy5;have f4':=ai (k:=4) hy5;simp only[aW]at d4';clear e0 c0 c1 c6 c7 c8 c9 d0 d1 d2 d3 d4 d5
         go_wp2_with fail;obtain⟨W5,hW5⟩: ∃W5:World,W5=w5.setCell ⟨wr.heap.size+1,4,none⟩ (.slice none 0 0):=⟨_,rfl⟩;rw[<-hW5];have HW5:=ab hW5;have HX5:=ab ((show W5.heap[wr.heap.size]? =w5.heap[wr.heap.size]? from by rw[hW5,Below.heap_setCell _ _ _ _ (by show wr.heap.size≠wr.heap.size+1; omega)]).trans hx5);have hy6:=dq (k:=4) hy5 (.slice none 0 0);simp only[List.setIfInBounds_toArray,List.set_cons_succ,List.set_cons_zero]at hy6
         rw[<-hW5]at hy6;have HY5:=ab hy6;have HIN5:=ab (show mP w (w.heap.size+1) w1.heap.size base eb v (.slice (some ⟨b,o,none⟩) m cap1) l W5 v2 acc2 from HIN.out.below (by rw[hW5]; exact Below.setCell (HB2.out.trans (hb5.mono HB2.out.size)) (by show wr.heap.size<=wr.heap.size+1; omega) _) HBZ.out);have HBZ5:=ab (show base<=W5.heap.size from Nat.le_trans HBZ4.out (by rw[hW5]; have:=hb5.size; simpa [World.setCell]using this))
         clear hW5 hx5 hy5 hy6 d4' f4' HX HY hb5;have HX:=HX5;have HY:=HY5;clear HX5 HY5;have HDN:=ab (World.ownsRow_nil W5 base 5 1);have e4:(x != 0)=true:=by simp[hx]
         have HSP:=ab (rm (cs:=cs) (rec:=cZ cs n) (r:=l.drop (k+1)) HPI.out HVL.out HFL.out HK1.out HFP.out hx);clear hx;obtain⟨ys,hys,hrow,hdat⟩:=HIN5.out.box.2;obtain⟨av,cv2,hv2,hvn,hvm⟩:=ak hrow;have HBX5:=ab HIN5.out.box.1;have HROW5:=ab hrow;have HDAT5:=ab hdat
         have HYS:=ab hys;subst hv2;clear hys hrow hdat
         obtain⟨W6,hW6⟩: ∃W6:World,W6=(W5).drew:=⟨_,rfl⟩;have hb6:Below (W5).heap.size (W5) W6:=by rw[hW6]; exact(Below.refl _ _).drew
         have HB6:=ab hb6;have HX6:=ab ((hb6.block _ (lt_of_block HX.out)).trans HX.out);have HY6:=ab ((hb6.block _ (lt_of_block HY.out)).trans HY.out);have HBX6:=ab ((hb6.block _ (lt_of_block HBX5.out)).trans HBX5.out);have HROW6:=ab (bc HROW5.out hb6);have HDAT6:=ab (fun y hy=>bc (HDAT5.out y hy) hb6);have HDV6:=ab (bc (HDN).out hb6);have HIN6:=ab (HIN5.out.below hb6 HBZ5.out)
         have hbz6:=Nat.le_trans HBZ5.out hb6.size;have HBZ6:=ab hbz6;clear hb6 HX HY HIN5 HBX5 HROW5 HDAT5;have hS1:=aa (k:=0) HBX6.out;have d0:=aa (k:=0) HY6.out;have d1:=aa (k:=1) HY6.out;have d2:=aa (k:=2) HY6.out;have d3:=aa (k:=3) HY6.out;have d4:=aa (k:=4) HY6.out;have d5:=aa (k:=5) HY6.out;have f1:=ai (k:=0) HBX6.out;simp only[aW]at hS1 d0 d1 d2 d3 d4 d5
         refine bS (fun w'=>w'.cell? ⟨eb,0,none⟩=some (.slice av ys.length cv2)/\w'.cell? ⟨wr.heap.size+1,0,none⟩=some (.string (pt))/\w'.cell? ⟨wr.heap.size+1,1,none⟩=some (.int .i64 it.kind)/\w'.cell? ⟨wr.heap.size+1,2,none⟩=some (.int .i64 it.mode)/\w'.cell? ⟨wr.heap.size+1,3,none⟩=some (.int .i64 it.time)/\w'.cell? ⟨wr.heap.size+1,4,none⟩=some (.slice none 0 0)/\w'.cell? ⟨wr.heap.size+1,5,none⟩=some (.string it.link)) (by kernel_rfl) (by kernel_rfl) ?_
         simp only[List.dropLast_cons_cons,List.dropLast_singleton,List.length_cons,List.length_nil,Nat.reduceAdd,Nat.reduceSub];rw[<-hW6];clear hW6;refine ag 0 rfl (by kernel_rfl) (by kernel_rfl) (by kernel_rfl) (fun _ _ _ h=>h) rfl ⟨hS1,d0,d1,d2,d3,d4,d5⟩ (by rintro w' ⟨hw1,hw2,hw3,hw4,hw5,hw6,hw7⟩; go_simp; rfl) ?_;simp only[Act.put,aB,aC,aD];refine ag 1 rfl (by kernel_rfl) (by kernel_rfl) (by kernel_rfl) (fun _ _ _ h=>h) rfl ⟨hS1,d0,d1,d2,d3,d4,d5⟩ (by rintro w' ⟨hw1,hw2,hw3,hw4,hw5,hw6,hw7⟩; go_simp; rfl) ?_
         simp only[Act.put,aB,aC,aD];refine ag 2 rfl (by kernel_rfl) (by kernel_rfl) (by kernel_rfl) (fun _ _ _ h=>h) rfl ⟨hS1,d0,d1,d2,d3,d4,d5⟩ (by rintro w' ⟨hw1,hw2,hw3,hw4,hw5,hw6,hw7⟩; go_simp; rfl) ?_;simp only[Act.put,aB,aC,aD];refine ag 3 rfl (by kernel_rfl) (by kernel_rfl) (by kernel_rfl) (fun _ _ _ h=>h) rfl ⟨hS1,d0,d1,d2,d3,d4,d5⟩ (by rintro w' ⟨hw1,hw2,hw3,hw4,hw5,hw6,hw7⟩; go_simp; rfl) ?_
         simp only[Act.put,aB,aC,aD];refine ag 4 rfl (by kernel_rfl) (by kernel_rfl) (by kernel_rfl) (fun _ _ _ h=>h) rfl ⟨hS1,d0,d1,d2,d3,d4,d5⟩ (by rintro w' ⟨hw1,hw2,hw3,hw4,hw5,hw6,hw7⟩; go_simp; rfl) ?_;simp only[Act.put,aB,aC,aD];have hltb:eb<W6.heap.size:=lt_of_block HBX6.out;have hlty:wr.heap.size+1<W6.heap.size:=lt_of_block HY6.out;have HAL:=ab ((Below.refl W6.heap.size W6).alloc (Nat.le_refl _) (.cells #[.string (pt), .int .i64 it.kind, .int .i64 it.mode, .int .i64 it.time, .slice none 0 0, .string it.link] 79))
         have hS2:=And.intro ((HAL.out.cell (p:=⟨eb,0,none⟩) hltb).trans hS1) (And.intro ((HAL.out.cell (p:=⟨wr.heap.size+1,0,none⟩) hlty).trans d0) (And.intro ((HAL.out.cell (p:=⟨wr.heap.size+1,1,none⟩) hlty).trans d1) (And.intro ((HAL.out.cell (p:=⟨wr.heap.size+1,2,none⟩) hlty).trans d2) (And.intro ((HAL.out.cell (p:=⟨wr.heap.size+1,3,none⟩) hlty).trans d3) (And.intro ((HAL.out.cell (p:=⟨wr.heap.size+1,4,none⟩) hlty).trans d4) ((HAL.out.cell (p:=⟨wr.heap.size+1,5,none⟩) hlty).trans d5))))))
         have HS2:=ab hS2;clear hS2;refine ar 5 rfl (by kernel_rfl) rfl (fun K hK=> ?_);go_wp2_with fail
         (first | (refine⟨HS2.out, ?_⟩) | skip)
         refine ar 6 rfl (by kernel_rfl) rfl (fun K hK=> ?_);have hyl:ys.length<4096:=by have h1:=HFL.out; rw[<-HYS.out,List.length_map]at h1; exact h1
         go_wp2_with (at_builtin; go_must (refine aP Tryz.appEnts rfl _ _ rfl base (.slice av ys.length cv2) ys.length (cV ys) rfl W6 [.string (pt), .int .i64 it.kind, .int .i64 it.mode, .int .i64 it.time, .slice none 0 0, .string it.link] _ rfl rfl (eq (e:=⟨pt,it.kind,it.mode,it.time,[],it.link⟩)) HROW6.out (by omega) (by omega) ?_); intro v' wc hown' hgrow' _ hpl; obtain⟨ae,ce,rfl,-,-⟩:=ak hown')
         have hneb:(Value.slice av ys.length cv2).ownBlock≠some eb:=fun e=>by
          obtain⟨cs,hc⟩:=aA HROW6.out e;exact absurd (aI HBX6.out hc) (by decide)
         have hlow: ∀i,(Value.slice av ys.length cv2).ownBlock=some i->i<wr.heap.size:=fun i e=>by
          obtain⟨_,ys',_,hr',_⟩:=HIN.out.box;exact(hr'.lt _ e).2
         have hney:(Value.slice av ys.length cv2).ownBlock≠some (wr.heap.size+1):=fun e=>by have:=hlow _ e; omega
         have hnex:(Value.slice av ys.length cv2).ownBlock≠some wr.heap.size:=fun e=>by have:=hlow _ e; omega
         have hbx7:=(hgrow'.block eb hltb (fun e=>hneb e.symm)).trans HBX6.out;have hy7:=(hgrow'.block (wr.heap.size+1) hlty (fun e=>hney e.symm)).trans HY6.out;have hx7:=(hgrow'.block wr.heap.size (lt_of_block HX6.out) (fun e=>hnex e.symm)).trans HX6.out;have hpush:=eE.push (e:=⟨pt,it.kind,it.mode,it.time,[],it.link⟩) HBX6.out HROW6.out HDAT6.out HDV6.out hown' hgrow' hpl hbe HBZ6.out
         rw[HYS.out]at hpush;have HIN8:=ab (HIN6.out.step hpush.1 hpush.2);have HX8:=ab ((Below.heap_setCell wc ⟨eb,0,none⟩ (.slice ae (ys.length+1) ce) wr.heap.size (by show wr.heap.size≠eb; have:=HIN.out.lo; have:=HIN.out.ord; omega)).trans hx7);have HY8:=ab ((Below.heap_setCell wc ⟨eb,0,none⟩ (.slice ae (ys.length+1) ce) (wr.heap.size+1) (by show wr.heap.size+1≠eb; have:=HIN.out.lo; have:=HIN.out.ord; omega)).trans hy7)
         have c0':=aa (k:=0) hbx7;have f0':=ai (k:=0) hbx7;have y0:=aa (k:=0) hy7;have y1:=aa (k:=1) hy7;have y2:=aa (k:=2) hy7;have y3:=aa (k:=3) hy7;have y4:=aa (k:=4) hy7;have y5:=aa (k:=5) hy7;simp only[aW]at c0' y0 y1 y2 y3 y4 y5;clear hown' hgrow' hpl hpush hneb hney hnex hlow hS1 d0 d1 d2 d3 d4 d5 f1 hbx7 hy7 hx7;refine⟨⟨c0',y0,y1,y2,y3,y4,y5⟩, ?_⟩
         refine ag 7 rfl (by kernel_rfl) (by kernel_rfl) (by kernel_rfl) (fun _ _ _ h=>h) rfl ⟨c0',y0,y1,y2,y3,y4,y5⟩ (by rintro w' ⟨hw1,hw2,hw3,hw4,hw5,hw6,hw7⟩; go_simp; rfl) ?_;simp only[Act.put,aB,aC,aD];refine aS (by kernel_rfl) ?_;refine bZ rfl rfl (fun K hK=> ?_)
         go_upto_region 16 with(fail)
         obtain⟨W8,hW8⟩: ∃W8:World,W8=wc.setCell ⟨eb,0,none⟩ (.slice ae (ys.length+1) ce):=⟨_,rfl⟩;rw[<-hW8]at HIN8 HX8 HY8 ⊢;clear hW8 c0' f0' y0 y1 y2 y3 y4 y5;have HX:=HX8;have HY:=HY8;clear HX8 HY8;have c0:=aa (k:=0) HX.out;have c1:=aa (k:=1) HX.out;have c6:=aa (k:=6) HX.out;have c7:=aa (k:=7) HX.out;have c8:=aa (k:=8) HX.out;have c9:=aa (k:=9) HX.out
         have d0:=aa (k:=0) HY.out;have d1:=aa (k:=1) HY.out;have d2:=aa (k:=2) HY.out;have d3:=aa (k:=3) HY.out;have d4:=aa (k:=4) HY.out;have d5:=aa (k:=5) HY.out;simp only[aW]at c0 c1 c6 c7 c8 c9 d0 d1 d2 d3 d4 d5;go_wp2_with fail;go_ret;rw[<-HST.out,HDR.out,HSP.out];exact⟨rfl,_,HIN8.out.box,HIN8.out.kp⟩
        | ok bs=>
         rw[hfp]at hfl;have HFL2:=ab hfl;have HFP:=ab hfp;clear hfl hfp;go_wp2_with fail;refine HFL2.out.mono ?_;rintro e w5 ⟨hb5,v5,rfl,ho5⟩;obtain⟨a5,c5,rfl,-,-⟩:=ak ho5;have HO5:=ab ho5;clear ho5;have hx5:=(hb5.block _ (lt_of_block HX.out)).trans HX.out;have hy5:=(hb5.block _ (lt_of_block HY.out)).trans HY.out;have HY0:=ab hy5;have d4':=aa (k:=4) hy5;have f4':=ai (k:=4) hy5
         simp only[aW]at d4';clear e0 c0 c1 c6 c7 c8 c9 d0 d1 d2 d3 d4 d5;go_wp2_with fail;obtain⟨W5,hW5⟩: ∃W5:World,W5=w5.setCell ⟨wr.heap.size+1,4,none⟩ (.slice a5 bs.length c5):=⟨_,rfl⟩;rw[<-hW5];have HW5:=ab hW5;have HX5:=ab ((show W5.heap[wr.heap.size]? =w5.heap[wr.heap.size]? from by rw[hW5,Below.heap_setCell _ _ _ _ (by show wr.heap.size≠wr.heap.size+1; omega)]).trans hx5)
         have hy6:=dq (k:=4) hy5 (.slice a5 bs.length c5);simp only[List.setIfInBounds_toArray,List.set_cons_succ,List.set_cons_zero]at hy6;rw[<-hW5]at hy6;have HY5:=ab hy6;have HIN5:=ab (show mP w (w.heap.size+1) w1.heap.size base eb v (.slice (some ⟨b,o,none⟩) m cap1) l W5 v2 acc2 from HIN.out.below (by rw[hW5]; exact Below.setCell (HB2.out.trans (hb5.mono HB2.out.size)) (by show wr.heap.size<=wr.heap.size+1; omega) _) HBZ.out)
         have HBZ5:=ab (show base<=W5.heap.size from Nat.le_trans HBZ4.out (by rw[hW5]; have:=hb5.size; simpa [World.setCell]using this));clear hW5 hx5 hy5 hy6 d4' f4' HX HY hb5;have HX:=HX5;have HY:=HY5;clear HX5 HY5;have HDN:=ab (show W5.ownsRow base 5 1 (.slice a5 bs.length c5) bs.length (bs.map an)from by
          rw[HW5.out];refine(cE HO5.out HBZ4.out).kept (aH w5 _ _ _) (.inr (fun e=> ?_));obtain⟨cs2,hc2⟩:=aA HO5.out e;exact absurd (aI HY0.out hc2) (by decide))
         have HSP:=ab (kL (cs:=cs) (rec:=cZ cs n) (r:=l.drop (k+1)) HPI.out HVL.out HFL.out HK1.out HFP.out);obtain⟨ys,hys,hrow,hdat⟩:=HIN5.out.box.2;obtain⟨av,cv2,hv2,hvn,hvm⟩:=ak hrow;have HBX5:=ab HIN5.out.box.1;have HROW5:=ab hrow;have HDAT5:=ab hdat
         have HYS:=ab hys;subst hv2;clear hys hrow hdat
         obtain⟨W6,hW6⟩: ∃W6:World,W6=(W5).drew:=⟨_,rfl⟩;have hb6:Below (W5).heap.size (W5) W6:=by rw[hW6]; exact(Below.refl _ _).drew
         have HB6:=ab hb6;have HX6:=ab ((hb6.block _ (lt_of_block HX.out)).trans HX.out);have HY6:=ab ((hb6.block _ (lt_of_block HY.out)).trans HY.out);have HBX6:=ab ((hb6.block _ (lt_of_block HBX5.out)).trans HBX5.out);have HROW6:=ab (bc HROW5.out hb6);have HDAT6:=ab (fun y hy=>bc (HDAT5.out y hy) hb6);have HDV6:=ab (bc (HDN).out hb6);have HIN6:=ab (HIN5.out.below hb6 HBZ5.out)
         have hbz6:=Nat.le_trans HBZ5.out hb6.size;have HBZ6:=ab hbz6;clear hb6 HX HY HIN5 HBX5 HROW5 HDAT5;have hS1:=aa (k:=0) HBX6.out;have d0:=aa (k:=0) HY6.out;have d1:=aa (k:=1) HY6.out;have d2:=aa (k:=2) HY6.out;have d3:=aa (k:=3) HY6.out;have d4:=aa (k:=4) HY6.out;have d5:=aa (k:=5) HY6.out;have f1:=ai (k:=0) HBX6.out;simp only[aW]at hS1 d0 d1 d2 d3 d4 d5
         refine bS (fun w'=>w'.cell? ⟨eb,0,none⟩=some (.slice av ys.length cv2)/\w'.cell? ⟨wr.heap.size+1,0,none⟩=some (.string (pt))/\w'.cell? ⟨wr.heap.size+1,1,none⟩=some (.int .i64 it.kind)/\w'.cell? ⟨wr.heap.size+1,2,none⟩=some (.int .i64 it.mode)/\w'.cell? ⟨wr.heap.size+1,3,none⟩=some (.int .i64 it.time)/\w'.cell? ⟨wr.heap.size+1,4,none⟩=some (.slice a5 bs.length c5)/\w'.cell? ⟨wr.heap.size+1,5,none⟩=some (.string it.link)) (by kernel_rfl) (by kernel_rfl) ?_
         simp only[List.dropLast_cons_cons,List.dropLast_singleton,List.length_cons,List.length_nil,Nat.reduceAdd,Nat.reduceSub];rw[<-hW6];clear hW6;refine ag 0 rfl (by kernel_rfl) (by kernel_rfl) (by kernel_rfl) (fun _ _ _ h=>h) rfl ⟨hS1,d0,d1,d2,d3,d4,d5⟩ (by rintro w' ⟨hw1,hw2,hw3,hw4,hw5,hw6,hw7⟩; go_simp; rfl) ?_;simp only[Act.put,aB,aC,aD];refine ag 1 rfl (by kernel_rfl) (by kernel_rfl) (by kernel_rfl) (fun _ _ _ h=>h) rfl ⟨hS1,d0,d1,d2,d3,d4,d5⟩ (by rintro w' ⟨hw1,hw2,hw3,hw4,hw5,hw6,hw7⟩; go_simp; rfl) ?_
         simp only[Act.put,aB,aC,aD];refine ag 2 rfl (by kernel_rfl) (by kernel_rfl) (by kernel_rfl) (fun _ _ _ h=>h) rfl ⟨hS1,d0,d1,d2,d3,d4,d5⟩ (by rintro w' ⟨hw1,hw2,hw3,hw4,hw5,hw6,hw7⟩; go_simp; rfl) ?_;simp only[Act.put,aB,aC,aD];refine ag 3 rfl (by kernel_rfl) (by kernel_rfl) (by kernel_rfl) (fun _ _ _ h=>h) rfl ⟨hS1,d0,d1,d2,d3,d4,d5⟩ (by rintro w' ⟨hw1,hw2,hw3,hw4,hw5,hw6,hw7⟩; go_simp; rfl) ?_
         simp only[Act.put,aB,aC,aD];refine ag 4 rfl (by kernel_rfl) (by kernel_rfl) (by kernel_rfl) (fun _ _ _ h=>h) rfl ⟨hS1,d0,d1,d2,d3,d4,d5⟩ (by rintro w' ⟨hw1,hw2,hw3,hw4,hw5,hw6,hw7⟩; go_simp; rfl) ?_;simp only[Act.put,aB,aC,aD];have hltb:eb<W6.heap.size:=lt_of_block HBX6.out;have hlty:wr.heap.size+1<W6.heap.size:=lt_of_block HY6.out;have HAL:=ab ((Below.refl W6.heap.size W6).alloc (Nat.le_refl _) (.cells #[.string (pt), .int .i64 it.kind, .int .i64 it.mode, .int .i64 it.time, .slice a5 bs.length c5, .string it.link] 79))
         have hS2:=And.intro ((HAL.out.cell (p:=⟨eb,0,none⟩) hltb).trans hS1) (And.intro ((HAL.out.cell (p:=⟨wr.heap.size+1,0,none⟩) hlty).trans d0) (And.intro ((HAL.out.cell (p:=⟨wr.heap.size+1,1,none⟩) hlty).trans d1) (And.intro ((HAL.out.cell (p:=⟨wr.heap.size+1,2,none⟩) hlty).trans d2) (And.intro ((HAL.out.cell (p:=⟨wr.heap.size+1,3,none⟩) hlty).trans d3) (And.intro ((HAL.out.cell (p:=⟨wr.heap.size+1,4,none⟩) hlty).trans d4) ((HAL.out.cell (p:=⟨wr.heap.size+1,5,none⟩) hlty).trans d5))))))
         have HS2:=ab hS2;clear hS2;refine ar 5 rfl (by kernel_rfl) rfl (fun K hK=> ?_);go_wp2_with fail
         (first | (refine⟨HS2.out, ?_⟩) | skip)
         refine ar 6 rfl (by kernel_rfl) rfl (fun K hK=> ?_);have hyl:ys.length<4096:=by have h1:=HFL.out; rw[<-HYS.out,List.length_map]at h1; exact h1
         go_wp2_with (at_builtin; go_must (refine aP Tryz.appEnts rfl _ _ rfl base (.slice av ys.length cv2) ys.length (cV ys) rfl W6 [.string (pt), .int .i64 it.kind, .int .i64 it.mode, .int .i64 it.time, .slice a5 bs.length c5, .string it.link] _ rfl rfl (eq (e:=⟨pt,it.kind,it.mode,it.time,bs,it.link⟩)) HROW6.out (by omega) (by omega) ?_); intro v' wc hown' hgrow' _ hpl; obtain⟨ae,ce,rfl,-,-⟩:=ak hown')
         have hneb:(Value.slice av ys.length cv2).ownBlock≠some eb:=fun e=>by
          obtain⟨cs,hc⟩:=aA HROW6.out e;exact absurd (aI HBX6.out hc) (by decide)
         have hlow: ∀i,(Value.slice av ys.length cv2).ownBlock=some i->i<wr.heap.size:=fun i e=>by
          obtain⟨_,ys',_,hr',_⟩:=HIN.out.box;exact(hr'.lt _ e).2
         have hney:(Value.slice av ys.length cv2).ownBlock≠some (wr.heap.size+1):=fun e=>by have:=hlow _ e; omega
         have hnex:(Value.slice av ys.length cv2).ownBlock≠some wr.heap.size:=fun e=>by have:=hlow _ e; omega
         have hbx7:=(hgrow'.block eb hltb (fun e=>hneb e.symm)).trans HBX6.out;have hy7:=(hgrow'.block (wr.heap.size+1) hlty (fun e=>hney e.symm)).trans HY6.out;have hx7:=(hgrow'.block wr.heap.size (lt_of_block HX6.out) (fun e=>hnex e.symm)).trans HX6.out;have hpush:=eE.push (e:=⟨pt,it.kind,it.mode,it.time,bs,it.link⟩) HBX6.out HROW6.out HDAT6.out HDV6.out hown' hgrow' hpl hbe HBZ6.out
         rw[HYS.out]at hpush;have HIN8:=ab (HIN6.out.step hpush.1 hpush.2);have HX8:=ab ((Below.heap_setCell wc ⟨eb,0,none⟩ (.slice ae (ys.length+1) ce) wr.heap.size (by show wr.heap.size≠eb; have:=HIN.out.lo; have:=HIN.out.ord; omega)).trans hx7);have HY8:=ab ((Below.heap_setCell wc ⟨eb,0,none⟩ (.slice ae (ys.length+1) ce) (wr.heap.size+1) (by show wr.heap.size+1≠eb; have:=HIN.out.lo; have:=HIN.out.ord; omega)).trans hy7)
         have c0':=aa (k:=0) hbx7;have f0':=ai (k:=0) hbx7;have y0:=aa (k:=0) hy7;have y1:=aa (k:=1) hy7;have y2:=aa (k:=2) hy7;have y3:=aa (k:=3) hy7;have y4:=aa (k:=4) hy7;have y5:=aa (k:=5) hy7;simp only[aW]at c0' y0 y1 y2 y3 y4 y5;clear hown' hgrow' hpl hpush hneb hney hnex hlow hS1 d0 d1 d2 d3 d4 d5 f1 hbx7 hy7 hx7;refine⟨⟨c0',y0,y1,y2,y3,y4,y5⟩, ?_⟩
         refine ag 7 rfl (by kernel_rfl) (by kernel_rfl) (by kernel_rfl) (fun _ _ _ h=>h) rfl ⟨c0',y0,y1,y2,y3,y4,y5⟩ (by rintro w' ⟨hw1,hw2,hw3,hw4,hw5,hw6,hw7⟩; go_simp; rfl) ?_;simp only[Act.put,aB,aC,aD];refine aS (by kernel_rfl) ?_;refine bZ rfl rfl (fun K hK=> ?_)
         go_upto_region 16 with(fail)
         obtain⟨W8,hW8⟩: ∃W8:World,W8=wc.setCell ⟨eb,0,none⟩ (.slice ae (ys.length+1) ce):=⟨_,rfl⟩;rw[<-hW8]at HIN8 HX8 HY8 ⊢;clear hW8 c0' f0' y0 y1 y2 y3 y4 y5;have HX:=HX8;have HY:=HY8;clear HX8 HY8;have c0:=aa (k:=0) HX.out;have c1:=aa (k:=1) HX.out;have c6:=aa (k:=6) HX.out;have c7:=aa (k:=7) HX.out;have c8:=aa (k:=8) HX.out;have c9:=aa (k:=9) HX.out
         have d0:=aa (k:=0) HY.out;have d1:=aa (k:=1) HY.out;have d2:=aa (k:=2) HY.out;have d3:=aa (k:=3) HY.out;have d4:=aa (k:=4) HY.out;have d5:=aa (k:=5) HY.out;simp only[aW]at c0 c1 c6 c7 c8 c9 d0 d1 d2 d3 d4 d5;go_wp2_with fail;clear c0 c1 c6 c7 c8 c9 d0 d1 d2 d3 d4 d5
         go_roundw
         case rel=>exact⟨k+1,_,_,by omega,by go_num,by rw[<-HST.out,HDR.out,HSP.out],HIN8.out⟩
         case measure=>simp[intOf]; omega
       ·have e1:(it.kind == 1)=false:=by simp[hk1]
        have HK1:=ab hk1;clear hk1;have HIN5:=HIN4;have HBZ5:=HBZ4;have HDN:=ab (World.ownsRow_nil w2 base 5 1);go_wp2_with fail;clear e0 c0 c1 c6 c7 c8 c9 d0 d1 d2 d3 d4 d5;obtain⟨ys,hys,hrow,hdat⟩:=HIN5.out.box.2;obtain⟨av,cv2,hv2,hvn,hvm⟩:=ak hrow;have HBX5:=ab HIN5.out.box.1;have HROW5:=ab hrow;have HDAT5:=ab hdat
        have HYS:=ab hys;subst hv2;clear hys hrow hdat
        obtain⟨W6,hW6⟩: ∃W6:World,W6=(w2).drew:=⟨_,rfl⟩;have hb6:Below (w2).heap.size (w2) W6:=by rw[hW6]; exact(Below.refl _ _).drew
        have HB6:=ab hb6;have HX6:=ab ((hb6.block _ (lt_of_block HX.out)).trans HX.out);have HY6:=ab ((hb6.block _ (lt_of_block HY.out)).trans HY.out);have HBX6:=ab ((hb6.block _ (lt_of_block HBX5.out)).trans HBX5.out);have HROW6:=ab (bc HROW5.out hb6);have HDAT6:=ab (fun y hy=>bc (HDAT5.out y hy) hb6);have HDV6:=ab (bc (HDN).out hb6);have HIN6:=ab (HIN5.out.below hb6 HBZ5.out)
        have hbz6:=Nat.le_trans HBZ5.out hb6.size;have HBZ6:=ab hbz6;clear hb6 HX HY HIN5 HBX5 HROW5 HDAT5;have hS1:=aa (k:=0) HBX6.out;have d0:=aa (k:=0) HY6.out;have d1:=aa (k:=1) HY6.out;have d2:=aa (k:=2) HY6.out;have d3:=aa (k:=3) HY6.out;have d4:=aa (k:=4) HY6.out;have d5:=aa (k:=5) HY6.out;have f1:=ai (k:=0) HBX6.out;simp only[aW]at hS1 d0 d1 d2 d3 d4 d5
        refine bS (fun w'=>w'.cell? ⟨eb,0,none⟩=some (.slice av ys.length cv2)/\w'.cell? ⟨wr.heap.size+1,0,none⟩=some (.string (pt))/\w'.cell? ⟨wr.heap.size+1,1,none⟩=some (.int .i64 it.kind)/\w'.cell? ⟨wr.heap.size+1,2,none⟩=some (.int .i64 it.mode)/\w'.cell? ⟨wr.heap.size+1,3,none⟩=some (.int .i64 it.time)/\w'.cell? ⟨wr.heap.size+1,4,none⟩=some (.slice none 0 0)/\w'.cell? ⟨wr.heap.size+1,5,none⟩=some (.string it.link)) (by kernel_rfl) (by kernel_rfl) ?_
        simp only[List.dropLast_cons_cons,List.dropLast_singleton,List.length_cons,List.length_nil,Nat.reduceAdd,Nat.reduceSub];rw[<-hW6];clear hW6;refine ag 0 rfl (by kernel_rfl) (by kernel_rfl) (by kernel_rfl) (fun _ _ _ h=>h) rfl ⟨hS1,d0,d1,d2,d3,d4,d5⟩ (by rintro w' ⟨hw1,hw2,hw3,hw4,hw5,hw6,hw7⟩; go_simp; rfl) ?_;simp only[Act.put,aB,aC,aD];refine ag 1 rfl (by kernel_rfl) (by kernel_rfl) (by kernel_rfl) (fun _ _ _ h=>h) rfl ⟨hS1,d0,d1,d2,d3,d4,d5⟩ (by rintro w' ⟨hw1,hw2,hw3,hw4,hw5,hw6,hw7⟩; go_simp; rfl) ?_
        simp only[Act.put,aB,aC,aD];refine ag 2 rfl (by kernel_rfl) (by kernel_rfl) (by kernel_rfl) (fun _ _ _ h=>h) rfl ⟨hS1,d0,d1,d2,d3,d4,d5⟩ (by rintro w' ⟨hw1,hw2,hw3,hw4,hw5,hw6,hw7⟩; go_simp; rfl) ?_;simp only[Act.put,aB,aC,aD];refine ag 3 rfl (by kernel_rfl) (by kernel_rfl) (by kernel_rfl) (fun _ _ _ h=>h) rfl ⟨hS1,d0,d1,d2,d3,d4,d5⟩ (by rintro w' ⟨hw1,hw2,hw3,hw4,hw5,hw6,hw7⟩; go_simp; rfl) ?_
        simp only[Act.put,aB,aC,aD];refine ag 4 rfl (by kernel_rfl) (by kernel_rfl) (by kernel_rfl) (fun _ _ _ h=>h) rfl ⟨hS1,d0,d1,d2,d3,d4,d5⟩ (by rintro w' ⟨hw1,hw2,hw3,hw4,hw5,hw6,hw7⟩; go_simp; rfl) ?_;simp only[Act.put,aB,aC,aD];have hltb:eb<W6.heap.size:=lt_of_block HBX6.out;have hlty:wr.heap.size+1<W6.heap.size:=lt_of_block HY6.out;have HAL:=ab ((Below.refl W6.heap.size W6).alloc (Nat.le_refl _) (.cells #[.string (pt), .int .i64 it.kind, .int .i64 it.mode, .int .i64 it.time, .slice none 0 0, .string it.link] 79))
        have hS2:=And.intro ((HAL.out.cell (p:=⟨eb,0,none⟩) hltb).trans hS1) (And.intro ((HAL.out.cell (p:=⟨wr.heap.size+1,0,none⟩) hlty).trans d0) (And.intro ((HAL.out.cell (p:=⟨wr.heap.size+1,1,none⟩) hlty).trans d1) (And.intro ((HAL.out.cell (p:=⟨wr.heap.size+1,2,none⟩) hlty).trans d2) (And.intro ((HAL.out.cell (p:=⟨wr.heap.size+1,3,none⟩) hlty).trans d3) (And.intro ((HAL.out.cell (p:=⟨wr.heap.size+1,4,none⟩) hlty).trans d4) ((HAL.out.cell (p:=⟨wr.heap.size+1,5,none⟩) hlty).trans d5))))))
        have HS2:=ab hS2;clear hS2;refine ar 5 rfl (by kernel_rfl) rfl (fun K hK=> ?_);go_wp2_with fail
        (first | (refine⟨HS2.out, ?_⟩) | skip)
        refine ar 6 rfl (by kernel_rfl) rfl (fun K hK=> ?_);have hyl:ys.length<4096:=by have h1:=HFL.out; rw[<-HYS.out,List.length_map]at h1; exact h1
        go_wp2_with (at_builtin; go_must (refine aP Tryz.appEnts rfl _ _ rfl base (.slice av ys.length cv2) ys.length (cV ys) rfl W6 [.string (pt), .int .i64 it.kind, .int .i64 it.mode, .int .i64 it.time, .slice none 0 0, .string it.link] _ rfl rfl (eq (e:=⟨pt,it.kind,it.mode,it.time,[],it.link⟩)) HROW6.out (by omega) (by omega) ?_); intro v' wc hown' hgrow' _ hpl; obtain⟨ae,ce,rfl,-,-⟩:=ak hown')
        have hneb:(Value.slice av ys.length cv2).ownBlock≠some eb:=fun e=>by
         obtain⟨cs,hc⟩:=aA HROW6.out e;exact absurd (aI HBX6.out hc) (by decide)
        have hlow: ∀i,(Value.slice av ys.length cv2).ownBlock=some i->i<wr.heap.size:=fun i e=>by
         obtain⟨_,ys',_,hr',_⟩:=HIN.out.box;exact(hr'.lt _ e).2
        have hney:(Value.slice av ys.length cv2).ownBlock≠some (wr.heap.size+1):=fun e=>by have:=hlow _ e; omega
        have hnex:(Value.slice av ys.length cv2).ownBlock≠some wr.heap.size:=fun e=>by have:=hlow _ e; omega
        have hbx7:=(hgrow'.block eb hltb (fun e=>hneb e.symm)).trans HBX6.out;have hy7:=(hgrow'.block (wr.heap.size+1) hlty (fun e=>hney e.symm)).trans HY6.out;have hx7:=(hgrow'.block wr.heap.size (lt_of_block HX6.out) (fun e=>hnex e.symm)).trans HX6.out;have hpush:=eE.push (e:=⟨pt,it.kind,it.mode,it.time,[],it.link⟩) HBX6.out HROW6.out HDAT6.out HDV6.out hown' hgrow' hpl hbe HBZ6.out
        rw[HYS.out]at hpush;have HIN8:=ab (HIN6.out.step hpush.1 hpush.2);have HX8:=ab ((Below.heap_setCell wc ⟨eb,0,none⟩ (.slice ae (ys.length+1) ce) wr.heap.size (by show wr.heap.size≠eb; have:=HIN.out.lo; have:=HIN.out.ord; omega)).trans hx7);have HY8:=ab ((Below.heap_setCell wc ⟨eb,0,none⟩ (.slice ae (ys.length+1) ce) (wr.heap.size+1) (by show wr.heap.size+1≠eb; have:=HIN.out.lo; have:=HIN.out.ord; omega)).trans hy7)
        have c0':=aa (k:=0) hbx7;have f0':=ai (k:=0) hbx7;have y0:=aa (k:=0) hy7;have y1:=aa (k:=1) hy7;have y2:=aa (k:=2) hy7;have y3:=aa (k:=3) hy7;have y4:=aa (k:=4) hy7;have y5:=aa (k:=5) hy7;simp only[aW]at c0' y0 y1 y2 y3 y4 y5;clear hown' hgrow' hpl hpush hneb hney hnex hlow hS1 d0 d1 d2 d3 d4 d5 f1 hbx7 hy7 hx7;refine⟨⟨c0',y0,y1,y2,y3,y4,y5⟩, ?_⟩
        refine ag 7 rfl (by kernel_rfl) (by kernel_rfl) (by kernel_rfl) (fun _ _ _ h=>h) rfl ⟨c0',y0,y1,y2,y3,y4,y5⟩ (by rintro w' ⟨hw1,hw2,hw3,hw4,hw5,hw6,hw7⟩; go_simp; rfl) ?_;simp only[Act.put,aB,aC,aD];refine aS (by kernel_rfl) ?_;refine bZ rfl rfl (fun K hK=> ?_)
        go_upto_region 16 with(fail)
        obtain⟨W8,hW8⟩: ∃W8:World,W8=wc.setCell ⟨eb,0,none⟩ (.slice ae (ys.length+1) ce):=⟨_,rfl⟩;rw[<-hW8]at HIN8 HX8 HY8 ⊢;clear hW8 c0' f0' y0 y1 y2 y3 y4 y5;have HX:=HX8;have HY:=HY8;clear HX8 HY8;have c0:=aa (k:=0) HX.out;have c1:=aa (k:=1) HX.out;have c6:=aa (k:=6) HX.out;have c7:=aa (k:=7) HX.out;have c8:=aa (k:=8) HX.out;have c9:=aa (k:=9) HX.out
        have d0:=aa (k:=0) HY.out;have d1:=aa (k:=1) HY.out;have d2:=aa (k:=2) HY.out;have d3:=aa (k:=3) HY.out;have d4:=aa (k:=4) HY.out;have d5:=aa (k:=5) HY.out;simp only[aW]at c0 c1 c6 c7 c8 c9 d0 d1 d2 d3 d4 d5
        by_cases hk2:it.kind=2
        ·have e2:(it.kind == 2)=true:=by simp[hk2]
         have hrec:=HIH.out (pt) it.node (acc2++[⟨pt,it.kind,it.mode,it.time,[],it.link⟩]) base eb _ W8 (by have h1:=mH dir it.name hnp; rw[HPI.out]at h1; omega) (.inr HVL.out) HIN8.out.box HO.out.nd (HI.out.keepL HIN8.out.kp.below hB) hB hbe (Nat.le_trans hbase HIN8.out.kp.below.size);have HSP:=ab (lP (cs:=cs) (rec:=cZ cs n) (r:=l.drop (k+1)) HPI.out HVL.out HFL.out hk2)
         obtain⟨q,hq⟩: ∃q,q=cZ cs n (pt) it.node (acc2++[⟨pt,it.kind,it.mode,it.time,[],it.link⟩]):=⟨_,rfl⟩;rw[<-hq]at hrec HSP;have HREC:=ab hrec;clear hrec hq hk2;go_wp2_with fail;refine HREC.out.mono ?_;rintro e w9 ⟨rfl,v9,hbx9,hkp9⟩;have HIN9:=ab (HIN8.out.step hbx9 hkp9);clear hbx9 hkp9 c0 c1 c6 c7 c8 c9 d0 d1 d2 d3 d4 d5
         by_cases hx:q.1=0
         ·have e3:(q.1 != 0)=false:=by simp[hx]
          have HQX:=ab hx;clear hx;go_wp2_with fail
          go_roundw
          case rel=>exact⟨k+1,v9,q.2,by omega,by go_num,by rw[<-HST.out,HDR.out,HSP.out,if_pos HQX.out],HIN9.out⟩
          case measure=>simp[intOf]; omega
         ·have e3:(q.1 != 0)=true:=by simp[hx]
          have HQX:=ab hx;clear hx;go_wp2_with fail;go_ret;rw[<-HST.out,HDR.out,HSP.out,if_neg HQX.out];exact⟨rfl,v9,HIN9.out.box,HIN9.out.kp⟩
        ·have e2:(it.kind == 2)=false:=by simp[hk2]
         have HSP:=ab (ph (cs:=cs) (rec:=cZ cs n) (r:=l.drop (k+1)) HPI.out HVL.out HFL.out hk2 HK1.out);clear hk2;go_wp2_with fail;clear c0 c1 c6 c7 c8 c9 d0 d1 d2 d3 d4 d5
         go_roundw
         case rel=>exact⟨k+1,_,_,by omega,by go_num,by rw[<-HST.out,HDR.out,HSP.out],HIN8.out⟩
         case measure=>simp[intOf]; omega
      ·have hfi: ¬(acc2.length:Int)<4096:=by omega
       have HFL:=ab hfull;clear hfull;go_wp2_with fail;go_ret;have h1:=HST.out;rw[HDR.out,ef,if_neg (fun h=>HFL.out h.2)]at h1;rw[<-h1];exact⟨rfl,v2,HIN4.out.box,HIN4.out.kp⟩
   ·have hk2:k=m:=by omega
    subst hk2;go_wp2_with fail;go_ret;have h1:=HST.out;rw[HM.out,List.drop_length,ef]at h1;rw[<-h1];exact⟨rfl,v2,HIN.out.box,HIN.out.kp⟩
theorem tX (cs:List (ByteArray×List UInt8)) (cv:Value) (B:Nat): ∀n,wF cs cv B n
 | 0=>yl cs cv B
 | n+1=>yk cs cv B n (tX cs cv B n)
def wC (B:Nat) (w:World) (v:Value) (acc:List bw):Prop:= ∃ys:List iJ,ys.map Prod.snd=acc/\w.ownsRow B 79 6 v ys.length (cV ys)/\ ∀y∈ys,w.ownsRow B 5 1 y.1 y.2.data.length (y.2.data.map an)
def Cb (cs:List (ByteArray×List UInt8)) (root:aN) (w:World) (e:Ending) (w':World):Prop:=Below w.heap.size w w'/\match mD cs root with
 | .error x=>e= .returned (.tuple #[.slice none 0 0, .int .i64 x])/\x≠0
 | .ok l=> ∃v,e= .returned (.tuple #[v, .int .i64 0])/\wC w.heap.size w' v l
theorem ua (S:Nat->Prop) (cv:Value) (cs:List (ByteArray×List UInt8)) (root:aN) (w:World) (hc:bV S w cv cs) (henv:fN w) (hr:bz root):Calls Tryz.prog 25 #[bJ root,cv] w (Cb cs root w):=by
 have HB0:=ab ((Below.refl w.heap.size w).alloc (Nat.le_refl _) (.cells #[.string root.name, .int .i64 root.gen, .int .i64 root.size] 26));have HX0:=ab (bY w (.cells #[.string root.name, .int .i64 root.gen, .int .i64 root.size] 26));have HI:=ab (eJ.start (hc.below HB0.out) (henv.below HB0.out));have HR:=ab hr;unfold bJ;clear hc henv hr
 cases hv:dT root
 ·have HVR:=ab hv;have HM:=ab (show mD cs root= .error 1 by unfold mD; rw[if_neg (by rw[hv]; simp)]);clear hv
  go_enter Tryz.func25,Tryz.ntmps25
  go_wp2_with fail;refine(dd root false _ HR.out HVR.out).mono ?_;rintro e w1 ⟨rfl,hb1⟩;have HB1:=ab (ah HB0.out hb1);clear hb1;go_wp2_with fail
  go_ret2
  exact⟨HB1.out,by rw[HM.out]; exact⟨rfl,by decide⟩⟩
 ·have HVR:=ab hv;obtain⟨q,hq⟩: ∃q,q=cZ cs 514 ⟨#[]⟩ root []:=⟨_,rfl⟩;have HM:=ab (show mD cs root=if q.1=0 then .ok q.2 else .error q.1 by unfold mD; rw[if_pos hv,hq]);have HQ:=ab hq;clear hv hq
  go_enter Tryz.func25,Tryz.ntmps25
  go_wp2_with fail;refine(dd root true _ HR.out HVR.out).mono ?_;rintro e w1 ⟨rfl,hb1⟩;have HB1:=ab (ah HB0.out hb1);have hx1:=(hb1.block _ (lt_of_block HX0.out)).trans HX0.out;have HX1:=ab hx1;have hz1:=lt_of_block hx1;have hi1:=eJ.keepL (base:=w1.heap.size) (HI.out.keepL hb1 (Nat.le_refl _)) ((Below.refl w1.heap.size w1).alloc (Nat.le_refl _) (.cells #[.slice none 0 0] 46)) hb1.size
  have hld:=tX cs cv _ 514 ⟨#[]⟩ root [] w1.heap.size w1.heap.size (.slice none 0 0) (w1.alloc (.cells #[.slice none 0 0] 46)) (by simp) (.inl rfl)
   ⟨bY w1 _,[],rfl,World.ownsRow_nil _ _ _ _,by simp⟩ HR.out hi1 hb1.size (Nat.le_refl _) (by simp)
  rw[<-HQ.out]at hld;have HLD:=ab hld;unfold bJ at HLD;have c0:=aa (k:=0) hx1;have c1:=aa (k:=1) hx1;have c2:=aa (k:=2) hx1;simp only[aW]at c0 c1 c2;clear hb1 hx1 hld hi1;go_wp2_with fail;refine HLD.out.mono ?_;rintro e w2 ⟨rfl,v2,hbx2,hkp2⟩;obtain⟨ys,hys,hrow,hdat⟩:=hbx2.2;obtain⟨a2,c2',rfl,-,-⟩:=ak hrow;have e0:=aa (k:=0) hbx2.1;simp only[List.getElem?_toArray,List.getElem?_cons_zero]at e0
  have HB2:=ab (show Below w.heap.size w w2 from(HB1.out.alloc HB1.out.size (.cells #[.slice none 0 0] 46)).trans (hkp2.below.mono HB1.out.size));have HEN:=ab (show wC w.heap.size w2 (.slice a2 ys.length c2') q.2 from⟨ys,hys,cE hrow HB1.out.size,fun y hy=>cE (hdat y hy) HB1.out.size⟩);clear hbx2 hkp2 hys hrow hdat c0 c1 c2
  by_cases hx:q.1=0
  ·have e1:(q.1 != 0)=false:=by simp[hx]
   have HQX:=ab hx;clear hx;go_wp2_with fail
   go_ret2
   exact⟨HB2.out,by rw[HM.out,if_pos HQX.out]; exact⟨_,rfl,HEN.out⟩⟩
  ·have e1:(q.1 != 0)=true:=by simp[hx]
   have HQX:=ab hx;clear hx;go_wp2_with fail
   go_ret2
   exact⟨HB2.out,by rw[HM.out,if_neg HQX.out]; exact⟨rfl,HQX.out⟩⟩
end Go.Proofs.YtpffpjbkbaleiaaGreatDoor
