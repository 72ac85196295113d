/- Texts of this proof, one after the other: DivA, DivB, DivC, DivD, DivE, DivF, Match, Rules, Ign, Parse, ScnR, DecB, ScnA. -/
import Derived.Test.YtnjkpcalgoefhaaGreatDoorCDecodesE
set_option maxRecDepth 100000
set_option maxHeartbeats 8000000
namespace Go.Proofs.YtnjkpcalgoefhaaGreatDoor
open Go.RowKit
def xA (f B:Nat):Value:= .func (.func f) #[] #[.pointer (some ⟨B+1,0,none⟩), .pointer (some ⟨B+5,0,none⟩), .pointer (some ⟨B,0,none⟩), .pointer (some ⟨B+2,0,none⟩), .pointer (some ⟨B+3,0,none⟩), .pointer (some ⟨B+6,0,none⟩)]
structure fE (w0 : World) (B N f : Nat) (pv tv sv mv : Value) (tr : List Bool) (w : World) : Prop where
 c0:w.cell? ⟨B,0,none⟩=some pv
 c1:w.cell? ⟨B+1,0,none⟩=some tv
 c2:w.cell? ⟨B+2,0,none⟩=some sv
 c3:w.cell? ⟨B+3,0,none⟩=some mv
 c5:w.cell? ⟨B+5,0,none⟩=some (.slice (some ⟨B+4,0,none⟩) N N)
 c6:w.cell? ⟨B+6,0,none⟩=some (.func (.func f) #[] #[.pointer (some ⟨B+1,0,none⟩), .pointer (some ⟨B+5,0,none⟩), .pointer (some ⟨B,0,none⟩), .pointer (some ⟨B+2,0,none⟩), .pointer (some ⟨B+3,0,none⟩), .pointer (some ⟨B+6,0,none⟩)])
 row:w.heap[B+4]? =some (.cells (tr.map Value.bool).toArray 4 (0,0))
 len:tr.length=N
 lt:B+6<w.heap.size
 below:Below B w0 w
theorem fE.grown {w0:World} {B N f:Nat} {pv tv sv mv:Value} {tr:List Bool} {w w':World} (h:fE w0 B N f pv tv sv mv tr w) (hb:Below w.heap.size w w'):fE w0 B N f pv tv sv mv tr w':=by
 obtain⟨c0,c1,c2,c3,c5,c6,hr,hl,hlt,hbl⟩:=h;refine⟨(hb.cell (ay c0)).trans c0,(hb.cell (ay c1)).trans c1,(hb.cell (ay c2)).trans c2,(hb.cell (ay c3)).trans c3,(hb.cell (ay c5)).trans c5,(hb.cell (ay c6)).trans c6, ?_,hl,Nat.lt_of_lt_of_le hlt hb.size,hbl.trans (hb.mono (by omega))⟩;rw[hb.block _ (by omega)]; exact hr
theorem fE.cell {w0:World} {B N f:Nat} {pv tv sv mv:Value} {tr:List Bool} {w:World} (h:fE w0 B N f pv tv sv mv tr w) {q:Nat} {b:Bool} (hq:tr[q]? =some b):w.cell? ⟨B+4,q,none⟩=some (.bool b):=by
 rw[ac h.row]; simp[hq]
theorem fE.free {w0:World} {B N f:Nat} {pv tv sv mv:Value} {tr:List Bool} {w:World} (h:fE w0 B N f pv tv sv mv tr w) (q:Nat):w.frozen? ⟨B+4,q,none⟩=false:=aj h.row
theorem fE.mark {w0:World} {B N f:Nat} {pv tv sv mv:Value} {tr:List Bool} {w:World} (h:fE w0 B N f pv tv sv mv tr w) (q:Nat):fE w0 B N f pv tv sv mv (tr.set q true) (w.setCell ⟨B+4,q,none⟩ (.bool true)):=by
 obtain⟨c0,c1,c2,c3,c5,c6,hr,hl,hlt,hbl⟩:=h;have hc: ∀k,k≠B+4->(w.setCell ⟨B+4,q,none⟩ (.bool true)).cell? ⟨k,0,none⟩=w.cell? ⟨k,0,none⟩:=fun k hk=>World.cell?_of_block (w:=w) (a:=⟨k,0,none⟩) (Below.heap_setCell _ _ _ _ hk)
 refine⟨(hc _ (by omega)).trans c0,(hc _ (by omega)).trans c1,(hc _ (by omega)).trans c2,(hc _ (by omega)).trans c3,(hc _ (by omega)).trans c5,(hc _ (by omega)).trans c6, ?_,by simp[hl],by simp[World.setCell]; exact hlt,hbl.setCell (by simp) _⟩;simp only[World.setCell,Array.getElem?_modify,if_true,hr,Option.map_some];simp[List.map_set]
def eU {P T:Type} (star:P->Bool) (M:P->T->Bool) (ps:List P) (ts:List T) (i:Nat) (tr:List Bool):Prop:=
 ∀i' j',i<=i'->i'<=ps.length->j'<=ts.length->tr[i'*(ts.length+1)+j']? =some true->dv star M (ps.drop i') (ts.drop j')=false
section
variable {P T : Type} {star : P → Bool} {M : P → T → Bool} {ps : List P} {ts : List T} {i j : Nat} {tr tr' : List Bool}
theorem uu (m i j n:Nat) (hi:i<=n) (hj:j<=m):i*(m+1)+j<(n+1)*(m+1):=by
 have:i*(m+1)<=n*(m+1):=Nat.mul_le_mul_right _ hi;rw[Nat.add_mul]; omega
theorem yU {m i j i' j':Nat} (hj:j<=m) (hj':j'<=m) (h:i*(m+1)+j=i'*(m+1)+j'):i=i'/\j=j':=by
 have h1:(i*(m+1)+j)/(m+1)=i:=by rw[Nat.mul_comm,Nat.mul_add_div (by omega)]; rw[Nat.div_eq_of_lt (by omega)]; omega
 have h2:(i'*(m+1)+j')/(m+1)=i':=by rw[Nat.mul_comm,Nat.mul_add_div (by omega)]; rw[Nat.div_eq_of_lt (by omega)]; omega
 have:i=i':=by rw[<-h1,<-h2,h]
 subst this;exact⟨rfl,by omega⟩
theorem eU.hit (h:eU star M ps ts i tr) (hi:i<=ps.length) (hj:j<=ts.length) (ht:tr[i*(ts.length+1)+j]? =some true):dv star M (ps.drop i) (ts.drop j)=false:=h i j (Nat.le_refl _) hi hj ht
theorem eU.up (h:eU star M ps ts i tr):eU star M ps ts (i+1) tr:=fun i' j' h1=>h i' j' (by omega)
theorem eU.marked (h:eU star M ps ts i tr) (hj:j<=ts.length):eU star M ps ts (i+1) (tr.set (i*(ts.length+1)+j) true):=by
 intro i' j' h1 h2 h3 h4;rw[List.getElem?_set_ne]at h4
 ·exact h i' j' (by omega) h2 h3 h4
 ·intro e; have:=(yU hj h3 e).1; omega
theorem eU.down (h:eU star M ps ts i tr) (h2:eU star M ps ts (i+1) tr') (hsame: ∀q,q<(i+1)*(ts.length+1)->tr'[q]? =(tr.set (i*(ts.length+1)+j) true)[q]?) (hf:dv star M (ps.drop i) (ts.drop j)=false):eU star M ps ts i tr':=by
 intro i' j' h1 h3 h4 h5
 rcases Nat.lt_or_ge i i' with h6 | h6
 ·exact h2 i' j' (by omega) h3 h4 h5
 ·obtain rfl:i'=i:=by omega
  rw[hsame _ (by rw[Nat.add_mul]; omega)]at h5
  by_cases e:j'=j
  ·rw[e]; exact hf
  ·rw[List.getElem?_set_ne]at h5
   ·exact h i' j' (Nat.le_refl _) h3 h4 h5
   ·omega
theorem AL (hi:i=ps.length) (hj:j<=ts.length):dv star M (ps.drop i) (ts.drop j)=decide (j=ts.length):=by
 rw[hi,List.drop_length];unfold dv
 by_cases h:j=ts.length
 ·simp[h]
 ·have:ts.drop j≠[]:=by intro e; have:=List.drop_eq_nil_iff.1 e; omega
  simp[this,h]
theorem sj {p:P} (hp:ps[i]? =some p) (hs:star p=false) {t:T} (ht:ts[j]? =some t):dv star M (ps.drop i) (ts.drop j)=(M p t && dv star M (ps.drop (i+1)) (ts.drop (j+1))):=by
 obtain⟨hk,rfl⟩:=List.getElem?_eq_some_iff.1 hp;obtain⟨hk2,rfl⟩:=List.getElem?_eq_some_iff.1 ht;rw[List.drop_eq_getElem_cons hk,List.drop_eq_getElem_cons hk2,dv,hs,if_neg (by simp),tR]
theorem xy {p:P} (hp:ps[i]? =some p) (hs:star p=false) (hj:ts.length<=j):dv star M (ps.drop i) (ts.drop j)=false:=by
 obtain⟨hk,rfl⟩:=List.getElem?_eq_some_iff.1 hp;rw[List.drop_eq_getElem_cons hk,List.drop_eq_nil_of_le hj,dv,hs,if_neg (by simp),tR]
theorem xz {p:P} (hp:ps[i]? =some p) (hs:star p=true):dv star M (ps.drop i) (ts.drop j)=gv (dv star M (ps.drop (i+1))) (ts.drop j):=by
 obtain⟨hk,rfl⟩:=List.getElem?_eq_some_iff.1 hp;rw[List.drop_eq_getElem_cons hk,dv,if_pos hs]
theorem gL (f:List T->Bool) (hj:j<ts.length):gv f (ts.drop j)=(f (ts.drop j) || gv f (ts.drop (j+1))):=by
 rw[List.drop_eq_getElem_cons hj,gv]
theorem iE (f:List T->Bool) (hj:j=ts.length):gv f (ts.drop j)=f (ts.drop j):=by
 rw[hj,List.drop_length]; rfl
end
def rL {P T:Type} (star:P->Bool) (M:P->T->Bool) (ps:List P) (ts:List T) (i j:Nat) (w0:World) (B N f:Nat) (pv tv sv mv:Value) (tr:List Bool) (e:Ending) (w':World):Prop:=
 ∃tr',e= .returned (.bool (dv star M (ps.drop i) (ts.drop j)))/\fE w0 B N f pv tv sv mv tr' w'/\(dv star M (ps.drop i) (ts.drop j)=false->eU star M ps ts i tr')/\ ∀q,q<i*(ts.length+1)->tr'[q]? =tr[q]?
def xg {P T:Type} (star:P->Bool) (M:P->T->Bool) (ps:List P) (ts:List T) (i:Nat) (w0:World) (B N f:Nat) (pv tv sv mv:Value):Prop:=
 ∀(ii jj:Int) (j:Nat) (w:World) (tr:List Bool),ii=i->jj=j->j<=ts.length->fE w0 B N f pv tv sv mv tr w->eU star M ps ts i tr->
  Calls Tryz.prog f #[.int .i64 ii, .int .i64 jj, .pointer (some ⟨B+1,0,none⟩), .pointer (some ⟨B+5,0,none⟩), .pointer (some ⟨B,0,none⟩), .pointer (some ⟨B+2,0,none⟩), .pointer (some ⟨B+3,0,none⟩), .pointer (some ⟨B+6,0,none⟩)] w
   (rL star M ps ts i j w0 B N f pv tv sv mv tr)
theorem cY {w0 W:World} {B:Nat} (hb:Below B w0 W) (hB:w0.heap.size=B) {a:Addr} {u:Value} (h:w0.cell? a=some u):W.cell? a=some u:=
 (hb.cell (by have:=ay h; omega)).trans h
theorem oF (ps:List bC) (ts:List Int) (S:Nat->Prop) (w0:World) (B:Nat) (pv tv:Value) (hB:w0.heap.size=B) (hp:cN S w0 pv ps) (htv:aO S w0 1 tv ts.length (ts.map (Value.int .i32)))
  (hn:ps.length<=65536) (hm:ts.length<=65536) (i j:Nat) (w:World) (tr:List Bool) (hi:i<=ps.length) (hj:j<=ts.length)
  (IH:i<ps.length->xg bC.star dX ps ts (i+1) w0 B ((ps.length+1)*(ts.length+1)) 171 pv tv (.func (.func 142) #[] #[]) (.func (.func 143) #[] #[]))
  (hst:fE w0 B ((ps.length+1)*(ts.length+1)) 171 pv tv (.func (.func 142) #[] #[]) (.func (.func 143) #[] #[]) tr w) (hinv:eU bC.star dX ps ts i tr):
  Calls Tryz.prog 171 #[.int .i64 i, .int .i64 j, .pointer (some ⟨B+1,0,none⟩), .pointer (some ⟨B+5,0,none⟩), .pointer (some ⟨B,0,none⟩), .pointer (some ⟨B+2,0,none⟩), .pointer (some ⟨B+3,0,none⟩), .pointer (some ⟨B+6,0,none⟩)] w
   (rL bC.star dX ps ts i j w0 B ((ps.length+1)*(ts.length+1)) 171 pv tv (.func (.func 142) #[] #[]) (.func (.func 143) #[] #[]) tr):=by
 obtain⟨pa,pc,rfl,hpc,hpm,hpx⟩:=hp.shape il.len;obtain⟨_,ta,tc,rfl,htc,htm,ht0⟩:=htv;unfold maxLen at hpm htm;obtain⟨c0,c1,c2,c3,c5,c6,-,hlen,-,-⟩:=id hst;have HST:=aa hst;have HINV:=aa hinv;have HIH:=aa IH;clear IH;have HPX:=aa hpx;have HT0:=aa ht0;have HLEN:=aa hlen;have hpS:=hp;have HPS:=aa hpS;clear hst hinv hpx ht0 hlen hp hpS;obtain⟨N,hN⟩: ∃N:Nat,N=(ps.length+1)*(ts.length+1):=⟨_,rfl⟩
 have hpN:i*(ts.length+1)+j<N:=by rw[hN]; exact uu _ _ _ _ hi hj
 have hNb:N<=4295098369:=by
  have h1:(ps.length+1)*(ts.length+1)<=65537*65537:=Nat.mul_le_mul (by omega) (by omega);omega
 have hX:(i:Int)*((ts.length:Int)+1)=((i*(ts.length+1):Nat):Int):=by simp
 have hb1:0<=(i:Int)*((ts.length:Int)+1):=by rw[hX]; omega
 have hb2:(i:Int)*((ts.length:Int)+1)<=4295098369:=by rw[hX]; omega
 have hb3:(i:Int)*((ts.length:Int)+1)+(j:Int)<(N:Int):=by rw[hX]; omega
 obtain⟨b0,hq⟩: ∃b,tr[i*(ts.length+1)+j]? =some b:=⟨tr[i*(ts.length+1)+j]'(by rw[HLEN.out,<-hN]; exact hpN),by simp⟩;have HQ:=aa hq;have c4:=HST.out.cell hq;have f4:=HST.out.free (i*(ts.length+1)+j);rw[<-hN]at c5 HST HIH ⊢;have HN:=aa hN;clear hN hq HLEN hX
 cases b0 with
 | true=>
  go_enter Tryz.func171,Tryz.ntmps171
  go_wp2_with fail;go_ret;have hf:dv bC.star dX (ps.drop i) (ts.drop j)=false:=HINV.out.hit hi hj HQ.out;exact⟨tr,by rw[hf]; rfl,HST.out,fun _=>HINV.out,fun _ _=>rfl⟩
 | false=>
  have hst1:=HST.out.mark (i*(ts.length+1)+j);have HST1:=aa hst1;have HINV1:=aa (HINV.out.marked (j:=j) hj);obtain⟨d0,d1,d2,d3,d5,d6,-,-,-,-⟩:=hst1
  by_cases hin:i=ps.length
  ·have e1:((i:Int) == (ps.length:Int))=true:=by rw[hin]; simp
   have HIN:=aa hin;clear hin
   go_enter Tryz.func171,Tryz.ntmps171
   go_wp2_with fail;go_ret;have hdv:=AL (star:=bC.star) (M:=dX) HIN.out hj;refine⟨tr.set (i*(ts.length+1)+j) true, ?_,HST1.out,fun hf=>HINV.out.down HINV1.out (fun q' _=>rfl) hf,fun q' hq'=> ?_⟩
   ·rw[hdv];exact au (by rw[Bool.eq_iff_iff]; simp; omega)
   ·rw[List.getElem?_set_ne];omega
  ·have hin':i<ps.length:=by omega
   have e1:((i:Int) == (ps.length:Int))=false:=by rw[beq_eq_false_iff_ne]; omega
   clear hin;obtain⟨it,hit⟩: ∃it,ps[i]? =some it:=⟨ps[i],by simp[hin']⟩;obtain⟨pb,po,c,rfl,hSb,⟨rv,rfl,hrv⟩,-,hcl⟩:=HPX.out i it hit;have HIT:=aa hit;have HRV:=aa hrv;have q0:=hcl 0 (by omega);have q1:=hcl 1 (by omega);have q2:=hcl 2 (by omega);have q3:=hcl 3 (by omega);simp only[Nat.add_zero,<-Nat.add_assoc,ci]at q0 q1 q2 q3;have Q0:=aa q0;have Q1:=aa q1
   have Q2:=aa q2;have Q3:=aa q3;have g0:=cY HST1.out.below hB q0;have g1:=cY HST1.out.below hB q1;have g2:=cY HST1.out.below hB q2;have g3:=cY HST1.out.below hB q3;clear hit hrv hcl q0 q1 q2 q3
   cases hs:it.star
   ·have HS:=aa hs;clear hs
    go_enter Tryz.func171,Tryz.ntmps171
    go_wp2_with fail;clear c0 c1 c2 c3 c4 c5 c6 f4
    generalize hW:w.setCell ⟨B+4,i*(ts.length+1)+j,none⟩ (.bool true)=W at *
    clear hW hb1 hb2 hb3 hpN hNb;refine aw [some 5,none,some 1] (by kernel_rfl) (by kernel_rfl) (by kernel_rfl) ?_;simp only[bq,List.take_succ_cons,List.take_zero,List.drop_succ_cons,List.drop_zero];have HST2:=aa (HST1.out.grown (Below.refl _ W).drew)
    repeat (first | (refine az rfl ?_; simp only[Act.put,aD,aE,aF]) | (refine aI rfl (fun K hK=> ?_); go_simp; refine hK _ ?_; clear hK K))
    refine aH ?_;clear d0 d1 d2 d3 d5 d6 g0 g1 g2 g3 HST1
    generalize W.drew=W2 at *
    refine bw rfl (fun K hK=> ?_);go_wp2_with (go_at_call 142; refine(lF it rv _).mono ?_; rintro e w3 ⟨rfl,hb3⟩; rw[HS.out]; have HST3:=aa (HST2.out.grown hb3); clear hb3 HST2)
    repeat (first | (refine az rfl ?_; simp only[Act.put,aD,aE,aF]) | (refine aI rfl (fun K hK=> ?_); go_simp; refine hK _ ?_; clear hK K))
    refine aH ?_;go_wp2_with fail;obtain⟨d0,d1,d2,d3,d5,d6,-,-,-,-⟩:=id HST3.out;have g0:=cY HST3.out.below hB Q0.out;have g1:=cY HST3.out.below hB Q1.out;have g2:=cY HST3.out.below hB Q2.out;have g3:=cY HST3.out.below hB Q3.out
    by_cases hjm:j<ts.length
    ·have ejm:decide ((j:Int)<(ts.length:Int))=true:=by simpa using hjm
     obtain⟨x,hx⟩: ∃x,ts[j]? =some x:=⟨ts[j],by simp[hjm]⟩;obtain⟨tb,tof,rfl,hSt,htcl⟩:=HT0.out.resolve_left (by omega);have hx3:=cY HST3.out.below hB (htcl j (.int .i32 x) (by simp[hx]));have HX:=aa hx;clear hx htcl
     cases hM:dX it x
     ·have HM:=aa hM;clear hM;have ejm2:(j:Int)<(ts.length:Int):=by omega
      refine aw [some 14,none,some 7,none,some 2] (by kernel_rfl) (by kernel_rfl) (by kernel_rfl) ?_;simp only[bq,List.take_succ_cons,List.take_zero,List.drop_succ_cons,List.drop_zero];have HST3':=aa (HST3.out.grown (Below.refl _ w3).drew)
      repeat (first | (refine az rfl ?_; simp only[Act.put,aD,aE,aF]) | (refine aI rfl (fun K hK=> ?_); go_simp; refine hK _ ?_; clear hK K))
      refine aH ?_;clear d0 d1 d2 d3 d5 d6 g0 g1 g2 g3 hx3;have hrv4:em S w3.drew rv it.ranges:=aO.below HRV.out (by omega) (by have:=HST3'.out.below; rw[<-hB]at this; exact this);have HRV4:=aa hrv4;clear hrv4
      generalize w3.drew=w3d at *
      refine bw rfl (fun K hK=> ?_);go_wp2_with (go_at_call 143; refine(ja S it x rv _ HRV4.out).mono ?_; rintro e w4 ⟨rfl,hb4⟩; rw[HM.out]; have HST4:=aa (HST3'.out.grown hb4); clear hb4)
      repeat (first | (refine az rfl ?_; simp only[Act.put,aD,aE,aF]) | (refine aI rfl (fun K hK=> ?_); go_simp; refine hK _ ?_; clear hK K))
      refine aH ?_;refine im rfl ?_;simp only[Act.put,aD,aE,aF]
      repeat (first | (refine az rfl ?_; simp only[Act.put,aD,aE,aF]) | (refine aI rfl (fun K hK=> ?_); go_simp; refine hK _ ?_; clear hK K))
      refine aH ?_;go_wp2_with fail;go_ret;have hdv:=show dv bC.star dX (ps.drop i) (ts.drop j)=false by rw[sj HIT.out HS.out HX.out,HM.out]; rfl
      refine⟨tr.set (i*(ts.length+1)+j) true,by rw[hdv]; rfl,HST4.out,fun hf=>HINV.out.down HINV1.out (fun _ _=>rfl) hf,fun q hq=> ?_⟩;rw[List.getElem?_set_ne (by omega)]
     ·have HM:=aa hM;clear hM;have ejm2:(j:Int)<(ts.length:Int):=by omega
      refine aw [some 14,none,some 7,none,some 2] (by kernel_rfl) (by kernel_rfl) (by kernel_rfl) ?_;simp only[bq,List.take_succ_cons,List.take_zero,List.drop_succ_cons,List.drop_zero];have HST3':=aa (HST3.out.grown (Below.refl _ w3).drew)
      repeat (first | (refine az rfl ?_; simp only[Act.put,aD,aE,aF]) | (refine aI rfl (fun K hK=> ?_); go_simp; refine hK _ ?_; clear hK K))
      refine aH ?_;clear d0 d1 d2 d3 d5 d6 g0 g1 g2 g3 hx3;have hrv4:em S w3.drew rv it.ranges:=aO.below HRV.out (by omega) (by have:=HST3'.out.below; rw[<-hB]at this; exact this);have HRV4:=aa hrv4;clear hrv4
      generalize w3.drew=w3d at *
      refine bw rfl (fun K hK=> ?_);go_wp2_with (go_at_call 143; refine(ja S it x rv _ HRV4.out).mono ?_; rintro e w4 ⟨rfl,hb4⟩; rw[HM.out]; have HST4:=aa (HST3'.out.grown hb4); clear hb4);have d6:=HST4.out.c6
      repeat (first | (refine az rfl ?_; simp only[Act.put,aD,aE,aF]) | (refine aI rfl (fun K hK=> ?_); go_simp; refine hK _ ?_; clear hK K))
      refine aH ?_;refine bw rfl (fun K hK=> ?_);go_wp2_with (go_at_call 171; refine(HIH.out hin' _ _ (j+1) w4 (tr.set (i*(ts.length+1)+j) true) (by omega) (by omega) (by omega) HST4.out HINV1.out).mono ?_; rintro e w5 ⟨tr2,rfl,hst5,hinv5,hsame5⟩; have HST5:=aa hst5; have HINV5:=aa hinv5; have HSM5:=aa hsame5; clear hst5 hinv5 hsame5)
      repeat (first | (refine az rfl ?_; simp only[Act.put,aD,aE,aF]) | (refine aI rfl (fun K hK=> ?_); go_simp; refine hK _ ?_; clear hK K))
      refine aH ?_;go_wp2_with fail;go_ret;have hdv:dv bC.star dX (ps.drop i) (ts.drop j)=dv bC.star dX (ps.drop (i+1)) (ts.drop (j+1)):=by rw[sj HIT.out HS.out HX.out,HM.out]; rfl
      refine⟨tr2,by rw[hdv]; rfl,HST5.out,fun hf=>HINV.out.down (HINV5.out (by rw[<-hdv]; exact hf)) (fun q hq=>HSM5.out q hq) hf,fun q hq=> ?_⟩;rw[HSM5.out q (by rw[Nat.add_mul]; omega),List.getElem?_set_ne (by omega)]
    ·have ejm:decide ((j:Int)<(ts.length:Int))=false:=by simpa using hjm
     go_quiet (fail)
     go_wp2_with fail;go_ret;have HST4:=aa (HST3.out.grown (bS (Below.refl _ w3) nq));have hdv:=show dv bC.star dX (ps.drop i) (ts.drop j)=false from xy HIT.out HS.out (by omega);refine⟨tr.set (i*(ts.length+1)+j) true,by rw[hdv]; rfl,HST4.out,fun hf=>HINV.out.down HINV1.out (fun _ _=>rfl) hf,fun q hq=> ?_⟩;rw[List.getElem?_set_ne (by omega)]
   ·have HS:=aa hs;clear hs
    go_enter Tryz.func171,Tryz.ntmps171
    go_wp2_with fail;clear c0 c1 c2 c3 c4 c5 c6 f4
    generalize hW:w.setCell ⟨B+4,i*(ts.length+1)+j,none⟩ (.bool true)=W at *
    clear hW hb1 hb2 hb3 hpN hNb;refine aw [some 5,none,some 1] (by kernel_rfl) (by kernel_rfl) (by kernel_rfl) ?_;simp only[bq,List.take_succ_cons,List.take_zero,List.drop_succ_cons,List.drop_zero];have HST2:=aa (HST1.out.grown (Below.refl _ W).drew)
    repeat (first | (refine az rfl ?_; simp only[Act.put,aD,aE,aF]) | (refine aI rfl (fun K hK=> ?_); go_simp; refine hK _ ?_; clear hK K))
    refine aH ?_;clear d0 d1 d2 d3 d5 d6 g0 g1 g2 g3 HST1
    generalize W.drew=W2 at *
    refine bw rfl (fun K hK=> ?_);go_wp2_with (go_at_call 142; refine(lF it rv _).mono ?_; rintro e w3 ⟨rfl,hb3⟩; rw[HS.out]; have HST3:=aa (HST2.out.grown hb3); clear hb3 HST2)
    repeat (first | (refine az rfl ?_; simp only[Act.put,aD,aE,aF]) | (refine aI rfl (fun K hK=> ?_); go_simp; refine hK _ ?_; clear hK K))
    refine aH ?_;go_wp2_with fail
    go_loopw [12] (fun en wr=> ∃(k:Nat) (tr':List Bool),j<=k/\k<=ts.length+1/\en= .int .i64 k/\fE w0 B N 171 (.slice (some ⟨pb,po,none⟩) ps.length pc) (.slice ta ts.length tc) (.func (.func 142) #[] #[]) (.func (.func 143) #[] #[]) tr' wr/\
      eU bC.star dX ps ts (i+1) tr'/\(∀q,q<(i+1)*(ts.length+1)->tr'[q]? =(tr.set (i*(ts.length+1)+j) true)[q]?)/\dv bC.star dX (ps.drop i) (ts.drop j)=(decide (k<=ts.length) && gv (dv bC.star dX (ps.drop (i+1))) (ts.drop k))) (fun en _=>ts.length+1-(intOf en).toNat)
    case atStart=>exact⟨j,_,Nat.le_refl _,by omega,rfl,HST3.out,HINV1.out,fun _ _=>rfl,by rw[xz HIT.out HS.out]; simp[hj]⟩
    case round=>
     obtain⟨k,tr',hjk,hk,rfl,hst4,hinv4,hsm4,hdv4⟩:=hrel;have HST4:=aa hst4;have HINV4:=aa hinv4;have HSM4:=aa hsm4;have HDV4:=aa hdv4;obtain⟨d0,d1,d2,d3,d5,d6,-,-,-,-⟩:=hst4;clear hinv4 hsm4 hdv4
     by_cases hkm:k<=ts.length
     ·cases hdvk:dv bC.star dX (ps.drop (i+1)) (ts.drop k)
      ·have HDVK:=aa hdvk;clear hdvk;go_wp2_with (go_at_call 171; refine(HIH.out hin' _ _ k wr tr' (by omega) (by omega) (by omega) HST4.out HINV4.out).mono ?_; rintro e w5 ⟨tr2,rfl,hst5,hinv5,hsame5⟩; rw[HDVK.out]; have HST5:=aa hst5; have HINV5:=aa hinv5; have HSM5:=aa hsame5; clear hst5 hinv5 hsame5)
       go_roundw
       case rel=>
        refine⟨k+1,tr2,by omega,by omega,by go_num,HST5.out,HINV5.out HDVK.out,fun q hq=>(HSM5.out q hq).trans (HSM4.out q hq), ?_⟩;rw[HDV4.out]
        by_cases hlt:k<ts.length
        ·rw[gL _ hlt,HDVK.out]; simp[hkm,show k+1<=ts.length by omega]
        ·rw[iE _ (show k=ts.length by omega),HDVK.out]; simp[show ¬k+1<=ts.length by omega]
       case measure=>simp[intOf]; omega
      ·have HDVK:=aa hdvk;clear hdvk;go_wp2_with (go_at_call 171; refine(HIH.out hin' _ _ k wr tr' (by omega) (by omega) (by omega) HST4.out HINV4.out).mono ?_; rintro e w5 ⟨tr2,rfl,hst5,hinv5,hsame5⟩; rw[HDVK.out]; have HST5:=aa hst5; have HINV5:=aa hinv5; have HSM5:=aa hsame5; clear hst5 hinv5 hsame5);go_ret;have hdv:dv bC.star dX (ps.drop i) (ts.drop j)=true:=by
        rw[HDV4.out]
        by_cases hlt:k<ts.length
        ·rw[gL _ hlt,HDVK.out]; simp[hkm]
        ·rw[iE _ (show k=ts.length by omega),HDVK.out]; simp[hkm]
       refine⟨tr2,by rw[hdv]; rfl,HST5.out,(fun hf=>by rw[hdv]at hf; cases hf),fun q hq=> ?_⟩;rw[HSM5.out q (by rw[Nat.add_mul]; omega),HSM4.out q (by rw[Nat.add_mul]; omega),List.getElem?_set_ne (by omega)]
     ·go_wp2_with fail;go_ret;have hdv:dv bC.star dX (ps.drop i) (ts.drop j)=false:=by rw[HDV4.out]; simp[hkm]
      refine⟨tr',by rw[hdv]; rfl,HST4.out,fun hf=>HINV.out.down HINV4.out HSM4.out hf,fun q hq=> ?_⟩;rw[HSM4.out q (by rw[Nat.add_mul]; omega),List.getElem?_set_ne (by omega)]
theorem DY (ps:List bC) (ts:List Int) (S:Nat->Prop) (w0:World) (B:Nat) (pv tv:Value) (hB:w0.heap.size=B) (hp:cN S w0 pv ps) (htv:aO S w0 1 tv ts.length (ts.map (Value.int .i32)))
  (hn:ps.length<=65536) (hm:ts.length<=65536): ∀(d i:Nat),ps.length-i=d->i<=ps.length->xg bC.star dX ps ts i w0 B ((ps.length+1)*(ts.length+1)) 171 pv tv (.func (.func 142) #[] #[]) (.func (.func 143) #[] #[])
 | 0,i,hd,hi=>by
  intro ii jj j w tr h1 h2 hj hst hinv;subst h1 h2;exact oF ps ts S w0 B pv tv hB hp htv hn hm i j w tr hi hj (fun h=>by omega) hst hinv
 | d+1,i,hd,hi=>by
  intro ii jj j w tr h1 h2 hj hst hinv;subst h1 h2;exact oF ps ts S w0 B pv tv hB hp htv hn hm i j w tr hi hj (fun h=>DY ps ts S w0 B pv tv hB hp htv hn hm d (i+1) (by omega) (by omega)) hst hinv
theorem xe (n:Nat):kI [Value.bool false] n=(List.replicate n false).map Value.bool:=by
 induction n with
 | zero=>rfl
 | succ n ih=>rw[eD,ih,List.replicate_succ]; rfl
theorem CX (w:World) (os:List Obj): ∀(k:Nat) (o:Obj),os[k]? =some o->(os.foldl World.alloc w).heap[w.heap.size+k]? =some o:=by
 induction os generalizing w with
 | nil=>intro k o h; simp at h
 | cons p os ih=>
  intro k o h
  cases k with
  | zero=>
   simp at h; subst h;have hb: ∀(l:List Obj) (v:World),Below v.heap.size v (l.foldl World.alloc v):=by
    intro l
    induction l with
    | nil=>intro v; exact Below.refl _ _
    | cons q l ih2=>intro v; exact ag ((Below.refl _ _).alloc (Nat.le_refl _) q) (ih2 (v.alloc q))
   rw[Nat.add_zero,List.foldl_cons,(hb os (w.alloc p)).block _ (by simp)];exact heap_alloc_new w p
  | succ k=>
   have:=ih (w.alloc p) k o (by simpa using h);rw[List.foldl_cons,show w.heap.size+(k+1)=(w.alloc p).heap.size+k by simp; omega];exact this
theorem rR (l:List Obj): ∀v:World,Below v.heap.size v (l.foldl World.alloc v):=by
 induction l with
 | nil=>intro v; exact Below.refl _ _
 | cons q l ih2=>intro v; exact ag ((Below.refl _ _).alloc (Nat.le_refl _) q) (ih2 (v.alloc q))
theorem uK (l:List Obj): ∀v:World,(l.foldl World.alloc v).heap.size=v.heap.size+l.length:=by
 induction l with
 | nil=>intro v; rfl
 | cons q l ih2=>intro v; rw[List.foldl_cons,ih2]; simp; omega
theorem mP (w:World) (pv tv sv mv:Value) (N f t0 t1 t2 t3 t5 t6:Nat):
  fE w w.heap.size N f pv tv sv mv (List.replicate N false) (((((((w.alloc (.cells #[pv] t0)).alloc (.cells #[tv] t1)).alloc (.cells #[sv] t2)).alloc (.cells #[mv] t3)).alloc (.cells (made [.bool false] N) 4)).alloc (.cells #[.slice (some ⟨w.heap.size+4,0,none⟩) N N] t5)).alloc (.cells #[xA f w.heap.size] t6)):=by
 have e:(((((((w.alloc (.cells #[pv] t0)).alloc (.cells #[tv] t1)).alloc (.cells #[sv] t2)).alloc (.cells #[mv] t3)).alloc (.cells (made [.bool false] N) 4)).alloc (.cells #[.slice (some ⟨w.heap.size+4,0,none⟩) N N] t5)).alloc (.cells #[xA f w.heap.size] t6))=
  [Obj.cells #[pv] t0, .cells #[tv] t1, .cells #[sv] t2, .cells #[mv] t3, .cells (made [.bool false] N) 4, .cells #[.slice (some ⟨w.heap.size+4,0,none⟩) N N] t5, .cells #[xA f w.heap.size] t6].foldl World.alloc w:=rfl
 rw[e];have H:=CX w [Obj.cells #[pv] t0, .cells #[tv] t1, .cells #[sv] t2, .cells #[mv] t3, .cells (made [.bool false] N) 4, .cells #[.slice (some ⟨w.heap.size+4,0,none⟩) N N] t5, .cells #[xA f w.heap.size] t6];refine⟨?_, ?_, ?_, ?_, ?_, ?_, ?_,by simp,by rw[uK]; simp,rR _ _⟩
 ·exact(ac (j:=0) (show _=some (Obj.cells #[pv] t0 (0,0))from H 0 _ rfl)).trans rfl
 ·rw[ac (H 1 _ rfl)]; rfl
 ·rw[ac (H 2 _ rfl)]; rfl
 ·rw[ac (H 3 _ rfl)]; rfl
 ·rw[ac (H 5 _ rfl)]; rfl
 ·rw[ac (H 6 _ rfl)]; rfl
 ·rw[H 4 _ rfl,made,xe]
theorem tw (ps:List bC) (ts:List Int) (S:Nat->Prop) (w:World) (pv tv:Value) (hp:cN S w pv ps) (htv:aO S w 1 tv ts.length (ts.map (Value.int .i32))) (hn:ps.length<=65536) (hm:ts.length<=65536):
  Calls Tryz.prog 141 #[pv,tv, .func (.func 142) #[] #[], .func (.func 143) #[] #[]] w fun e w'=>e= .returned (.bool (dv bC.star dX ps ts))/\Below w.heap.size w w':=by
 obtain⟨pa,pc,rfl,-,-,-⟩:=hp.shape il.len;obtain⟨_,ta,tc,rfl,-⟩:=id htv;have HF:=aa (DY ps ts S w w.heap.size _ _ rfl hp htv hn hm ps.length 0 rfl (Nat.zero_le _));clear hp htv;have hN:(ps.length+1)*(ts.length+1)<=65537*65537:=Nat.mul_le_mul (by omega) (by omega);have hX:((ps.length:Int)+1)*((ts.length:Int)+1)=(((ps.length+1)*(ts.length+1):Nat):Int):=by simp
 have hb1:0<=((ps.length:Int)+1)*((ts.length:Int)+1):=by rw[hX]; omega
 have hb2:((ps.length:Int)+1)*((ts.length:Int)+1)<=4295098369:=by rw[hX]; omega
 have hmk:=lN (P:=Tryz.prog) (t:=203) (e:=4) (z:= .bool false) ((ps.length+1)*(ts.length+1)) [.bool false] Tryz.underlying203 (bytes:=1) (sz:=1) (by kernel_rfl) rfl rfl (by omega) (by omega) (by omega);rw[<-hX]at hmk;clear hX hN
 go_enter Tryz.func141,Tryz.ntmps141
 go_wp2_with fail;refine(HF.out 0 0 0 _ (List.replicate ((ps.length+1)*(ts.length+1)) false) rfl rfl (Nat.zero_le _) (mP w _ _ _ _ _ _ _ _ _ _ _ _) ?_).mono ?_
 ·intro i' j' _ _ _ h;rw[List.getElem?_replicate]at h
  split at h<;> simp at h
 ·rintro e w1 ⟨tr',rfl,hst,-,-⟩;go_wp2_with fail;go_ret;exact⟨rfl,hst.below⟩
theorem zu {w:World} {x:ByteArray} {cap:Nat} (hc:(bg (bl x)).length<=cap) (hm:cap<=maxLen) (zs:List Value):
  aO (fun _=>True) (w.alloc (.cells (((bg (bl x)).map (Value.int .i32))++zs).toArray 21)).drew 1 (.slice (some ⟨w.heap.size,0,none⟩) (bg (bl x)).length cap) (bg (bl x)).length ((bg (bl x)).map (Value.int .i32)):=by
 refine⟨by simp,_,cap,rfl,hc,hm, .inr ⟨w.heap.size,0,rfl,trivial,fun j u hj=> ?_⟩⟩;have h1:=heap_alloc_new w (.cells (((bg (bl x)).map (Value.int .i32))++zs).toArray 21);have h2:(w.alloc (.cells (((bg (bl x)).map (Value.int .i32))++zs).toArray 21)).drew.heap[w.heap.size]? =some (.cells (((bg (bl x)).map (Value.int .i32))++zs).toArray 21 (0,0)):=h1;rw[Nat.zero_add,ac h2,List.getElem?_toArray,List.getElem?_append_left (List.getElem?_eq_some_iff.1 hj).1]
 exact hj
theorem nr (S:Nat->Prop) (c:aP) (v:Value) (x:ByteArray) (w:World) (hv:cN S w v c.items) (hn:c.items.length<=65536) (hx:x.size<=65536):
  Calls Tryz.prog 116 #[.agg #[.bool c.dbl,v], .string x] w fun e w'=>e= .returned (.bool (xq c (bl x)))/\Below w.heap.size w w':=by
 obtain⟨av,cv,rfl,-,-,-⟩:=hv.shape il.len;have hrl:=er (bl x);rw[<-am]at hrl;have HV:=aa hv;clear hv;have hcv:=fun w=>rj (P:=Tryz.prog) (src:=9) (dst:=198) (e:=21) x Tryz.underlying9 Tryz.underlying198 Tryz.underlying21 (by omega) w
 go_enter Tryz.func116,Tryz.ntmps116
 go_wp2_with fail;clear hcv;have hsz:w.heap.size+1=(w.alloc (.cells #[.bool c.dbl, .slice av c.items.length cv] 184)).heap.size:=by simp
 have hba:Below w.heap.size w (w.alloc (.cells #[.bool c.dbl, .slice av c.items.length cv] 184)):=(Below.refl _ _).alloc (Nat.le_refl _) _;rw[hsz]
 generalize w.alloc (.cells #[.bool c.dbl, .slice av c.items.length cv] 184)=wa at *
 have hcg:=grownCap_ge wa (bg (bl x)).length 0 21;have hcm:=grownCap_le_maxLen wa (bg (bl x)).length 0 21 (by unfold maxLen; omega);have hrow:=zu (w:=wa) hcg hcm (List.replicate (grownCap wa (bg (bl x)).length 0 21-(bg (bl x)).length) (Value.int .i32 0));have hbb:Below w.heap.size w (wa.alloc (.cells (((bg (bl x)).map (Value.int .i32))++List.replicate (grownCap wa (bg (bl x)).length 0 21-(bg (bl x)).length) (Value.int .i32 0)).toArray 21)).drew:=(hba.alloc (by omega) _).drew
 generalize grownCap wa (bg (bl x)).length 0 21=cp at *
 generalize (wa.alloc (.cells (((bg (bl x)).map (Value.int .i32))++List.replicate (cp-(bg (bl x)).length) (Value.int .i32 0)).toArray 21)).drew=wb at *
 have hit:cN (fun _=>True) wb (.slice av c.items.length cv) c.items:=cN.move HV.out (fun k hk _=>⟨trivial,hbb.block k hk⟩);refine(tw c.items (bg (bl x)) (fun _=>True) wb _ _ hit hrow hn (by omega)).mono ?_;rintro e w1 ⟨rfl,hb1⟩;have HB1:=aa hb1;clear hb1;go_wp2_with fail;go_ret;exact⟨rfl,ag hbb HB1.out⟩
def dn (c:aP) (x:ByteArray):Bool:=xq c (bl x)
theorem ky (S:Nat->Prop) (c:aP) (v:Value) (x:ByteArray) (w:World) (hv:cN S w v c.items) (hn:c.items.length<=65536) (hx:x.size<=65536):
  Calls Tryz.prog 116 #[.agg #[.bool c.dbl,v], .string x] w fun e w'=>e= .returned (.bool (dn c x))/\Below w.heap.size w w':=nr S c v x w hv hn hx
theorem oG (ps:List aP) (ts:List ByteArray) (S:Nat->Prop) (w0:World) (B:Nat) (pv tv:Value) (hB:w0.heap.size=B) (hp:dw S w0 pv ps) (htv:aO S w0 1 tv ts.length (ts.map Value.string))
  (hn:ps.length<=65536) (hm:ts.length<=65536) (hps: ∀c∈ps,c.items.length<=65536) (hts: ∀x∈ts,x.size<=65536) (i j:Nat) (w:World) (tr:List Bool) (hi:i<=ps.length) (hj:j<=ts.length)
  (IH:i<ps.length->xg aP.dbl dn ps ts (i+1) w0 B ((ps.length+1)*(ts.length+1)) 140 pv tv (.func (.func 115) #[] #[]) (.func (.func 116) #[] #[]))
  (hst:fE w0 B ((ps.length+1)*(ts.length+1)) 140 pv tv (.func (.func 115) #[] #[]) (.func (.func 116) #[] #[]) tr w) (hinv:eU aP.dbl dn ps ts i tr):
  Calls Tryz.prog 140 #[.int .i64 i, .int .i64 j, .pointer (some ⟨B+1,0,none⟩), .pointer (some ⟨B+5,0,none⟩), .pointer (some ⟨B,0,none⟩), .pointer (some ⟨B+2,0,none⟩), .pointer (some ⟨B+3,0,none⟩), .pointer (some ⟨B+6,0,none⟩)] w
   (rL aP.dbl dn ps ts i j w0 B ((ps.length+1)*(ts.length+1)) 140 pv tv (.func (.func 115) #[] #[]) (.func (.func 116) #[] #[]) tr):=by
 obtain⟨pa,pc,rfl,hpc,hpm,hpx⟩:=hp.shape fD.len;obtain⟨_,ta,tc,rfl,htc,htm,ht0⟩:=htv;unfold maxLen at hpm htm;obtain⟨c0,c1,c2,c3,c5,c6,-,hlen,-,-⟩:=id hst;have HST:=aa hst;have HINV:=aa hinv;have HIH:=aa IH;clear IH;have HPX:=aa hpx;have HT0:=aa ht0;have HLEN:=aa hlen;have hpS:=hp;have HPS:=aa hpS;have HPZ:=aa hps;have HTZ:=aa hts;clear hps hts
 clear hst hinv hpx ht0 hlen hp hpS;obtain⟨N,hN⟩: ∃N:Nat,N=(ps.length+1)*(ts.length+1):=⟨_,rfl⟩;have hpN:i*(ts.length+1)+j<N:=by rw[hN]; exact uu _ _ _ _ hi hj
 have hNb:N<=4295098369:=by
  have h1:(ps.length+1)*(ts.length+1)<=65537*65537:=Nat.mul_le_mul (by omega) (by omega);omega
 have hX:(i:Int)*((ts.length:Int)+1)=((i*(ts.length+1):Nat):Int):=by simp
 have hb1:0<=(i:Int)*((ts.length:Int)+1):=by rw[hX]; omega
 have hb2:(i:Int)*((ts.length:Int)+1)<=4295098369:=by rw[hX]; omega
 have hb3:(i:Int)*((ts.length:Int)+1)+(j:Int)<(N:Int):=by rw[hX]; omega
 obtain⟨b0,hq⟩: ∃b,tr[i*(ts.length+1)+j]? =some b:=⟨tr[i*(ts.length+1)+j]'(by rw[HLEN.out,<-hN]; exact hpN),by simp⟩;have HQ:=aa hq;have c4:=HST.out.cell hq;have f4:=HST.out.free (i*(ts.length+1)+j);rw[<-hN]at c5 HST HIH ⊢;have HN:=aa hN;clear hN hq HLEN hX
 cases b0 with
 | true=>
  go_enter Tryz.func140,Tryz.ntmps140
  go_wp2_with fail;go_ret;have hf:dv aP.dbl dn (ps.drop i) (ts.drop j)=false:=HINV.out.hit hi hj HQ.out;exact⟨tr,by rw[hf]; rfl,HST.out,fun _=>HINV.out,fun _ _=>rfl⟩
 | false=>
  have hst1:=HST.out.mark (i*(ts.length+1)+j);have HST1:=aa hst1;have HINV1:=aa (HINV.out.marked (j:=j) hj);obtain⟨d0,d1,d2,d3,d5,d6,-,-,-,-⟩:=hst1
  by_cases hin:i=ps.length
  ·have e1:((i:Int) == (ps.length:Int))=true:=by rw[hin]; simp
   have HIN:=aa hin;clear hin
   go_enter Tryz.func140,Tryz.ntmps140
   go_wp2_with fail;go_ret;have hdv:=AL (star:=aP.dbl) (M:=dn) HIN.out hj;refine⟨tr.set (i*(ts.length+1)+j) true, ?_,HST1.out,fun hf=>HINV.out.down HINV1.out (fun q' _=>rfl) hf,fun q' hq'=> ?_⟩
   ·rw[hdv];exact au (by rw[Bool.eq_iff_iff]; simp; omega)
   ·rw[List.getElem?_set_ne];omega
  ·have hin':i<ps.length:=by omega
   have e1:((i:Int) == (ps.length:Int))=false:=by rw[beq_eq_false_iff_ne]; omega
   clear hin;obtain⟨it,hit⟩: ∃it,ps[i]? =some it:=⟨ps[i],by simp[hin']⟩;obtain⟨pb,po,c,rfl,hSb,⟨rv,rfl,hrv⟩,-,hcl⟩:=HPX.out i it hit;have HIT:=aa hit;have HRV:=aa hrv;have q0:=hcl 0 (by omega);have q1:=hcl 1 (by omega);simp only[Nat.add_zero,<-Nat.add_assoc,ci]at q0 q1;have Q0:=aa q0;have Q1:=aa q1;have g0:=cY HST1.out.below hB q0;have g1:=cY HST1.out.below hB q1
   clear hit hrv hcl q0 q1
   cases hs:it.dbl
   ·have HS:=aa hs;clear hs
    go_enter Tryz.func140,Tryz.ntmps140
    go_wp2_with fail;clear c0 c1 c2 c3 c4 c5 c6 f4
    generalize hW:w.setCell ⟨B+4,i*(ts.length+1)+j,none⟩ (.bool true)=W at *
    clear hW hb1 hb2 hb3 hpN hNb;refine aw [some 5,none,some 1] (by kernel_rfl) (by kernel_rfl) (by kernel_rfl) ?_;simp only[bq,List.take_succ_cons,List.take_zero,List.drop_succ_cons,List.drop_zero];have HST2:=aa (HST1.out.grown (Below.refl _ W).drew)
    repeat (first | (refine az rfl ?_; simp only[Act.put,aD,aE,aF]) | (refine aI rfl (fun K hK=> ?_); go_simp; refine hK _ ?_; clear hK K))
    refine aH ?_;clear d0 d1 d2 d3 d5 d6 g0 g1 HST1
    generalize W.drew=W2 at *
    refine bw rfl (fun K hK=> ?_);go_wp2_with (go_at_call 115; refine(mN it rv _).mono ?_; rintro e w3 ⟨rfl,hb3⟩; rw[HS.out]; have HST3:=aa (HST2.out.grown hb3); clear hb3 HST2)
    repeat (first | (refine az rfl ?_; simp only[Act.put,aD,aE,aF]) | (refine aI rfl (fun K hK=> ?_); go_simp; refine hK _ ?_; clear hK K))
    refine aH ?_;go_wp2_with fail;obtain⟨d0,d1,d2,d3,d5,d6,-,-,-,-⟩:=id HST3.out;have g0:=cY HST3.out.below hB Q0.out;have g1:=cY HST3.out.below hB Q1.out
    by_cases hjm:j<ts.length
    ·have ejm:decide ((j:Int)<(ts.length:Int))=true:=by simpa using hjm
     obtain⟨x,hx⟩: ∃x,ts[j]? =some x:=⟨ts[j],by simp[hjm]⟩;obtain⟨tb,tof,rfl,hSt,htcl⟩:=HT0.out.resolve_left (by omega);have hx3:=cY HST3.out.below hB (htcl j (.string x) (by simp[hx]));have HX:=aa hx;clear hx htcl
     cases hM:dn it x
     ·have HM:=aa hM;clear hM;have ejm2:(j:Int)<(ts.length:Int):=by omega
      refine aw [some 14,none,some 7,none,some 2] (by kernel_rfl) (by kernel_rfl) (by kernel_rfl) ?_;simp only[bq,List.take_succ_cons,List.take_zero,List.drop_succ_cons,List.drop_zero];have HST3':=aa (HST3.out.grown (Below.refl _ w3).drew)
      repeat (first | (refine az rfl ?_; simp only[Act.put,aD,aE,aF]) | (refine aI rfl (fun K hK=> ?_); go_simp; refine hK _ ?_; clear hK K))
      refine aH ?_;clear d0 d1 d2 d3 d5 d6 g0 g1 hx3;have hrv4:cN S w3.drew rv it.items:=cN.move HRV.out (fun k hk h=>⟨h,HST3'.out.below.block k (by omega)⟩);have HRV4:=aa hrv4;clear hrv4
      generalize w3.drew=w3d at *
      refine bw rfl (fun K hK=> ?_);go_wp2_with (go_at_call 116; refine(ky S it rv x _ HRV4.out (HPZ.out it (List.mem_of_getElem? HIT.out)) (HTZ.out x (List.mem_of_getElem? HX.out))).mono ?_; rintro e w4 ⟨rfl,hb4⟩; rw[HM.out]; have HST4:=aa (HST3'.out.grown hb4); clear hb4)
      repeat (first | (refine az rfl ?_; simp only[Act.put,aD,aE,aF]) | (refine aI rfl (fun K hK=> ?_); go_simp; refine hK _ ?_; clear hK K))
      refine aH ?_;refine im rfl ?_;simp only[Act.put,aD,aE,aF]
      repeat (first | (refine az rfl ?_; simp only[Act.put,aD,aE,aF]) | (refine aI rfl (fun K hK=> ?_); go_simp; refine hK _ ?_; clear hK K))
      refine aH ?_;go_wp2_with fail;go_ret;have hdv:=show dv aP.dbl dn (ps.drop i) (ts.drop j)=false by rw[sj HIT.out HS.out HX.out,HM.out]; rfl
      refine⟨tr.set (i*(ts.length+1)+j) true,by rw[hdv]; rfl,HST4.out,fun hf=>HINV.out.down HINV1.out (fun _ _=>rfl) hf,fun q hq=> ?_⟩;rw[List.getElem?_set_ne (by omega)]
     ·have HM:=aa hM;clear hM;have ejm2:(j:Int)<(ts.length:Int):=by omega
      refine aw [some 14,none,some 7,none,some 2] (by kernel_rfl) (by kernel_rfl) (by kernel_rfl) ?_;simp only[bq,List.take_succ_cons,List.take_zero,List.drop_succ_cons,List.drop_zero];have HST3':=aa (HST3.out.grown (Below.refl _ w3).drew)
      repeat (first | (refine az rfl ?_; simp only[Act.put,aD,aE,aF]) | (refine aI rfl (fun K hK=> ?_); go_simp; refine hK _ ?_; clear hK K))
      refine aH ?_;clear d0 d1 d2 d3 d5 d6 g0 g1 hx3;have hrv4:cN S w3.drew rv it.items:=cN.move HRV.out (fun k hk h=>⟨h,HST3'.out.below.block k (by omega)⟩);have HRV4:=aa hrv4;clear hrv4
      generalize w3.drew=w3d at *
      refine bw rfl (fun K hK=> ?_);go_wp2_with (go_at_call 116; refine(ky S it rv x _ HRV4.out (HPZ.out it (List.mem_of_getElem? HIT.out)) (HTZ.out x (List.mem_of_getElem? HX.out))).mono ?_; rintro e w4 ⟨rfl,hb4⟩; rw[HM.out]; have HST4:=aa (HST3'.out.grown hb4); clear hb4);have d6:=HST4.out.c6
      repeat (first | (refine az rfl ?_; simp only[Act.put,aD,aE,aF]) | (refine aI rfl (fun K hK=> ?_); go_simp; refine hK _ ?_; clear hK K))
      refine aH ?_;refine bw rfl (fun K hK=> ?_);go_wp2_with (go_at_call 140; refine(HIH.out hin' _ _ (j+1) w4 (tr.set (i*(ts.length+1)+j) true) (by omega) (by omega) (by omega) HST4.out HINV1.out).mono ?_; rintro e w5 ⟨tr2,rfl,hst5,hinv5,hsame5⟩; have HST5:=aa hst5; have HINV5:=aa hinv5; have HSM5:=aa hsame5; clear hst5 hinv5 hsame5)
      repeat (first | (refine az rfl ?_; simp only[Act.put,aD,aE,aF]) | (refine aI rfl (fun K hK=> ?_); go_simp; refine hK _ ?_; clear hK K))
      refine aH ?_;go_wp2_with fail;go_ret;have hdv:dv aP.dbl dn (ps.drop i) (ts.drop j)=dv aP.dbl dn (ps.drop (i+1)) (ts.drop (j+1)):=by rw[sj HIT.out HS.out HX.out,HM.out]; rfl
      refine⟨tr2,by rw[hdv]; rfl,HST5.out,fun hf=>HINV.out.down (HINV5.out (by rw[<-hdv]; exact hf)) (fun q hq=>HSM5.out q hq) hf,fun q hq=> ?_⟩;rw[HSM5.out q (by rw[Nat.add_mul]; omega),List.getElem?_set_ne (by omega)]
    ·have ejm:decide ((j:Int)<(ts.length:Int))=false:=by simpa using hjm
     go_quiet (fail)
     go_wp2_with fail;go_ret;have HST4:=aa (HST3.out.grown (bS (Below.refl _ w3) nq));have hdv:=show dv aP.dbl dn (ps.drop i) (ts.drop j)=false from xy HIT.out HS.out (by omega);refine⟨tr.set (i*(ts.length+1)+j) true,by rw[hdv]; rfl,HST4.out,fun hf=>HINV.out.down HINV1.out (fun _ _=>rfl) hf,fun q hq=> ?_⟩;rw[List.getElem?_set_ne (by omega)]
   ·have HS:=aa hs;clear hs
    go_enter Tryz.func140,Tryz.ntmps140
    go_wp2_with fail;clear c0 c1 c2 c3 c4 c5 c6 f4
    generalize hW:w.setCell ⟨B+4,i*(ts.length+1)+j,none⟩ (.bool true)=W at *
    clear hW hb1 hb2 hb3 hpN hNb;refine aw [some 5,none,some 1] (by kernel_rfl) (by kernel_rfl) (by kernel_rfl) ?_;simp only[bq,List.take_succ_cons,List.take_zero,List.drop_succ_cons,List.drop_zero];have HST2:=aa (HST1.out.grown (Below.refl _ W).drew)
    repeat (first | (refine az rfl ?_; simp only[Act.put,aD,aE,aF]) | (refine aI rfl (fun K hK=> ?_); go_simp; refine hK _ ?_; clear hK K))
    refine aH ?_;clear d0 d1 d2 d3 d5 d6 g0 g1 HST1
    generalize W.drew=W2 at *
    refine bw rfl (fun K hK=> ?_);go_wp2_with (go_at_call 115; refine(mN it rv _).mono ?_; rintro e w3 ⟨rfl,hb3⟩; rw[HS.out]; have HST3:=aa (HST2.out.grown hb3); clear hb3 HST2)
    repeat (first | (refine az rfl ?_; simp only[Act.put,aD,aE,aF]) | (refine aI rfl (fun K hK=> ?_); go_simp; refine hK _ ?_; clear hK K))
    refine aH ?_;go_wp2_with fail
    go_loopw [12] (fun en wr=> ∃(k:Nat) (tr':List Bool),j<=k/\k<=ts.length+1/\en= .int .i64 k/\fE w0 B N 140 (.slice (some ⟨pb,po,none⟩) ps.length pc) (.slice ta ts.length tc) (.func (.func 115) #[] #[]) (.func (.func 116) #[] #[]) tr' wr/\
      eU aP.dbl dn ps ts (i+1) tr'/\(∀q,q<(i+1)*(ts.length+1)->tr'[q]? =(tr.set (i*(ts.length+1)+j) true)[q]?)/\dv aP.dbl dn (ps.drop i) (ts.drop j)=(decide (k<=ts.length) && gv (dv aP.dbl dn (ps.drop (i+1))) (ts.drop k))) (fun en _=>ts.length+1-(intOf en).toNat)
    case atStart=>exact⟨j,_,Nat.le_refl _,by omega,rfl,HST3.out,HINV1.out,fun _ _=>rfl,by rw[xz HIT.out HS.out]; simp[hj]⟩
    case round=>
     obtain⟨k,tr',hjk,hk,rfl,hst4,hinv4,hsm4,hdv4⟩:=hrel;have HST4:=aa hst4;have HINV4:=aa hinv4;have HSM4:=aa hsm4;have HDV4:=aa hdv4;obtain⟨d0,d1,d2,d3,d5,d6,-,-,-,-⟩:=hst4;clear hinv4 hsm4 hdv4
     by_cases hkm:k<=ts.length
     ·cases hdvk:dv aP.dbl dn (ps.drop (i+1)) (ts.drop k)
      ·have HDVK:=aa hdvk;clear hdvk;go_wp2_with (go_at_call 140; refine(HIH.out hin' _ _ k wr tr' (by omega) (by omega) (by omega) HST4.out HINV4.out).mono ?_; rintro e w5 ⟨tr2,rfl,hst5,hinv5,hsame5⟩; rw[HDVK.out]; have HST5:=aa hst5; have HINV5:=aa hinv5; have HSM5:=aa hsame5; clear hst5 hinv5 hsame5)
       go_roundw
       case rel=>
        refine⟨k+1,tr2,by omega,by omega,by go_num,HST5.out,HINV5.out HDVK.out,fun q hq=>(HSM5.out q hq).trans (HSM4.out q hq), ?_⟩;rw[HDV4.out]
        by_cases hlt:k<ts.length
        ·rw[gL _ hlt,HDVK.out]; simp[hkm,show k+1<=ts.length by omega]
        ·rw[iE _ (show k=ts.length by omega),HDVK.out]; simp[show ¬k+1<=ts.length by omega]
       case measure=>simp[intOf]; omega
      ·have HDVK:=aa hdvk;clear hdvk;go_wp2_with (go_at_call 140; refine(HIH.out hin' _ _ k wr tr' (by omega) (by omega) (by omega) HST4.out HINV4.out).mono ?_; rintro e w5 ⟨tr2,rfl,hst5,hinv5,hsame5⟩; rw[HDVK.out]; have HST5:=aa hst5; have HINV5:=aa hinv5; have HSM5:=aa hsame5; clear hst5 hinv5 hsame5);go_ret;have hdv:dv aP.dbl dn (ps.drop i) (ts.drop j)=true:=by
        rw[HDV4.out]
        by_cases hlt:k<ts.length
        ·rw[gL _ hlt,HDVK.out]; simp[hkm]
        ·rw[iE _ (show k=ts.length by omega),HDVK.out]; simp[hkm]
       refine⟨tr2,by rw[hdv]; rfl,HST5.out,(fun hf=>by rw[hdv]at hf; cases hf),fun q hq=> ?_⟩;rw[HSM5.out q (by rw[Nat.add_mul]; omega),HSM4.out q (by rw[Nat.add_mul]; omega),List.getElem?_set_ne (by omega)]
     ·go_wp2_with fail;go_ret;have hdv:dv aP.dbl dn (ps.drop i) (ts.drop j)=false:=by rw[HDV4.out]; simp[hkm]
      refine⟨tr',by rw[hdv]; rfl,HST4.out,fun hf=>HINV.out.down HINV4.out HSM4.out hf,fun q hq=> ?_⟩;rw[HSM4.out q (by rw[Nat.add_mul]; omega),List.getElem?_set_ne (by omega)]
theorem DZ (ps:List aP) (ts:List ByteArray) (S:Nat->Prop) (w0:World) (B:Nat) (pv tv:Value) (hB:w0.heap.size=B) (hp:dw S w0 pv ps) (htv:aO S w0 1 tv ts.length (ts.map Value.string))
  (hn:ps.length<=65536) (hm:ts.length<=65536) (hps: ∀c∈ps,c.items.length<=65536) (hts: ∀x∈ts,x.size<=65536): ∀(d i:Nat),ps.length-i=d->i<=ps.length->xg aP.dbl dn ps ts i w0 B ((ps.length+1)*(ts.length+1)) 140 pv tv (.func (.func 115) #[] #[]) (.func (.func 116) #[] #[])
 | 0,i,hd,hi=>by
  intro ii jj j w tr h1 h2 hj hst hinv;subst h1 h2;exact oG ps ts S w0 B pv tv hB hp htv hn hm hps hts i j w tr hi hj (fun h=>by omega) hst hinv
 | d+1,i,hd,hi=>by
  intro ii jj j w tr h1 h2 hj hst hinv;subst h1 h2;exact oG ps ts S w0 B pv tv hB hp htv hn hm hps hts i j w tr hi hj (fun h=>DZ ps ts S w0 B pv tv hB hp htv hn hm hps hts d (i+1) (by omega) (by omega)) hst hinv
theorem tz (ps:List aP) (ts:List ByteArray) (S:Nat->Prop) (w:World) (pv tv:Value) (hp:dw S w pv ps) (htv:aO S w 1 tv ts.length (ts.map Value.string)) (hn:ps.length<=65536) (hm:ts.length<=65536) (hps: ∀c∈ps,c.items.length<=65536) (hts: ∀x∈ts,x.size<=65536):
  Calls Tryz.prog 114 #[pv,tv, .func (.func 115) #[] #[], .func (.func 116) #[] #[]] w fun e w'=>e= .returned (.bool (dv aP.dbl dn ps ts))/\Below w.heap.size w w':=by
 obtain⟨pa,pc,rfl,-,-,-⟩:=hp.shape fD.len;obtain⟨_,ta,tc,rfl,-⟩:=id htv;have HF:=aa (DZ ps ts S w w.heap.size _ _ rfl hp htv hn hm hps hts ps.length 0 rfl (Nat.zero_le _));clear hp htv hps hts;have hN:(ps.length+1)*(ts.length+1)<=65537*65537:=Nat.mul_le_mul (by omega) (by omega);have hX:((ps.length:Int)+1)*((ts.length:Int)+1)=(((ps.length+1)*(ts.length+1):Nat):Int):=by simp
 have hb1:0<=((ps.length:Int)+1)*((ts.length:Int)+1):=by rw[hX]; omega
 have hb2:((ps.length:Int)+1)*((ts.length:Int)+1)<=4295098369:=by rw[hX]; omega
 have hmk:=lN (P:=Tryz.prog) (t:=203) (e:=4) (z:= .bool false) ((ps.length+1)*(ts.length+1)) [.bool false] Tryz.underlying203 (bytes:=1) (sz:=1) (by kernel_rfl) rfl rfl (by omega) (by omega) (by omega);rw[<-hX]at hmk;clear hX hN
 go_enter Tryz.func114,Tryz.ntmps114
 go_wp2_with fail;refine(HF.out 0 0 0 _ (List.replicate ((ps.length+1)*(ts.length+1)) false) rfl rfl (Nat.zero_le _) (mP w _ _ _ _ _ _ _ _ _ _ _ _) ?_).mono ?_
 ·intro i' j' _ _ _ h;rw[List.getElem?_replicate]at h
  split at h<;> simp at h
 ·rintro e w1 ⟨tr',rfl,hst,-,-⟩;go_wp2_with fail;go_ret;exact⟨rfl,hst.below⟩
theorem AM {P T U:Type} (star:P->Bool) (m:P->T->Bool) (f:U->T): ∀(ps:List P) (us:List U),dv star (fun p u=>m p (f u)) ps us=dv star m ps (us.map f)
 | [],us=>by cases us<;> simp[dv]
 | p::ps,us=>by
  have ih:=AM star m f ps;unfold dv
  split
  ·induction us with
   | nil=>simp[gv,ih]
   | cons u us ih2=>simp only[gv,List.map_cons,ih,ih2]
  ·cases us with
   | nil=>simp[tR]
   | cons u us=>simp[tR,ih]
theorem AN (cs:List aP) (xs:List ByteArray):dv aP.dbl dn cs xs=gW cs (xs.map bl):=AM aP.dbl xq bl cs xs
theorem du (cs:List aP) (xs:List ByteArray) (S:Nat->Prop) (w:World) (pv tv:Value) (hp:dw S w pv cs) (htv:dm S w tv xs) (hn:cs.length<=65536) (hm:xs.length<=65536) (hps: ∀c∈cs,c.items.length<=65536) (hts: ∀x∈xs,x.size<=65536):
  Calls Tryz.prog 75 #[pv,tv] w fun e w'=>e= .returned (.bool (gW cs (xs.map bl)))/\Below w.heap.size w w':=by
 have H:=aa (tz cs xs S w pv tv hp htv hn hm hps hts);clear hp htv hps hts
 go_enter Tryz.func75,Tryz.ntmps75
 go_wp2_with fail;refine H.out.mono ?_;rintro e w1 ⟨rfl,hb⟩;go_wp2_with fail;go_ret;exact⟨au (AN cs xs),hb⟩
theorem jG {l:List UInt8} {cs:List aP} (h:iw l=some cs):cs.length<=16/\(∀c∈cs,c.items.length<=512)/\l.length<=512:=by
 unfold iw at h
 split at h
 ·simp at h
 ·rename_i h1
  split at h
  ·simp at h
  ·rename_i h2;have h3:=og h;have h5:l.length<=512:=by omega
   refine⟨by omega,lr h (fun p hp=> ?_),h5⟩;have:=gh 47 l p hp; omega
theorem ve {l:List UInt8} (h:bB l=true):l.length<=512/\(aA 47 l).length<=16:=by
 simp only[bB,Bool.and_eq_true,decide_eq_true_eq]at h; exact⟨h.1.1,h.1.2⟩
theorem wu {xs:List ByteArray} {l:List UInt8} (h:bB l=true) (hx:xs.map bl=aA 47 l):xs.length<=16/\ ∀x∈xs,x.size<=512:=by
 have h1:=ve h;refine⟨by have:(xs.map bl).length=_:=congrArg _ hx; rw[List.length_map]at this; omega,fun x hm=> ?_⟩;have:=gh 47 l (bl x) (by rw[<-hx]; exact List.mem_map.2 ⟨x,hm,rfl⟩);rw[am]; omega
theorem dw.below {S:Nat->Prop} {w w':World} {v:Value} {cs:List aP} (h:dw S w v cs) (hb:Below w.heap.size w w'):dw (fun _=>True) w' v cs:=h.move (fun k hk _=>⟨trivial,hb.block k hk⟩)
def ri (r:aU):Value:= .agg #[.string ⟨r.pat.toArray⟩, .bool r.keep, .bool r.dir, .bool r.rooted]
theorem cH (s p:ByteArray) (b:Bool) (w:World) (h:Lib.hasPrefix (bl s) (bl p)=b):
  Calls Tryz.prog 71 #[.string s, .string p] w fun e w'=>e= .returned (.bool b)/\w=w':=by rw[<-h]; exact pT s p w
theorem fH (s:ByteArray) (c:UInt8) (b:Bool) (w:World) (h:(bl s).contains c=b):
  Calls Tryz.prog 111 #[.string s, .string ⟨#[c]⟩] w fun e w'=>e= .returned (.bool b)/\w=w':=by rw[<-h]; exact lw s c w
theorem dJ (p:ByteArray) (k d r:Bool) (w:World) (he:jl w) (hp:p.size<=9223372036854775807):
  Calls Tryz.prog 74 #[.agg #[.string p, .bool k, .bool d, .bool r]] w (vo (ba ⟨bl p,k,d,r⟩) w):=by
 have HE:=aa he;clear he;have hb0:Below w.heap.size w (w.alloc (.cells #[.string p, .bool k, .bool d, .bool r] 141)):=(Below.refl _ _).alloc (Nat.le_refl _) _;have HB0:=aa hb0;clear hb0
 cases h1:Lib.hasPrefix (bl p) [33]
 ·have H1:=aa h1;clear h1
  cases h2:Lib.hasPrefix (bl p) [35]
  ·have H2:=aa h2;clear h2
   cases h3:(bl p).contains 47 && !r
   ·have HC:Hid (ba ⟨bl p,k,d,r⟩=iw (bl p)):=aa (by unfold ba; simp only[H1.out,H2.out,h3,Bool.or_self,Bool.false_eq_true,if_false]);have h3':(bl p).contains 47=true->r=true:=by intro h; rw[h]at h3; simpa using h3
    have H3:=aa h3';clear h3 h3'
    go_enter Tryz.func74,Tryz.ntmps74
    go_wp2_with fail;refine(cH p ⟨#[33]⟩ false _ H1.out).mono ?_;rintro e w' ⟨rfl,rfl⟩;go_wp2_with fail;refine(cH p ⟨#[35]⟩ false _ H2.out).mono ?_;rintro e w' ⟨rfl,rfl⟩;go_wp2_with fail
    cases h4:(bl p).contains 47
    ·have H4:=aa h4;clear h4;refine(fH p 47 false _ H4.out).mono ?_;rintro e w' ⟨rfl,rfl⟩;go_wp2_with fail
     cases hpat:iw (bl p)with
     | none=>
      have HP:=aa hpat
      clear hpat
      refine(dR p _ (HE.out.below HB0.out) hp).mono ?_;rw[HP.out];rintro e w1 ⟨rfl,hb1⟩;have HB1:=aa hb1;clear hb1;go_wp2_with fail
      go_ret2
      rw[HC.out,HP.out];exact⟨rfl,ag HB0.out HB1.out⟩
     | some cs=>
      have HP:=aa hpat
      clear hpat
      refine(dR p _ (HE.out.below HB0.out) hp).mono ?_;rw[HP.out];rintro e w1 ⟨v,rfl,hv1,hb1⟩;have HV1:=aa hv1;have HB1:=aa hb1;clear hb1 hv1;go_wp2_with fail
      go_ret2
      rw[HC.out,HP.out];exact⟨v,rfl,HV1.out.move (fun k _ hk=>⟨by simp at hk; omega,rfl⟩),ag HB0.out HB1.out⟩
    ·have H4:=aa h4;obtain rfl:r=true:=H3.out h4;clear h4;refine(fH p 47 true _ H4.out).mono ?_;rintro e w' ⟨rfl,rfl⟩;go_wp2_with fail
     cases hpat:iw (bl p)with
     | none=>
      have HP:=aa hpat
      clear hpat
      refine(dR p _ (HE.out.below HB0.out) hp).mono ?_;rw[HP.out];rintro e w1 ⟨rfl,hb1⟩;have HB1:=aa hb1;clear hb1;go_wp2_with fail
      go_ret2
      rw[HC.out,HP.out];exact⟨rfl,ag HB0.out HB1.out⟩
     | some cs=>
      have HP:=aa hpat
      clear hpat
      refine(dR p _ (HE.out.below HB0.out) hp).mono ?_;rw[HP.out];rintro e w1 ⟨v,rfl,hv1,hb1⟩;have HV1:=aa hv1;have HB1:=aa hb1;clear hb1 hv1;go_wp2_with fail
      go_ret2
      rw[HC.out,HP.out];exact⟨v,rfl,HV1.out.move (fun k _ hk=>⟨by simp at hk; omega,rfl⟩),ag HB0.out HB1.out⟩
   ·have HC:Hid (ba ⟨bl p,k,d,r⟩=none):=aa (by unfold ba; simp only[H1.out,H2.out,h3,Bool.or_self,Bool.false_eq_true,if_false,if_true]);rw[Bool.and_eq_true]at h3;obtain⟨h4,h5⟩:=h3;obtain rfl:r=false:=by simpa using h5
    have H4:=aa h4;clear h4 h5
    go_enter Tryz.func74,Tryz.ntmps74
    go_wp2_with fail;refine(cH p ⟨#[33]⟩ false _ H1.out).mono ?_;rintro e w' ⟨rfl,rfl⟩;go_wp2_with fail;refine(cH p ⟨#[35]⟩ false _ H2.out).mono ?_;rintro e w' ⟨rfl,rfl⟩;go_wp2_with fail;refine(fH p 47 true _ H4.out).mono ?_;rintro e w' ⟨rfl,rfl⟩;go_wp2_with fail
    go_ret2
    rw[HC.out];exact⟨rfl,HB0.out⟩
  ·have H2:=aa h2;clear h2;have HC:Hid (ba ⟨bl p,k,d,r⟩=none):=aa (by unfold ba; simp only[H1.out,H2.out,Bool.or_true,if_true])
   go_enter Tryz.func74,Tryz.ntmps74
   go_wp2_with fail;refine(cH p ⟨#[33]⟩ false _ H1.out).mono ?_;rintro e w' ⟨rfl,rfl⟩;go_wp2_with fail;refine(cH p ⟨#[35]⟩ true _ H2.out).mono ?_;rintro e w' ⟨rfl,rfl⟩;go_wp2_with fail
   go_ret2
   rw[HC.out];exact⟨rfl,HB0.out⟩
 ·have H1:=aa h1;clear h1;have HC:Hid (ba ⟨bl p,k,d,r⟩=none):=aa (by unfold ba; simp only[H1.out,Bool.true_or,if_true])
  go_enter Tryz.func74,Tryz.ntmps74
  go_wp2_with fail;refine(cH p ⟨#[33]⟩ true _ H1.out).mono ?_;rintro e w' ⟨rfl,rfl⟩;go_wp2_with fail
  go_ret2
  rw[HC.out];exact⟨rfl,HB0.out⟩
theorem lq (r:aU) (w:World) (he:jl w) (hp:r.pat.length<=9223372036854775807):Calls Tryz.prog 74 #[ri r] w (vo (ba r) w):=by
 have:=dJ ⟨r.pat.toArray⟩ r.keep r.dir r.rooted w he (by rw[am,io]; exact hp);rw[io]at this;exact this
def jL (r:aU):List Value:=[.string ⟨r.pat.toArray⟩, .bool r.keep, .bool r.dir, .bool r.rooted]
def qm (c:List Value) (r:aU):Prop:=c=jL r
theorem qm.len (c:List Value) (r:aU) (h:qm c r):c.length=4:=by rw[h]; rfl
def bL (S:Nat->Prop) (w:World) (v:Value) (rs:List aU):Prop:=aY S w 4 qm v rs
theorem bL.below {S:Nat->Prop} {w w':World} {v:Value} {rs:List aU} (h:bL S w v rs) (hb:Below w.heap.size w w'):bL S w' v rs:=aY.below h (by omega) hb (fun _ _ _ h=>h)
theorem bL.cells {S:Nat->Prop} {w:World} {v:Value} {rs:List aU} (h:bL S w v rs):
  ∃a cap,v= .slice a rs.length cap/\rs.length<=cap/\cap<=maxLen/\ ∀(k:Nat) r,rs[k]? =some r-> ∃b o,a=some ⟨b,o,none⟩/\w.cell? ⟨b,o+k*4,none⟩=some (.string ⟨r.pat.toArray⟩)/\
   w.cell? ⟨b,o+k*4+1,none⟩=some (.bool r.keep)/\w.cell? ⟨b,o+k*4+2,none⟩=some (.bool r.dir)/\w.cell? ⟨b,o+k*4+3,none⟩=some (.bool r.rooted):=by
 obtain⟨a,cap,hv,h1,h2,h3⟩:=aY.shape h qm.len;refine⟨a,cap,hv,h1,h2,fun k r hk=> ?_⟩;obtain⟨b,o,c,ha,_,hc,_,hj⟩:=h3 k r hk;rw[qm]at hc;subst hc;have j0:=hj 0 (by omega);have j1:=hj 1 (by omega);have j2:=hj 2 (by omega);have j3:=hj 3 (by omega);exact⟨b,o,ha,j0,j1,j2,j3⟩
theorem mC {S:Nat->Prop} {w:World} {a:Option Addr} {cap n:Nat} {xs:List ByteArray} (h:dm S w (.slice a xs.length cap) xs) (hn:n<=xs.length):dm S w (.slice a n cap) (xs.take n):=by
 obtain⟨_,a',cap',hv,h1,h2,h0⟩:=h
 cases hv
 have hl:(xs.take n).length=n:=by simp; omega
 refine⟨by simp,a,cap,by rw[hl],by omega,h2, ?_⟩
 rcases h0 with h0 | ⟨b,o,ha,hb,hc⟩
 ·left; omega
 ·right
  refine⟨b,o,ha,hb,fun j u hj=>hc j u ?_⟩;rw[List.map_take]at hj;rw[List.getElem?_take]at hj
  split at hj
  ·exact hj
  ·simp at hj
theorem mB {S:Nat->Prop} {w:World} {b o cap n:Nat} {xs:List ByteArray} (h:dm S w (.slice (some ⟨b,o,none⟩) xs.length cap) xs) (hn:n<xs.length) (m:Nat) (hm:n+m<=xs.length):
  dm S w (.slice (some ⟨b,o+n,none⟩) m (cap-n)) ((xs.take (n+m)).drop n):=by
 obtain⟨_,a',cap',hv,h1,h2,h0⟩:=h
 cases hv
 have hl:((xs.take (n+m)).drop n).length=m:=by simp; omega
 refine⟨by simp,_,_,by rw[hl],by omega,by omega, ?_⟩
 rcases h0 with h0 | ⟨b',o',ha,hb,hc⟩
 ·omega
 ·cases ha
  right
  refine⟨b,o+n,rfl,hb,fun j u hj=> ?_⟩;have:=hc (n+j) u (by
   rw[List.map_drop,List.map_take,List.getElem?_drop,List.getElem?_take]at hj
   split at hj
   ·exact hj
   ·simp at hj)
  rw[Nat.add_assoc]; exact this
theorem kZ {S:Nat->Prop} {w:World} {a:Option Addr} {cap:Nat} {xs:List ByteArray} (h:dm S w (.slice a xs.length cap) xs) (hn:0<xs.length): ∃b o,a=some ⟨b,o,none⟩:=by
 obtain⟨_,a',cap',hv,h1,h2,h0⟩:=h
 cases hv
 rcases h0 with h0 | ⟨b',o',ha,hb,hc⟩
 ·omega
 ·exact⟨b',o',ha⟩
def rM (S:Nat->Prop) (w:World) (c:List Value) (cs:List aP):Prop:= ∃v,c=[v]/\dw S w v cs
theorem rM.len {S:Nat->Prop} {w:World} (c:List Value) (cs:List aP) (h:rM S w c cs):c.length=1:=by obtain⟨v,rfl,_⟩:=h; rfl
theorem rM.move {S T:Nat->Prop} {w w':World} {c:List Value} {cs:List aP} (h:rM S w c cs) (hs: ∀k,k<w.heap.size->S k->T k/\w'.heap[k]? =w.heap[k]?):rM T w' c cs:=by
 obtain⟨v,rfl,hr⟩:=h;exact⟨v,rfl,hr.move hs⟩
structure ex (w : World) (cb n k : Nat) (us : List (List aP)) (wr : World) : Prop where
 box: ∃done,bo (rM (cb< ·) wr) done us/\wr.heap[cb]? =some (.cells (done++kI [.slice none 0 0] (n-k)).toArray 147 (0,0))
 below:Below cb w wr
 lt:cb<wr.heap.size
 len:us.length=k
theorem ex.grown {w:World} {cb n k:Nat} {us:List (List aP)} {wr w':World} (h:ex w cb n k us wr) (hb:Below wr.heap.size wr w'):ex w cb n k us w':=by
 obtain⟨⟨done,hr,hbx⟩,hbl,hlt,hl⟩:=h;exact⟨⟨done,hr.mono fun c x _ hc=>hc.move fun k hk h2=>⟨h2,hb.block k hk⟩,by rw[hb.block cb hlt]; exact hbx⟩,hbl.trans (hb.mono (by omega)),Nat.lt_of_lt_of_le hlt hb.size,hl⟩
theorem ex.cell {w:World} {cb n k:Nat} {us:List (List aP)} {wr:World} (h:ex w cb n k us wr) (hk:k<n):wr.cell? ⟨cb,k,none⟩=some (.slice none 0 0)/\wr.frozen? ⟨cb,k,none⟩=false:=by
 obtain⟨⟨done,hr,hbx⟩,hbl,hlt,hl⟩:=h;have hdl:=hr.len rM.len;obtain⟨m,hm⟩: ∃m,n-k=m+1:=⟨n-k-1,by omega⟩;rw[hm,eD]at hbx;refine⟨?_,aj hbx⟩;rw[ac hbx,List.getElem?_toArray,List.getElem?_append_right (by omega),show k-done.length=0 by omega]; rfl
theorem ex.put {w:World} {cb n k:Nat} {us:List (List aP)} {cs:List aP} {wr:World} {v:Value} (h:ex w cb n k us wr) (hk:k<n) (hv:dw (cb< ·) wr v cs):ex w cb n (k+1) (us++[cs]) (wr.setCell ⟨cb,k,none⟩ v):=by
 obtain⟨⟨done,hr,hbx⟩,hbl,hlt,hl⟩:=h;have hdl:=hr.len rM.len;obtain⟨m,hm⟩: ∃m,n-k=m+1:=⟨n-k-1,by omega⟩;rw[hm,eD]at hbx;refine⟨⟨done++[v], ?_, ?_⟩,hbl.setCell (by simp) _,by simp[World.setCell]; exact hlt,by simp[hl]⟩
 ·refine bo.snoc (hr.mono fun c x _ hc=>hc.move fun j hj h2=>⟨h2,Below.heap_setCell _ _ _ _ (by simp; omega)⟩) ?_;exact⟨_,rfl,hv.move fun j hj h2=>⟨h2,Below.heap_setCell _ _ _ _ (by simp; omega)⟩⟩
 ·simp only[World.setCell,Array.getElem?_modify,if_true,hbx,Option.map_some];rw[show n-(k+1)=m by omega];simp only[List.setIfInBounds_toArray,Option.some.injEq,Obj.cells.injEq,and_true];rw[show k=done.length by omega];simp
theorem ex.get {w:World} {cb n k:Nat} {us:List (List aP)} {wr:World} (h:ex w cb n k us wr) {i:Nat} {cs:List aP} (hi:us[i]? =some cs): ∃v,wr.cell? ⟨cb,i,none⟩=some v/\dw (cb< ·) wr v cs:=by
 obtain⟨⟨done,hr,hbx⟩,hbl,hlt,hl⟩:=h;obtain⟨c,⟨v,rfl,hv⟩,hj⟩:=hr.get rM.len hi;have h0:=hj 0 (by omega);simp only[Nat.mul_one,Nat.add_zero,List.getElem?_cons_zero]at h0;refine⟨v, ?_,hv⟩;rw[ac hbx,List.getElem?_toArray,List.getElem?_append_left (List.getElem?_eq_some_iff.1 h0).1];exact h0
theorem iW : ∀(rs:List aU) (r:aU),aW (rs++[r])=match aW rs with | none=>none | some us=>match ba r with | none=>none | some cs=>some (us++[(r,cs)])
 | [],r=>by simp only[List.nil_append,aW]; cases ba r<;> simp
 | q::rs,r=>by
  simp only[List.cons_append,aW];rw[iW rs r]
  cases ba q<;> simp
  cases aW rs<;> simp
  cases ba r<;> simp
theorem ns (rs qs:List aU) (h:aW rs=none):aW (rs++qs)=none:=by
 induction rs with
 | nil=>simp[aW]at h
 | cons r rs ih=>
  simp only[List.cons_append,aW]at h ⊢
  cases hp:ba r with
  | none=>rfl
  | some c=>
   rw[hp]at h;simp only at h
   cases hps:aW rs with
   | none=>simp[ih hps]
   | some cs=>rw[hps]at h; simp at h
theorem eK : ∀ {rs:List aU} {us:List (aU×List aP)},aW rs=some us-> ∀u∈us,ba u.1=some u.2
 | [],us,h=>by simp[aW]at h; subst h; simp
 | r::rs,us,h=>by
  unfold aW at h
  split at h
  ·simp at h
  ·rename_i cs e
   split at h
   ·simp at h
   ·rename_i u2 e2;simp at h; subst h;intro u hu
    rcases List.mem_cons.1 hu with rfl | hu
    ·exact e
    ·exact eK e2 u hu
theorem eJ : ∀ {rs:List aU} {us:List (aU×List aP)},aW rs=some us->us.map Prod.fst=rs
 | [],us,h=>by simp[aW]at h; subst h; rfl
 | r::rs,us,h=>by
  unfold aW at h
  split at h
  ·simp at h
  ·split at h
   ·simp at h
   ·rename_i u2 e2;simp at h; subst h;simp[eJ e2]
theorem iG {r:aU} {cs:List aP} (h:ba r=some cs):iw r.pat=some cs:=by
 unfold ba at h
 split at h
 ·simp at h
 ·split at h
  ·simp at h
  ·exact h
def Fc (o:Bool×Int):Value:= .tuple #[.bool o.1, .int .i64 o.2]
theorem oI {dir:Bool} {parts:List (List UInt8)} {n k:Nat} {us:List (aU×List aP)} {u:aU×List aP} (b:Bool) (h:us[k]? =some u):
  eX dir parts n (us.drop k) b=eX dir parts n (us.drop (k+1)) (if eP dir u.1 u.2 parts n then !u.1.keep else b):=by
 obtain⟨hk,rfl⟩:=List.getElem?_eq_some_iff.1 h;rw[List.drop_eq_getElem_cons hk,eX]
def Ah (dir:Bool) (parts:List (List UInt8)) (us:List (aU×List aP)) (m:Nat) (ig:Bool):Prop:=
 (ig=false->cB dir parts us parts.length 1=cB dir parts us (parts.length-m) (m+1))/\(ig=true->cB dir parts us parts.length 1=true)
theorem Ea {dir:Bool} {xs:List ByteArray} {us:List (aU×List aP)} {m:Nat} (h:Ah dir (xs.map bl) us m true):cB dir (xs.map bl) us xs.length 1=true:=by
 have:=h.2 rfl;rw[List.length_map]at this; exact this
theorem jM (dir:Bool) (r:aU) (cs:List aP) (parts:List (List UInt8)) (n:Nat) (d:Bool) (hd:(dir || decide (n<parts.length))=d):eP dir r cs parts n=((d || !r.dir) && gW cs (if r.rooted then parts.take n else(parts.take n).drop (n-1))):=by
 unfold eP; rw[hd]
def iU (dir:Bool) (parts:List (List UInt8)) (us:List (aU×List aP)) (m k:Nat) (b:Bool):Prop:=
 eX dir parts (m+1) us false=eX dir parts (m+1) (us.drop k) b
theorem iu {dir:Bool} {parts:List (List UInt8)} {us:List (aU×List aP)} {m k:Nat} {b:Bool} {r:aU} {cs:List aP} (h:iU dir parts us m k b) (hu:us[k]? =some (r,cs)) (hh:eP dir r cs parts (m+1)=false):iU dir parts us m (k+1) b:=by
 unfold iU at *;rw[h,oI b hu,hh]; rfl
theorem kf {dir:Bool} {parts:List (List UInt8)} {us:List (aU×List aP)} {m k:Nat} {b:Bool} {r:aU} {cs:List aP} (h:iU dir parts us m k b) (hu:us[k]? =some (r,cs)) (hh:eP dir r cs parts (m+1)=true):iU dir parts us m (k+1) (!r.keep):=by
 unfold iU at *;rw[h,oI b hu,hh]; rfl
theorem tU (rs:List aU) (S:Nat->Prop) (v:Value) (s:ByteArray) (dir:Bool) (w:World) (he:jl w) (hv:bL S w v rs) (hp: ∀r∈rs,r.pat.length<=9223372036854775807):
  Calls Tryz.prog 40 #[v, .string s, .bool dir] w fun e w'=>e= .returned (Fc (dq rs (bl s) dir))/\Below w.heap.size w w':=by
 have HE:=aa he;have HV:=aa hv;have HP:=aa hp;obtain⟨a,cap,rfl,hc,hcm,-⟩:=hv.cells;clear he hv hp;unfold maxLen at hcm
 go_enter Tryz.func40,Tryz.ntmps40
 go_wp2_with fail;refine(nk s w HE.out).mono ?_;rintro e w1 (⟨hval,tv,xs,rfl,hxs,htv,hb1⟩ | ⟨hval,rfl,hb1⟩)
 ·obtain⟨hx1,hx2⟩:=wu hval hxs;obtain⟨ta,tc,rfl,htc1,htc2,-⟩:=htv.shape;have HB1:=aa hb1;have HTV:=aa htv;have HXS:=aa hxs;have HVAL:=aa hval;have HX2:=aa hx2;clear hb1 htv hxs hval hx2;unfold maxLen at htc2
  by_cases h256:rs.length<=256
  ·have hmk:=lN (P:=Tryz.prog) (t:=146) (e:=147) (z:= .slice none 0 0) rs.length [.slice none 0 0] Tryz.underlying146 (bytes:=24) (sz:=1) (by kernel_rfl) rfl rfl (by omega) (by omega) (by omega);go_wp2_with fail;clear hmk
   go_loopw [37] (fun i wr=> ∃(k:Nat) (us:List (aU×List aP)),k<=rs.length/\i= .int .i64 k/\ex w1 w1.heap.size rs.length k (us.map Prod.snd) wr/\aW (rs.take k)=some us) (fun i _=>rs.length-(intOf i).toNat)
   case atStart=>
    refine⟨0,[],Nat.zero_le _,rfl,⟨⟨[],rfl, ?_⟩,(Below.refl _ _).alloc (Nat.le_refl _) _,by simp,rfl⟩,by simp[aW]⟩;have:=heap_alloc_new w1 (.cells (made [.slice none 0 0] rs.length) 147)
    simpa [made]using this
   case round=>
    obtain⟨k,us,hk,rfl,hI,hcomp⟩:=hrel;have HI:=aa hI;have HC:=aa hcomp;clear hI hcomp;have hBW:Below w1.heap.size w1 wr:=HI.out.below;have HBW:=aa hBW;clear hBW
    by_cases hlt:k<rs.length
    ·obtain⟨r,hr⟩: ∃r,rs[k]? =some r:=⟨rs[k],by simp[hlt]⟩;obtain⟨_,_,hv',_,_,hcells⟩:=(bL.below HV.out (ag HB1.out HBW.out)).cells
     cases hv'
     obtain⟨b,o,rfl,c0,c1,c2,c3⟩:=hcells k r hr;have hrp:=HP.out r (List.mem_of_getElem? hr);have HR:=aa hr;clear hr hcells;have hwb:Below wr.heap.size wr (wr.alloc (.cells #[.string ⟨r.pat.toArray⟩, .bool r.keep, .bool r.dir, .bool r.rooted] 141)):=(Below.refl _ _).alloc (Nat.le_refl _) _;have HWB:=aa hwb;clear hwb;have hsn:aW (rs.take (k+1))=match ba r with | none=>none | some cs=>some (us++[(r,cs)]):=by
      have e1:rs.take (k+1)=rs.take k++[r]:=by rw[List.take_add_one]; simp[HR.out]
      rw[e1,iW,HC.out]; try rfl
     have HSN:=aa hsn;clear hsn;go_wp2_with fail;have hE2:jl (wr.alloc (.cells #[.string ⟨r.pat.toArray⟩, .bool r.keep, .bool r.dir, .bool r.rooted] 141)):=HE.out.below (ag (ag HB1.out HBW.out) HWB.out)
     cases hcs:ba r with
     | none=>
      have HCS:=aa hcs;clear hcs;refine(lq r _ hE2 hrp).mono ?_;rw[HCS.out];rintro e w3 ⟨rfl,hb3⟩;have hb3':Below wr.heap.size wr w3:=ag HWB.out hb3;have HB3:=aa hb3';clear hb3 hb3' hE2;obtain⟨d0,d1⟩:=(HI.out.grown HB3.out).cell hlt;go_wp2_with fail
      go_ret2
      refine⟨?_,ag HB1.out ((HBW.out.trans (HB3.out.mono HBW.out.size)).setCell (by simp) _)⟩;have hnone:aW rs=none:=by
       rw[<-List.take_append_drop (k+1) rs];exact ns _ _ (by rw[HSN.out,HCS.out])
      rw[dq,if_neg (by rw[HVAL.out]; simp; omega),hnone]; rfl
     | some cs=>
      have HCS:=aa hcs;clear hcs;refine(lq r _ hE2 hrp).mono ?_;rw[HCS.out];rintro e w3 ⟨pv,rfl,hv3,hb3⟩;have hb3':Below wr.heap.size wr w3:=ag HWB.out hb3;have HB3:=aa hb3';have HI3:=aa (HI.out.grown hb3');have hcblt:=HI.out.lt;have HV3:=aa (dw.move (T:=(w1.heap.size< ·)) (w':=w3) hv3 (fun j hj h2=>⟨by simp at h2; omega,rfl⟩));obtain⟨av,cv,rfl,hnv,hmv,-⟩:=hv3.shape fD.len
      clear hb3 hb3' hE2 hv3;obtain⟨d0,d1⟩:=HI3.out.cell hlt;go_wp2_with fail
      go_roundw
      case rel=>
       refine⟨k+1,us++[(r,cs)],by omega,by go_num, ?_,by rw[HSN.out,HCS.out]⟩;have:=HI3.out.put hlt HV3.out
       simpa using this
      case measure=>simp[intOf]; omega
    ·obtain rfl:k=rs.length:=by omega
     have hcomp:aW rs=some us:=by rw[<-HC.out,List.take_length]
     have HCA:=aa hcomp;clear hcomp;have hul:us.length=rs.length:=by have:=HI.out.len; rw[List.length_map]at this; exact this
     have hparts:0<xs.length:=by
      have:=kY 47 (bl s); rw[<-HXS.out,List.length_map]at this; omega
     have hfin:dq rs (bl s) dir=(cB dir (xs.map bl) us xs.length 1,0):=by
      rw[dq,if_neg (by rw[HVAL.out]; simp; omega),HCA.out,<-HXS.out,List.length_map]
     have HFIN:=aa hfin;clear hfin;have HUL:=aa hul;clear hul;go_wp2_with fail
     go_loopw [14,15] (fun g n wr2=> ∃(m:Nat) (ig:Bool),m<=xs.length/\g= .bool ig/\n= .int .i64 ((m:Int)+1)/\ex w1 w1.heap.size rs.length rs.length (us.map Prod.snd) wr2/\
       Ah dir (xs.map bl) us m ig) (fun _ n _=>xs.length+1-(intOf n).toNat)
     case atStart=>exact⟨0,false,Nat.zero_le _,rfl,rfl,HI.out,fun _=>rfl,fun h=>by cases h⟩
     case round=>
      clear HI HBW;obtain⟨m,ig,hm,rfl,rfl,hI2,hf⟩:=hrel;have HI:=aa hI2;have HF:=aa hf;clear hI2 hf
      cases ig
      ·by_cases hlt:m<xs.length
       ·have e1:decide ((m:Int)+1<=(xs.length:Int))=true:=by simp; omega
        have hstep:cB dir (xs.map bl) us (xs.length-m) (m+1)=if eX dir (xs.map bl) (m+1) us false then true else cB dir (xs.map bl) us (xs.length-(m+1)) (m+1+1):=by
         rw[show xs.length-m=(xs.length-(m+1))+1 by omega,cB]
        have HSTEP:=aa hstep;clear hstep
        cases dir
        ·by_cases hml:m+1<xs.length
         ·have hml2:decide ((m:Int)+1<(xs.length:Int))=true:=by simp; omega
          have HD:=aa (show(false || decide (m+1<(xs.map bl).length))=true by simp[hml]);go_wp2_with fail
          go_loopw [14,72] (fun g i wr3=> ∃(k:Nat) (b:Bool),k<=rs.length/\g= .bool b/\i= .int .i64 k/\ex w1 w1.heap.size rs.length rs.length (us.map Prod.snd) wr3/\iU false (xs.map bl) us m k b) (fun _ i _=>rs.length-(intOf i).toNat)
          case atStart=>exact⟨0,false,Nat.zero_le _,rfl,rfl,HI.out,rfl⟩
          case round=>
           clear HI;obtain⟨k,b,hk,rfl,rfl,hI2,hin⟩:=hrel;have HI:=aa hI2;have HIN:=aa hin;clear hI2 hin
           by_cases hkl:k<rs.length
           ·obtain⟨r,hr⟩: ∃r,rs[k]? =some r:=⟨rs[k],by simp[hkl]⟩;obtain⟨cs,hu⟩: ∃cs,us[k]? =some (r,cs):=by
             have h1:=eJ HCA.out;have hk2:k<us.length:=by rw[HUL.out]; exact hkl
             have h2:(us.map Prod.fst)[k]? =some r:=by rw[h1]; exact hr
             rw[List.getElem?_map,List.getElem?_eq_getElem hk2]at h2;refine⟨us[k].2, ?_⟩;rw[List.getElem?_eq_getElem hk2];simp only[Option.map_some,Option.some.injEq]at h2;rw[<-h2]
            obtain⟨hc1,hc2,-⟩:=jG (iG (eK HCA.out _ (List.mem_of_getElem? hu)));obtain⟨pv,hpc,hpv⟩:=HI.out.get (i:=k) (cs:=cs) (by rw[List.getElem?_map,hu]; rfl);obtain⟨pa,pcap,rfl,-,-,-⟩:=hpv.shape fD.len;have hbig:Below w.heap.size w wr:=ag HB1.out HI.out.below;obtain⟨_,_,hv',_,_,hcells⟩:=(bL.below HV.out hbig).cells
            cases hv'
            obtain⟨b0,o0,rfl,c0,c1,c2,c3⟩:=hcells k r hr;have hst:dm (fun _=>True) wr (.slice ta xs.length tc) xs:=aO.weak (aO.below HTV.out (by omega) HI.out.below) (fun _ _=>trivial);obtain⟨tb,tof,rfl⟩:=kZ hst hparts;have HST:=aa hst;have HU:=aa hu;have HC2:=aa hc2;have HPV:=aa hpv;have HH:=aa (jM false r cs (xs.map bl) (m+1) true HD.out)
            obtain⟨rp,rk,rd,rr⟩:=r;simp only at c0 c1 c2 c3;clear hr hu hc2 hcells hbig hpv hst;have hwb:Below wr.heap.size wr (wr.alloc (.cells #[.string ⟨rp.toArray⟩, .bool rk, .bool rd, .bool rr] 141)):=(Below.refl _ _).alloc (Nat.le_refl _) _;have HWB:=aa hwb;have hpc2:=hwb.cell (ay hpc);rw[hpc]at hpc2;have HST2:=aa (show dm (fun _=>True) (wr.alloc (.cells #[.string ⟨rp.toArray⟩, .bool rk, .bool rd, .bool rr] 141)) _ xs from aO.below HST.out (by omega) hwb)
            clear hwb;have k4: ∀w4:World,Below (wr.alloc (.cells #[.string ⟨rp.toArray⟩, .bool rk, .bool rd, .bool rr] 141)).heap.size (wr.alloc (.cells #[.string ⟨rp.toArray⟩, .bool rk, .bool rd, .bool rr] 141)) w4->w4.cell? ⟨wr.heap.size,1,none⟩=some (.bool rk):=fun w4 hb4=>(hb4.cell (p:=⟨wr.heap.size,1,none⟩) (by simp)).trans (by simp)
            have K4:=aa k4;clear k4
            cases rr
            ·cases hmb:gW cs (((xs.take (m+1)).drop m).map bl)
             all_goals (
              have HMB:=aa hmb;clear hmb
              cases rd
              all_goals (
               go_wp2_with (go_at_call 75; refine(du cs ((xs.take (m+1)).drop m) (fun _=>True) _ _ _ (HPV.out.below HWB.out) (mB HST2.out hlt 1 (by omega)) (by omega) (by simp; omega) (fun c hc=>by have:=HC2.out c hc; omega) (fun x hx=>by have:=HX2.out x (List.mem_of_mem_take (List.mem_of_mem_drop hx)); omega)).mono ?_; rintro e w4 ⟨rfl,hb4⟩; rw[HMB.out]; have c4:=K4.out _ hb4; have HB4:=aa hb4; clear hb4)
               go_roundw
               case rel=>exact⟨k+1,_,by omega,rfl,by go_num,HI.out.grown (by first | exact ag HWB.out HB4.out | exact HWB.out),by first | exact iu HIN.out HU.out (HH.out.trans (by simp[<-List.map_take,<-List.map_drop,HMB.out])) | exact kf HIN.out HU.out (HH.out.trans (by simp[<-List.map_take,<-List.map_drop,HMB.out]))⟩
               case measure=>simp[intOf]; omega))
            ·cases hmb:gW cs ((xs.take (m+1)).map bl)
             all_goals (
              have HMB:=aa hmb;clear hmb
              cases rd
              all_goals (
               go_wp2_with (go_at_call 75; refine(du cs (xs.take (m+1)) (fun _=>True) _ _ _ (HPV.out.below HWB.out) (mC HST2.out (by omega)) (by omega) (by simp; omega) (fun c hc=>by have:=HC2.out c hc; omega) (fun x hx=>by have:=HX2.out x (List.mem_of_mem_take hx); omega)).mono ?_; rintro e w4 ⟨rfl,hb4⟩; rw[HMB.out]; have c4:=K4.out _ hb4; have HB4:=aa hb4; clear hb4)
               go_roundw
               case rel=>exact⟨k+1,_,by omega,rfl,by go_num,HI.out.grown (by first | exact ag HWB.out HB4.out | exact HWB.out),by first | exact iu HIN.out HU.out (HH.out.trans (by simp[<-List.map_take,HMB.out])) | exact kf HIN.out HU.out (HH.out.trans (by simp[<-List.map_take,HMB.out]))⟩
               case measure=>simp[intOf]; omega))
           ·obtain rfl:k=rs.length:=by omega
            have hat:eX false (xs.map bl) (m+1) us false=b:=by
             have:=HIN.out;unfold iU at this;rw[this,<-HUL.out,List.drop_length]; rfl
            have HAT:=aa hat
            clear hat
            go_wp2_with fail
            go_roundw
            case rel=>
             refine⟨m+1,b,by omega,rfl,by go_num,HI.out,fun hb=> ?_,fun hb=> ?_⟩
             ·have:=HF.out.1 rfl;rw[this,List.length_map,HSTEP.out,HAT.out,hb]; rfl
             ·have:=HF.out.1 rfl;rw[this,List.length_map,HSTEP.out,HAT.out,hb]; rfl
            case measure=>simp[intOf]; omega
         ·have hml2:decide ((m:Int)+1<(xs.length:Int))=false:=by simp; omega
          have HD:=aa (show(false || decide (m+1<(xs.map bl).length))=false by simp[hml]);go_wp2_with fail
          go_loopw [14,72] (fun g i wr3=> ∃(k:Nat) (b:Bool),k<=rs.length/\g= .bool b/\i= .int .i64 k/\ex w1 w1.heap.size rs.length rs.length (us.map Prod.snd) wr3/\iU false (xs.map bl) us m k b) (fun _ i _=>rs.length-(intOf i).toNat)
          case atStart=>exact⟨0,false,Nat.zero_le _,rfl,rfl,HI.out,rfl⟩
          case round=>
           clear HI;obtain⟨k,b,hk,rfl,rfl,hI2,hin⟩:=hrel;have HI:=aa hI2;have HIN:=aa hin;clear hI2 hin
           by_cases hkl:k<rs.length
           ·obtain⟨r,hr⟩: ∃r,rs[k]? =some r:=⟨rs[k],by simp[hkl]⟩;obtain⟨cs,hu⟩: ∃cs,us[k]? =some (r,cs):=by
             have h1:=eJ HCA.out;have hk2:k<us.length:=by rw[HUL.out]; exact hkl
             have h2:(us.map Prod.fst)[k]? =some r:=by rw[h1]; exact hr
             rw[List.getElem?_map,List.getElem?_eq_getElem hk2]at h2;refine⟨us[k].2, ?_⟩;rw[List.getElem?_eq_getElem hk2];simp only[Option.map_some,Option.some.injEq]at h2;rw[<-h2]
            obtain⟨hc1,hc2,-⟩:=jG (iG (eK HCA.out _ (List.mem_of_getElem? hu)));obtain⟨pv,hpc,hpv⟩:=HI.out.get (i:=k) (cs:=cs) (by rw[List.getElem?_map,hu]; rfl);obtain⟨pa,pcap,rfl,-,-,-⟩:=hpv.shape fD.len;have hbig:Below w.heap.size w wr:=ag HB1.out HI.out.below;obtain⟨_,_,hv',_,_,hcells⟩:=(bL.below HV.out hbig).cells
            cases hv'
            obtain⟨b0,o0,rfl,c0,c1,c2,c3⟩:=hcells k r hr;have hst:dm (fun _=>True) wr (.slice ta xs.length tc) xs:=aO.weak (aO.below HTV.out (by omega) HI.out.below) (fun _ _=>trivial);obtain⟨tb,tof,rfl⟩:=kZ hst hparts;have HST:=aa hst;have HU:=aa hu;have HC2:=aa hc2;have HPV:=aa hpv;have HH:=aa (jM false r cs (xs.map bl) (m+1) false HD.out)
            obtain⟨rp,rk,rd,rr⟩:=r;simp only at c0 c1 c2 c3;clear hr hu hc2 hcells hbig hpv hst;have hwb:Below wr.heap.size wr (wr.alloc (.cells #[.string ⟨rp.toArray⟩, .bool rk, .bool rd, .bool rr] 141)):=(Below.refl _ _).alloc (Nat.le_refl _) _;have HWB:=aa hwb;have hpc2:=hwb.cell (ay hpc);rw[hpc]at hpc2;have HST2:=aa (show dm (fun _=>True) (wr.alloc (.cells #[.string ⟨rp.toArray⟩, .bool rk, .bool rd, .bool rr] 141)) _ xs from aO.below HST.out (by omega) hwb)
            clear hwb;have k4: ∀w4:World,Below (wr.alloc (.cells #[.string ⟨rp.toArray⟩, .bool rk, .bool rd, .bool rr] 141)).heap.size (wr.alloc (.cells #[.string ⟨rp.toArray⟩, .bool rk, .bool rd, .bool rr] 141)) w4->w4.cell? ⟨wr.heap.size,1,none⟩=some (.bool rk):=fun w4 hb4=>(hb4.cell (p:=⟨wr.heap.size,1,none⟩) (by simp)).trans (by simp)
            have K4:=aa k4;clear k4
            cases rr
            ·cases hmb:gW cs (((xs.take (m+1)).drop m).map bl)
             all_goals (
              have HMB:=aa hmb;clear hmb
              cases rd
              all_goals (
               go_wp2_with (go_at_call 75; refine(du cs ((xs.take (m+1)).drop m) (fun _=>True) _ _ _ (HPV.out.below HWB.out) (mB HST2.out hlt 1 (by omega)) (by omega) (by simp; omega) (fun c hc=>by have:=HC2.out c hc; omega) (fun x hx=>by have:=HX2.out x (List.mem_of_mem_take (List.mem_of_mem_drop hx)); omega)).mono ?_; rintro e w4 ⟨rfl,hb4⟩; rw[HMB.out]; have c4:=K4.out _ hb4; have HB4:=aa hb4; clear hb4)
               go_roundw
               case rel=>exact⟨k+1,_,by omega,rfl,by go_num,HI.out.grown (by first | exact ag HWB.out HB4.out | exact HWB.out),by first | exact iu HIN.out HU.out (HH.out.trans (by simp[<-List.map_take,<-List.map_drop,HMB.out])) | exact kf HIN.out HU.out (HH.out.trans (by simp[<-List.map_take,<-List.map_drop,HMB.out]))⟩
               case measure=>simp[intOf]; omega))
            ·cases hmb:gW cs ((xs.take (m+1)).map bl)
             all_goals (
              have HMB:=aa hmb;clear hmb
              cases rd
              all_goals (
               go_wp2_with (go_at_call 75; refine(du cs (xs.take (m+1)) (fun _=>True) _ _ _ (HPV.out.below HWB.out) (mC HST2.out (by omega)) (by omega) (by simp; omega) (fun c hc=>by have:=HC2.out c hc; omega) (fun x hx=>by have:=HX2.out x (List.mem_of_mem_take hx); omega)).mono ?_; rintro e w4 ⟨rfl,hb4⟩; rw[HMB.out]; have c4:=K4.out _ hb4; have HB4:=aa hb4; clear hb4)
               go_roundw
               case rel=>exact⟨k+1,_,by omega,rfl,by go_num,HI.out.grown (by first | exact ag HWB.out HB4.out | exact HWB.out),by first | exact iu HIN.out HU.out (HH.out.trans (by simp[<-List.map_take,HMB.out])) | exact kf HIN.out HU.out (HH.out.trans (by simp[<-List.map_take,HMB.out]))⟩
               case measure=>simp[intOf]; omega))
           ·obtain rfl:k=rs.length:=by omega
            have hat:eX false (xs.map bl) (m+1) us false=b:=by
             have:=HIN.out;unfold iU at this;rw[this,<-HUL.out,List.drop_length]; rfl
            have HAT:=aa hat
            clear hat
            go_wp2_with fail
            go_roundw
            case rel=>
             refine⟨m+1,b,by omega,rfl,by go_num,HI.out,fun hb=> ?_,fun hb=> ?_⟩
             ·have:=HF.out.1 rfl;rw[this,List.length_map,HSTEP.out,HAT.out,hb]; rfl
             ·have:=HF.out.1 rfl;rw[this,List.length_map,HSTEP.out,HAT.out,hb]; rfl
            case measure=>simp[intOf]; omega
        ·have HD:=aa (show(true || decide (m+1<(xs.map bl).length))=true by simp);go_wp2_with fail
         go_loopw [14,72] (fun g i wr3=> ∃(k:Nat) (b:Bool),k<=rs.length/\g= .bool b/\i= .int .i64 k/\ex w1 w1.heap.size rs.length rs.length (us.map Prod.snd) wr3/\iU true (xs.map bl) us m k b) (fun _ i _=>rs.length-(intOf i).toNat)
         case atStart=>exact⟨0,false,Nat.zero_le _,rfl,rfl,HI.out,rfl⟩
         case round=>
          clear HI;obtain⟨k,b,hk,rfl,rfl,hI2,hin⟩:=hrel;have HI:=aa hI2;have HIN:=aa hin;clear hI2 hin
          by_cases hkl:k<rs.length
          ·obtain⟨r,hr⟩: ∃r,rs[k]? =some r:=⟨rs[k],by simp[hkl]⟩;obtain⟨cs,hu⟩: ∃cs,us[k]? =some (r,cs):=by
            have h1:=eJ HCA.out;have hk2:k<us.length:=by rw[HUL.out]; exact hkl
            have h2:(us.map Prod.fst)[k]? =some r:=by rw[h1]; exact hr
            rw[List.getElem?_map,List.getElem?_eq_getElem hk2]at h2;refine⟨us[k].2, ?_⟩;rw[List.getElem?_eq_getElem hk2];simp only[Option.map_some,Option.some.injEq]at h2;rw[<-h2]
           obtain⟨hc1,hc2,-⟩:=jG (iG (eK HCA.out _ (List.mem_of_getElem? hu)));obtain⟨pv,hpc,hpv⟩:=HI.out.get (i:=k) (cs:=cs) (by rw[List.getElem?_map,hu]; rfl);obtain⟨pa,pcap,rfl,-,-,-⟩:=hpv.shape fD.len;have hbig:Below w.heap.size w wr:=ag HB1.out HI.out.below;obtain⟨_,_,hv',_,_,hcells⟩:=(bL.below HV.out hbig).cells
           cases hv'
           obtain⟨b0,o0,rfl,c0,c1,c2,c3⟩:=hcells k r hr;have hst:dm (fun _=>True) wr (.slice ta xs.length tc) xs:=aO.weak (aO.below HTV.out (by omega) HI.out.below) (fun _ _=>trivial);obtain⟨tb,tof,rfl⟩:=kZ hst hparts;have HST:=aa hst;have HU:=aa hu;have HC2:=aa hc2;have HPV:=aa hpv;have HH:=aa (jM true r cs (xs.map bl) (m+1) true HD.out)
           obtain⟨rp,rk,rd,rr⟩:=r;simp only at c0 c1 c2 c3;clear hr hu hc2 hcells hbig hpv hst;have hwb:Below wr.heap.size wr (wr.alloc (.cells #[.string ⟨rp.toArray⟩, .bool rk, .bool rd, .bool rr] 141)):=(Below.refl _ _).alloc (Nat.le_refl _) _;have HWB:=aa hwb;have hpc2:=hwb.cell (ay hpc);rw[hpc]at hpc2;have HST2:=aa (show dm (fun _=>True) (wr.alloc (.cells #[.string ⟨rp.toArray⟩, .bool rk, .bool rd, .bool rr] 141)) _ xs from aO.below HST.out (by omega) hwb)
           clear hwb;have k4: ∀w4:World,Below (wr.alloc (.cells #[.string ⟨rp.toArray⟩, .bool rk, .bool rd, .bool rr] 141)).heap.size (wr.alloc (.cells #[.string ⟨rp.toArray⟩, .bool rk, .bool rd, .bool rr] 141)) w4->w4.cell? ⟨wr.heap.size,1,none⟩=some (.bool rk):=fun w4 hb4=>(hb4.cell (p:=⟨wr.heap.size,1,none⟩) (by simp)).trans (by simp)
           have K4:=aa k4;clear k4
           cases rr
           ·cases hmb:gW cs (((xs.take (m+1)).drop m).map bl)
            all_goals (
             have HMB:=aa hmb;clear hmb
             cases rd
             all_goals (
              go_wp2_with (go_at_call 75; refine(du cs ((xs.take (m+1)).drop m) (fun _=>True) _ _ _ (HPV.out.below HWB.out) (mB HST2.out hlt 1 (by omega)) (by omega) (by simp; omega) (fun c hc=>by have:=HC2.out c hc; omega) (fun x hx=>by have:=HX2.out x (List.mem_of_mem_take (List.mem_of_mem_drop hx)); omega)).mono ?_; rintro e w4 ⟨rfl,hb4⟩; rw[HMB.out]; have c4:=K4.out _ hb4; have HB4:=aa hb4; clear hb4)
              go_roundw
              case rel=>exact⟨k+1,_,by omega,rfl,by go_num,HI.out.grown (by first | exact ag HWB.out HB4.out | exact HWB.out),by first | exact iu HIN.out HU.out (HH.out.trans (by simp[<-List.map_take,<-List.map_drop,HMB.out])) | exact kf HIN.out HU.out (HH.out.trans (by simp[<-List.map_take,<-List.map_drop,HMB.out]))⟩
              case measure=>simp[intOf]; omega))
           ·cases hmb:gW cs ((xs.take (m+1)).map bl)
            all_goals (
             have HMB:=aa hmb;clear hmb
             cases rd
             all_goals (
              go_wp2_with (go_at_call 75; refine(du cs (xs.take (m+1)) (fun _=>True) _ _ _ (HPV.out.below HWB.out) (mC HST2.out (by omega)) (by omega) (by simp; omega) (fun c hc=>by have:=HC2.out c hc; omega) (fun x hx=>by have:=HX2.out x (List.mem_of_mem_take hx); omega)).mono ?_; rintro e w4 ⟨rfl,hb4⟩; rw[HMB.out]; have c4:=K4.out _ hb4; have HB4:=aa hb4; clear hb4)
              go_roundw
              case rel=>exact⟨k+1,_,by omega,rfl,by go_num,HI.out.grown (by first | exact ag HWB.out HB4.out | exact HWB.out),by first | exact iu HIN.out HU.out (HH.out.trans (by simp[<-List.map_take,HMB.out])) | exact kf HIN.out HU.out (HH.out.trans (by simp[<-List.map_take,HMB.out]))⟩
              case measure=>simp[intOf]; omega))
          ·obtain rfl:k=rs.length:=by omega
           have hat:eX true (xs.map bl) (m+1) us false=b:=by
            have:=HIN.out;unfold iU at this;rw[this,<-HUL.out,List.drop_length]; rfl
           have HAT:=aa hat
           clear hat
           go_wp2_with fail
           go_roundw
           case rel=>
            refine⟨m+1,b,by omega,rfl,by go_num,HI.out,fun hb=> ?_,fun hb=> ?_⟩
            ·have:=HF.out.1 rfl;rw[this,List.length_map,HSTEP.out,HAT.out,hb]; rfl
            ·have:=HF.out.1 rfl;rw[this,List.length_map,HSTEP.out,HAT.out,hb]; rfl
           case measure=>simp[intOf]; omega
       ·have e1:decide ((m:Int)+1<=(xs.length:Int))=false:=by simp; omega
        go_wp2_with fail
        go_ret2
        refine⟨?_,ag HB1.out HI.out.below⟩;have:=HF.out.1 rfl;rw[List.length_map,show xs.length-m=0 by omega]at this;rw[HFIN.out,this]; rfl
      ·by_cases hlt:m<xs.length
       ·have e1:decide ((m:Int)+1<=(xs.length:Int))=true:=by simp; omega
        go_wp2_with fail
        go_ret2
        exact⟨by rw[HFIN.out,Ea HF.out]; rfl,ag HB1.out HI.out.below⟩
       ·have e1:decide ((m:Int)+1<=(xs.length:Int))=false:=by simp; omega
        go_wp2_with fail
        go_ret2
        exact⟨by rw[HFIN.out,Ea HF.out]; rfl,ag HB1.out HI.out.below⟩
  ·have h256':256<rs.length:=by omega
   go_wp2_with fail
   go_ret2
   exact⟨by rw[dq,if_pos (.inr h256')]; rfl,HB1.out⟩
 ·have HB1:=aa hb1;have HVAL:=aa hval;clear hb1 hval;go_wp2_with fail
  go_ret2
  exact⟨by rw[dq,if_pos (.inl HVAL.out)]; rfl,HB1.out⟩
def vi :Value:= .agg #[.string ⟨#[]⟩, .bool false, .bool false, .bool false]
def fj (o:Option aU):Value:=match o with
 | some r=> .tuple #[ri r, .bool true]
 | none=> .tuple #[vi, .bool false]
def EY (s p:ByteArray) (w:World) (e:Ending) (w':World):Prop:= ∃s1 b,e= .returned (.tuple #[.string s1, .bool b])/\bl s1=Lib.trimPrefix (bl s) (bl p)/\b=Lib.hasPrefix (bl s) (bl p)/\w=w'
def EZ (s p:ByteArray) (w:World) (e:Ending) (w':World):Prop:= ∃s1 b,e= .returned (.tuple #[.string s1, .bool b])/\bl s1=Lib.trimSuffix (bl s) (bl p)/\b=Lib.hasSuffix (bl s) (bl p)/\w=w'
theorem lx (s p:ByteArray) (w:World):Calls Tryz.prog 109 #[.string s, .string p] w (EY s p w):=
 (pQ s p w).mono fun _ _ ⟨he,hw⟩=>⟨_,_,he,io _,rfl,hw⟩
theorem rY (s p:ByteArray) (w:World) (hs:s.size<=9223372036854775807):Calls Tryz.prog 110 #[.string s, .string p] w (EZ s p w):=
 (pR s p w hs).mono fun _ _ ⟨he,hw⟩=>⟨_,_,he,io _,rfl,hw⟩
theorem jS (l p:List UInt8):(Lib.trimPrefix l p).length<=l.length:=by
 unfold Lib.trimPrefix; split<;> simp
theorem pF (l p:List UInt8):(Lib.trimSuffix l p).length<=l.length:=by
 unfold Lib.trimSuffix; split<;> simp<;> omega
theorem kE (s:ByteArray) (w:World) (he:jl w) (hs:s.size<=65536):
  Calls Tryz.prog 72 #[.string s] w fun e w'=>e= .returned (fj (cu (bl s)))/\Below w.heap.size w w':=by
 have HE:=aa he;clear he
 go_enter Tryz.func72,Tryz.ntmps72
 go_wp2_with fail;refine(lx s ⟨#[33]⟩ _).mono ?_;rintro e w' ⟨s1,b1,rfl,h1,h1',rfl⟩;have H1:=aa h1;have H1':=aa h1';have hl1:s1.size<=65536:=by have:=jS (bl s) (bl ⟨#[33]⟩); rw[<-h1,<-am,<-am]at this; omega
 clear h1 h1';go_wp2_with fail;refine(lx s1 ⟨#[47]⟩ _).mono ?_;rintro e w' ⟨s2,b2,rfl,h2,h2',rfl⟩;have H2:=aa h2;have H2':=aa h2';have hl2:s2.size<=65536:=by have:=jS (bl s1) (bl ⟨#[47]⟩); rw[<-h2,<-am,<-am]at this; omega
 clear h2 h2';go_wp2_with fail;refine(rY s2 ⟨#[47]⟩ _ (by omega)).mono ?_;rintro e w' ⟨s3,b3,rfl,h3,h3',rfl⟩;have H3:=aa h3;have H3':=aa h3';have hl3:s3.size<=65536:=by have:=pF (bl s2) (bl ⟨#[47]⟩); rw[<-h3,<-am,<-am]at this; omega
 clear h3 h3';have hru:rh (bl s)=⟨bl s3,b1,b3,b2 || (bl s3).contains 47⟩:=by
  rw[H3.out,H1'.out,H3'.out,H2'.out,H2.out,H1.out]; rfl
 cases b2
 ·rw[Bool.false_or]at hru
  cases hct:(bl s3).contains 47
  ·have HCT:=aa hct;rw[hct]at hru;have HRU:=aa hru;clear hct hru;go_wp2_with fail;refine(fH s3 47 false _ HCT.out).mono ?_;rintro e w' ⟨rfl,rfl⟩;go_wp2_with fail;have hcp:ba (rh (bl s))=ba ⟨bl s3,b1,b3,false⟩:=by rw[HRU.out]
   have HCP:=aa hcp;clear hcp;have hb0:Below w.heap.size w ((w.alloc (.cells #[.string ⟨#[]⟩, .bool false, .bool false, .bool false] 141)).alloc (.cells #[.string s3, .bool b1, .bool b3, .bool false] 141)):=((Below.refl _ _).alloc (Nat.le_refl _) _).alloc (by simp) _;have HB0:=aa hb0;clear hb0
   cases hcs:ba ⟨bl s3,b1,b3,false⟩with
   | none=>
    have HCS:=aa hcs;clear hcs;refine(dJ s3 b1 b3 false _ (HE.out.below HB0.out) (by omega)).mono ?_;rw[HCS.out];rintro e w3 ⟨rfl,hb3⟩;have hres:w3.heap[w.heap.size]? =some (.cells #[.string ⟨#[]⟩, .bool false, .bool false, .bool false] 141 (0,0)):=by
     rw[hb3.block _ (by simp; omega),Below.heap_alloc _ _ _ (by simp)]; exact heap_alloc_new w _
    have hb3':=ag HB0.out hb3;have HB3:=aa hb3';clear hb3 hb3';have r0:w3.cell? ⟨w.heap.size,0,none⟩=some (.string ⟨#[]⟩):=by rw[ac hres]; rfl
    have r1:w3.cell? ⟨w.heap.size,1,none⟩=some (.bool false):=by rw[ac hres]; rfl
    have r2:w3.cell? ⟨w.heap.size,2,none⟩=some (.bool false):=by rw[ac hres]; rfl
    have r3:w3.cell? ⟨w.heap.size,3,none⟩=some (.bool false):=by rw[ac hres]; rfl
    have f0:w3.frozen? ⟨w.heap.size,0,none⟩=false:=aj hres;have f1:w3.frozen? ⟨w.heap.size,1,none⟩=false:=aj hres;have f2:w3.frozen? ⟨w.heap.size,2,none⟩=false:=aj hres;have f3:w3.frozen? ⟨w.heap.size,3,none⟩=false:=aj hres;have HR:=aa hres;clear hres;go_wp2_with fail;obtain⟨W,hW⟩: ∃W,W=((((w3.setCell ⟨w.heap.size,0,none⟩ (.string ⟨#[]⟩)).setCell ⟨w.heap.size,1,none⟩ (.bool false)).setCell ⟨w.heap.size,2,none⟩ (.bool false)).setCell ⟨w.heap.size,3,none⟩ (.bool false)):=⟨_,rfl⟩
    rw[<-hW];have h4:=jP HR.out (.string ⟨#[]⟩) (.bool false) (.bool false) (.bool false);rw[<-hW]at h4;obtain⟨h41,h42⟩:=h4;have m0:W.cell? ⟨w.heap.size,0,none⟩=some (.string ⟨#[]⟩):=by rw[ac h41]; rfl
    have m1:W.cell? ⟨w.heap.size,1,none⟩=some (.bool false):=by rw[ac h41]; rfl
    have m2:W.cell? ⟨w.heap.size,2,none⟩=some (.bool false):=by rw[ac h41]; rfl
    have m3:W.cell? ⟨w.heap.size,3,none⟩=some (.bool false):=by rw[ac h41]; rfl
    clear hW;refine bodyPost_ret (v:= .tuple #[.agg #[.string ⟨#[]⟩, .bool false, .bool false, .bool false], .bool false]) (by simp[results,Tryz.results72,go_sem,m0,m1,m2,m3]) rfl ?_;refine⟨?_,HB3.out.grown h42 HB3.out.size (fun k hk=>by cases hk; exact Nat.le_refl _)⟩;rw[cu,HCP.out,HCS.out]; rfl
   | some cs=>
    have HCS:=aa hcs;clear hcs;refine(dJ s3 b1 b3 false _ (HE.out.below HB0.out) (by omega)).mono ?_;rw[HCS.out];rintro e w3 ⟨pv,rfl,hpv,hb3⟩;clear hpv;have hres:w3.heap[w.heap.size]? =some (.cells #[.string ⟨#[]⟩, .bool false, .bool false, .bool false] 141 (0,0)):=by
     rw[hb3.block _ (by simp; omega),Below.heap_alloc _ _ _ (by simp)]; exact heap_alloc_new w _
    have hbox:w3.heap[w.heap.size+1]? =some (.cells #[.string s3, .bool b1, .bool b3, .bool false] 141 (0,0)):=by
     rw[hb3.block _ (by simp)];have:=heap_alloc_new (w.alloc (.cells #[.string ⟨#[]⟩, .bool false, .bool false, .bool false] 141)) (.cells #[.string s3, .bool b1, .bool b3, .bool false] 141)
     simpa using this
    have n0:w3.cell? ⟨w.heap.size+1,0,none⟩=some (.string s3):=by rw[ac hbox]; rfl
    have n1:w3.cell? ⟨w.heap.size+1,1,none⟩=some (.bool b1):=by rw[ac hbox]; rfl
    have n2:w3.cell? ⟨w.heap.size+1,2,none⟩=some (.bool b3):=by rw[ac hbox]; rfl
    have n3:w3.cell? ⟨w.heap.size+1,3,none⟩=some (.bool false):=by rw[ac hbox]; rfl
    clear hbox;have hb3':=ag HB0.out hb3;have HB3:=aa hb3';clear hb3 hb3';have r0:w3.cell? ⟨w.heap.size,0,none⟩=some (.string ⟨#[]⟩):=by rw[ac hres]; rfl
    have r1:w3.cell? ⟨w.heap.size,1,none⟩=some (.bool false):=by rw[ac hres]; rfl
    have r2:w3.cell? ⟨w.heap.size,2,none⟩=some (.bool false):=by rw[ac hres]; rfl
    have r3:w3.cell? ⟨w.heap.size,3,none⟩=some (.bool false):=by rw[ac hres]; rfl
    have f0:w3.frozen? ⟨w.heap.size,0,none⟩=false:=aj hres;have f1:w3.frozen? ⟨w.heap.size,1,none⟩=false:=aj hres;have f2:w3.frozen? ⟨w.heap.size,2,none⟩=false:=aj hres;have f3:w3.frozen? ⟨w.heap.size,3,none⟩=false:=aj hres;have HR:=aa hres;clear hres;go_wp2_with fail;obtain⟨W,hW⟩: ∃W,W=((((w3.setCell ⟨w.heap.size,0,none⟩ (.string s3)).setCell ⟨w.heap.size,1,none⟩ (.bool b1)).setCell ⟨w.heap.size,2,none⟩ (.bool b3)).setCell ⟨w.heap.size,3,none⟩ (.bool false)):=⟨_,rfl⟩
    rw[<-hW];have h4:=jP HR.out (.string s3) (.bool b1) (.bool b3) (.bool false);rw[<-hW]at h4;obtain⟨h41,h42⟩:=h4;have m0:W.cell? ⟨w.heap.size,0,none⟩=some (.string s3):=by rw[ac h41]; rfl
    have m1:W.cell? ⟨w.heap.size,1,none⟩=some (.bool b1):=by rw[ac h41]; rfl
    have m2:W.cell? ⟨w.heap.size,2,none⟩=some (.bool b3):=by rw[ac h41]; rfl
    have m3:W.cell? ⟨w.heap.size,3,none⟩=some (.bool false):=by rw[ac h41]; rfl
    clear hW;refine bodyPost_ret (v:= .tuple #[.agg #[.string s3, .bool b1, .bool b3, .bool false], .bool true]) (by simp[results,Tryz.results72,go_sem,m0,m1,m2,m3]) rfl ?_;refine⟨?_,HB3.out.grown h42 HB3.out.size (fun k hk=>by cases hk; exact Nat.le_refl _)⟩;rw[cu,HCP.out,HCS.out];simp only[Option.isSome_some,if_true,HRU.out,fj,ri,oN]
  ·have HCT:=aa hct;rw[hct]at hru;have HRU:=aa hru;clear hct hru;go_wp2_with fail;refine(fH s3 47 true _ HCT.out).mono ?_;rintro e w' ⟨rfl,rfl⟩;go_wp2_with fail;have hcp:ba (rh (bl s))=ba ⟨bl s3,b1,b3,true⟩:=by rw[HRU.out]
   have HCP:=aa hcp;clear hcp;have hb0:Below w.heap.size w ((w.alloc (.cells #[.string ⟨#[]⟩, .bool false, .bool false, .bool false] 141)).alloc (.cells #[.string s3, .bool b1, .bool b3, .bool true] 141)):=((Below.refl _ _).alloc (Nat.le_refl _) _).alloc (by simp) _;have HB0:=aa hb0;clear hb0
   cases hcs:ba ⟨bl s3,b1,b3,true⟩with
   | none=>
    have HCS:=aa hcs;clear hcs;refine(dJ s3 b1 b3 true _ (HE.out.below HB0.out) (by omega)).mono ?_;rw[HCS.out];rintro e w3 ⟨rfl,hb3⟩;have hres:w3.heap[w.heap.size]? =some (.cells #[.string ⟨#[]⟩, .bool false, .bool false, .bool false] 141 (0,0)):=by
     rw[hb3.block _ (by simp; omega),Below.heap_alloc _ _ _ (by simp)]; exact heap_alloc_new w _
    have hb3':=ag HB0.out hb3;have HB3:=aa hb3';clear hb3 hb3';have r0:w3.cell? ⟨w.heap.size,0,none⟩=some (.string ⟨#[]⟩):=by rw[ac hres]; rfl
    have r1:w3.cell? ⟨w.heap.size,1,none⟩=some (.bool false):=by rw[ac hres]; rfl
    have r2:w3.cell? ⟨w.heap.size,2,none⟩=some (.bool false):=by rw[ac hres]; rfl
    have r3:w3.cell? ⟨w.heap.size,3,none⟩=some (.bool false):=by rw[ac hres]; rfl
    have f0:w3.frozen? ⟨w.heap.size,0,none⟩=false:=aj hres;have f1:w3.frozen? ⟨w.heap.size,1,none⟩=false:=aj hres;have f2:w3.frozen? ⟨w.heap.size,2,none⟩=false:=aj hres;have f3:w3.frozen? ⟨w.heap.size,3,none⟩=false:=aj hres;have HR:=aa hres;clear hres;go_wp2_with fail;obtain⟨W,hW⟩: ∃W,W=((((w3.setCell ⟨w.heap.size,0,none⟩ (.string ⟨#[]⟩)).setCell ⟨w.heap.size,1,none⟩ (.bool false)).setCell ⟨w.heap.size,2,none⟩ (.bool false)).setCell ⟨w.heap.size,3,none⟩ (.bool false)):=⟨_,rfl⟩
    rw[<-hW];have h4:=jP HR.out (.string ⟨#[]⟩) (.bool false) (.bool false) (.bool false);rw[<-hW]at h4;obtain⟨h41,h42⟩:=h4;have m0:W.cell? ⟨w.heap.size,0,none⟩=some (.string ⟨#[]⟩):=by rw[ac h41]; rfl
    have m1:W.cell? ⟨w.heap.size,1,none⟩=some (.bool false):=by rw[ac h41]; rfl
    have m2:W.cell? ⟨w.heap.size,2,none⟩=some (.bool false):=by rw[ac h41]; rfl
    have m3:W.cell? ⟨w.heap.size,3,none⟩=some (.bool false):=by rw[ac h41]; rfl
    clear hW;refine bodyPost_ret (v:= .tuple #[.agg #[.string ⟨#[]⟩, .bool false, .bool false, .bool false], .bool false]) (by simp[results,Tryz.results72,go_sem,m0,m1,m2,m3]) rfl ?_;refine⟨?_,HB3.out.grown h42 HB3.out.size (fun k hk=>by cases hk; exact Nat.le_refl _)⟩;rw[cu,HCP.out,HCS.out]; rfl
   | some cs=>
    have HCS:=aa hcs;clear hcs;refine(dJ s3 b1 b3 true _ (HE.out.below HB0.out) (by omega)).mono ?_;rw[HCS.out];rintro e w3 ⟨pv,rfl,hpv,hb3⟩;clear hpv;have hres:w3.heap[w.heap.size]? =some (.cells #[.string ⟨#[]⟩, .bool false, .bool false, .bool false] 141 (0,0)):=by
     rw[hb3.block _ (by simp; omega),Below.heap_alloc _ _ _ (by simp)]; exact heap_alloc_new w _
    have hbox:w3.heap[w.heap.size+1]? =some (.cells #[.string s3, .bool b1, .bool b3, .bool true] 141 (0,0)):=by
     rw[hb3.block _ (by simp)];have:=heap_alloc_new (w.alloc (.cells #[.string ⟨#[]⟩, .bool false, .bool false, .bool false] 141)) (.cells #[.string s3, .bool b1, .bool b3, .bool true] 141)
     simpa using this
    have n0:w3.cell? ⟨w.heap.size+1,0,none⟩=some (.string s3):=by rw[ac hbox]; rfl
    have n1:w3.cell? ⟨w.heap.size+1,1,none⟩=some (.bool b1):=by rw[ac hbox]; rfl
    have n2:w3.cell? ⟨w.heap.size+1,2,none⟩=some (.bool b3):=by rw[ac hbox]; rfl
    have n3:w3.cell? ⟨w.heap.size+1,3,none⟩=some (.bool true):=by rw[ac hbox]; rfl
    clear hbox;have hb3':=ag HB0.out hb3;have HB3:=aa hb3';clear hb3 hb3';have r0:w3.cell? ⟨w.heap.size,0,none⟩=some (.string ⟨#[]⟩):=by rw[ac hres]; rfl
    have r1:w3.cell? ⟨w.heap.size,1,none⟩=some (.bool false):=by rw[ac hres]; rfl
    have r2:w3.cell? ⟨w.heap.size,2,none⟩=some (.bool false):=by rw[ac hres]; rfl
    have r3:w3.cell? ⟨w.heap.size,3,none⟩=some (.bool false):=by rw[ac hres]; rfl
    have f0:w3.frozen? ⟨w.heap.size,0,none⟩=false:=aj hres;have f1:w3.frozen? ⟨w.heap.size,1,none⟩=false:=aj hres;have f2:w3.frozen? ⟨w.heap.size,2,none⟩=false:=aj hres;have f3:w3.frozen? ⟨w.heap.size,3,none⟩=false:=aj hres;have HR:=aa hres;clear hres;go_wp2_with fail;obtain⟨W,hW⟩: ∃W,W=((((w3.setCell ⟨w.heap.size,0,none⟩ (.string s3)).setCell ⟨w.heap.size,1,none⟩ (.bool b1)).setCell ⟨w.heap.size,2,none⟩ (.bool b3)).setCell ⟨w.heap.size,3,none⟩ (.bool true)):=⟨_,rfl⟩
    rw[<-hW];have h4:=jP HR.out (.string s3) (.bool b1) (.bool b3) (.bool true);rw[<-hW]at h4;obtain⟨h41,h42⟩:=h4;have m0:W.cell? ⟨w.heap.size,0,none⟩=some (.string s3):=by rw[ac h41]; rfl
    have m1:W.cell? ⟨w.heap.size,1,none⟩=some (.bool b1):=by rw[ac h41]; rfl
    have m2:W.cell? ⟨w.heap.size,2,none⟩=some (.bool b3):=by rw[ac h41]; rfl
    have m3:W.cell? ⟨w.heap.size,3,none⟩=some (.bool true):=by rw[ac h41]; rfl
    clear hW;refine bodyPost_ret (v:= .tuple #[.agg #[.string s3, .bool b1, .bool b3, .bool true], .bool true]) (by simp[results,Tryz.results72,go_sem,m0,m1,m2,m3]) rfl ?_;refine⟨?_,HB3.out.grown h42 HB3.out.size (fun k hk=>by cases hk; exact Nat.le_refl _)⟩;rw[cu,HCP.out,HCS.out];simp only[Option.isSome_some,if_true,HRU.out,fj,ri,oN]
 ·rw[Bool.true_or]at hru;have HRU:=aa hru;clear hru;go_wp2_with fail;have hcp:ba (rh (bl s))=ba ⟨bl s3,b1,b3,true⟩:=by rw[HRU.out]
  have HCP:=aa hcp;clear hcp;have hb0:Below w.heap.size w ((w.alloc (.cells #[.string ⟨#[]⟩, .bool false, .bool false, .bool false] 141)).alloc (.cells #[.string s3, .bool b1, .bool b3, .bool true] 141)):=((Below.refl _ _).alloc (Nat.le_refl _) _).alloc (by simp) _;have HB0:=aa hb0;clear hb0
  cases hcs:ba ⟨bl s3,b1,b3,true⟩with
  | none=>
   have HCS:=aa hcs;clear hcs;refine(dJ s3 b1 b3 true _ (HE.out.below HB0.out) (by omega)).mono ?_;rw[HCS.out];rintro e w3 ⟨rfl,hb3⟩;have hres:w3.heap[w.heap.size]? =some (.cells #[.string ⟨#[]⟩, .bool false, .bool false, .bool false] 141 (0,0)):=by
    rw[hb3.block _ (by simp; omega),Below.heap_alloc _ _ _ (by simp)]; exact heap_alloc_new w _
   have hb3':=ag HB0.out hb3;have HB3:=aa hb3';clear hb3 hb3';have r0:w3.cell? ⟨w.heap.size,0,none⟩=some (.string ⟨#[]⟩):=by rw[ac hres]; rfl
   have r1:w3.cell? ⟨w.heap.size,1,none⟩=some (.bool false):=by rw[ac hres]; rfl
   have r2:w3.cell? ⟨w.heap.size,2,none⟩=some (.bool false):=by rw[ac hres]; rfl
   have r3:w3.cell? ⟨w.heap.size,3,none⟩=some (.bool false):=by rw[ac hres]; rfl
   have f0:w3.frozen? ⟨w.heap.size,0,none⟩=false:=aj hres;have f1:w3.frozen? ⟨w.heap.size,1,none⟩=false:=aj hres;have f2:w3.frozen? ⟨w.heap.size,2,none⟩=false:=aj hres;have f3:w3.frozen? ⟨w.heap.size,3,none⟩=false:=aj hres;have HR:=aa hres;clear hres;go_wp2_with fail;obtain⟨W,hW⟩: ∃W,W=((((w3.setCell ⟨w.heap.size,0,none⟩ (.string ⟨#[]⟩)).setCell ⟨w.heap.size,1,none⟩ (.bool false)).setCell ⟨w.heap.size,2,none⟩ (.bool false)).setCell ⟨w.heap.size,3,none⟩ (.bool false)):=⟨_,rfl⟩
   rw[<-hW];have h4:=jP HR.out (.string ⟨#[]⟩) (.bool false) (.bool false) (.bool false);rw[<-hW]at h4;obtain⟨h41,h42⟩:=h4;have m0:W.cell? ⟨w.heap.size,0,none⟩=some (.string ⟨#[]⟩):=by rw[ac h41]; rfl
   have m1:W.cell? ⟨w.heap.size,1,none⟩=some (.bool false):=by rw[ac h41]; rfl
   have m2:W.cell? ⟨w.heap.size,2,none⟩=some (.bool false):=by rw[ac h41]; rfl
   have m3:W.cell? ⟨w.heap.size,3,none⟩=some (.bool false):=by rw[ac h41]; rfl
   clear hW;refine bodyPost_ret (v:= .tuple #[.agg #[.string ⟨#[]⟩, .bool false, .bool false, .bool false], .bool false]) (by simp[results,Tryz.results72,go_sem,m0,m1,m2,m3]) rfl ?_;refine⟨?_,HB3.out.grown h42 HB3.out.size (fun k hk=>by cases hk; exact Nat.le_refl _)⟩;rw[cu,HCP.out,HCS.out]; rfl
  | some cs=>
   have HCS:=aa hcs;clear hcs;refine(dJ s3 b1 b3 true _ (HE.out.below HB0.out) (by omega)).mono ?_;rw[HCS.out];rintro e w3 ⟨pv,rfl,hpv,hb3⟩;clear hpv;have hres:w3.heap[w.heap.size]? =some (.cells #[.string ⟨#[]⟩, .bool false, .bool false, .bool false] 141 (0,0)):=by
    rw[hb3.block _ (by simp; omega),Below.heap_alloc _ _ _ (by simp)]; exact heap_alloc_new w _
   have hbox:w3.heap[w.heap.size+1]? =some (.cells #[.string s3, .bool b1, .bool b3, .bool true] 141 (0,0)):=by
    rw[hb3.block _ (by simp)];have:=heap_alloc_new (w.alloc (.cells #[.string ⟨#[]⟩, .bool false, .bool false, .bool false] 141)) (.cells #[.string s3, .bool b1, .bool b3, .bool true] 141)
    simpa using this
   have n0:w3.cell? ⟨w.heap.size+1,0,none⟩=some (.string s3):=by rw[ac hbox]; rfl
   have n1:w3.cell? ⟨w.heap.size+1,1,none⟩=some (.bool b1):=by rw[ac hbox]; rfl
   have n2:w3.cell? ⟨w.heap.size+1,2,none⟩=some (.bool b3):=by rw[ac hbox]; rfl
   have n3:w3.cell? ⟨w.heap.size+1,3,none⟩=some (.bool true):=by rw[ac hbox]; rfl
   clear hbox;have hb3':=ag HB0.out hb3;have HB3:=aa hb3';clear hb3 hb3';have r0:w3.cell? ⟨w.heap.size,0,none⟩=some (.string ⟨#[]⟩):=by rw[ac hres]; rfl
   have r1:w3.cell? ⟨w.heap.size,1,none⟩=some (.bool false):=by rw[ac hres]; rfl
   have r2:w3.cell? ⟨w.heap.size,2,none⟩=some (.bool false):=by rw[ac hres]; rfl
   have r3:w3.cell? ⟨w.heap.size,3,none⟩=some (.bool false):=by rw[ac hres]; rfl
   have f0:w3.frozen? ⟨w.heap.size,0,none⟩=false:=aj hres;have f1:w3.frozen? ⟨w.heap.size,1,none⟩=false:=aj hres;have f2:w3.frozen? ⟨w.heap.size,2,none⟩=false:=aj hres;have f3:w3.frozen? ⟨w.heap.size,3,none⟩=false:=aj hres;have HR:=aa hres;clear hres;go_wp2_with fail;obtain⟨W,hW⟩: ∃W,W=((((w3.setCell ⟨w.heap.size,0,none⟩ (.string s3)).setCell ⟨w.heap.size,1,none⟩ (.bool b1)).setCell ⟨w.heap.size,2,none⟩ (.bool b3)).setCell ⟨w.heap.size,3,none⟩ (.bool true)):=⟨_,rfl⟩
   rw[<-hW];have h4:=jP HR.out (.string s3) (.bool b1) (.bool b3) (.bool true);rw[<-hW]at h4;obtain⟨h41,h42⟩:=h4;have m0:W.cell? ⟨w.heap.size,0,none⟩=some (.string s3):=by rw[ac h41]; rfl
   have m1:W.cell? ⟨w.heap.size,1,none⟩=some (.bool b1):=by rw[ac h41]; rfl
   have m2:W.cell? ⟨w.heap.size,2,none⟩=some (.bool b3):=by rw[ac h41]; rfl
   have m3:W.cell? ⟨w.heap.size,3,none⟩=some (.bool true):=by rw[ac h41]; rfl
   clear hW;refine bodyPost_ret (v:= .tuple #[.agg #[.string s3, .bool b1, .bool b3, .bool true], .bool true]) (by simp[results,Tryz.results72,go_sem,m0,m1,m2,m3]) rfl ?_;refine⟨?_,HB3.out.grown h42 HB3.out.size (fun k hk=>by cases hk; exact Nat.le_refl _)⟩;rw[cu,HCP.out,HCS.out];simp only[Option.isSome_some,if_true,HRU.out,fj,ri,oN]
theorem pk : ∀rs:List aU,bo qm (rs.flatMap jL) rs
 | []=>rfl
 | r::rs=>⟨jL r,rs.flatMap jL,by rw[List.flatMap_cons],rfl,pk rs⟩
theorem Tryz.appRules :cJ Tryz.prog 86 141 4 24:=cJ.mk' (z:= .agg #[.string ByteArray.empty, .bool false, .bool false, .bool false]) Tryz.underlying86 (by kernel_rfl) rfl (by decide) (by decide)
theorem qi {w:World} {base:Nat} {v:Value} {rs:List aU} (h:w.ownsRow base 141 4 v rs.length (rs.flatMap jL)):bL (base<= ·) w v rs:=
 ⟨rs.flatMap jL,(bi h).weak (fun _ hk=>hk.1),pk rs⟩
theorem ul {w w':World} {base:Nat} {e:TypeId} {sz:Nat} {v:Value} {n:Nat} {xs:List Value} (h:w.ownsRow base e sz v n xs) (hb:Below w.heap.size w w'):w'.ownsRow base e sz v n xs:=
 h.kept (grownBy.of_below (r:=none) hb) (by cases v.ownBlock<;> simp)
theorem vt (w:World) (o:Obj):(w.alloc o).heap.size=w.heap.size+1:=by simp
def Aj (o:List aU×Int×Int) (w:World) (e:Ending) (w':World):Prop:=
 ∃v,e= .returned (.tuple #[v, .int .i64 o.2.1, .int .i64 o.2.2])/\bL (w.heap.size<= ·) w' v o.1/\Below w.heap.size w w'
theorem my {S:Nat->Prop} {w:World} :bL S w (.slice none 0 0) []:=aY.nil
theorem oW {ls:List (List UInt8)} {k:Nat} {acc:List aU} {l:List UInt8} (h:ls[k]? =some l) (hl:l=[]\/Lib.hasPrefix l [35]=true):cS (ls.drop k) k acc=cS (ls.drop (k+1)) (k+1) acc:=by
 obtain⟨hk,rfl⟩:=List.getElem?_eq_some_iff.1 h;rw[List.drop_eq_getElem_cons hk,cS,if_pos hl]
theorem qV {ls:List (List UInt8)} {k:Nat} {acc:List aU} {l:List UInt8} (h:ls[k]? =some l) (h1:l≠[]) (h2:Lib.hasPrefix l [35]=false) (hp:cu l=none):cS (ls.drop k) k acc=([],(k:Int)+1,3):=by
 obtain⟨hk,rfl⟩:=List.getElem?_eq_some_iff.1 h;rw[List.drop_eq_getElem_cons hk,cS,if_neg (by rw[h2]; simp[h1]),hp]
theorem oV {ls:List (List UInt8)} {k:Nat} {acc:List aU} {l:List UInt8} {r:aU} (h:ls[k]? =some l) (h1:l≠[]) (h2:Lib.hasPrefix l [35]=false) (hp:cu l=some r) (ha:acc.length=256):cS (ls.drop k) k acc=([],(k:Int)+1,2):=by
 obtain⟨hk,rfl⟩:=List.getElem?_eq_some_iff.1 h;rw[List.drop_eq_getElem_cons hk,cS,if_neg (by rw[h2]; simp[h1]),hp];simp[ha]
theorem yP {ls:List (List UInt8)} {k:Nat} {acc:List aU} {l:List UInt8} {r:aU} (h:ls[k]? =some l) (h1:l≠[]) (h2:Lib.hasPrefix l [35]=false) (hp:cu l=some r) (ha: ¬acc.length=256):cS (ls.drop k) k acc=cS (ls.drop (k+1)) (k+1) (acc++[r]):=by
 obtain⟨hk,rfl⟩:=List.getElem?_eq_some_iff.1 h;rw[List.drop_eq_getElem_cons hk,cS,if_neg (by rw[h2]; simp[h1]),hp];simp[ha]
theorem yQ (s:ByteArray) (w:World) (he:jl w):Calls Tryz.prog 37 #[.string s] w (Aj (cz (bl s)) w):=by
 have HE:=aa he;clear he
 by_cases h6:s.size<=65536
 ·have hpe:cz (bl s)=cS (aA 10 (bl s)) 0 []:=by unfold cz; rw[if_neg (by rw[<-am]; omega)]
  have HPE:=aa hpe;clear hpe
  go_enter Tryz.func37,Tryz.ntmps37
  go_wp2_with fail;refine(mA s 10 w HE.out (by omega)).mono ?_;rintro e w' ⟨xs,hx,rfl,rfl⟩;have hxl:xs.length<=65537:=by
   have h1:(aA 10 (bl s)).length=xs.length:=by rw[<-hx]; simp
   have h2:=dE 10 (bl s);rw[<-am]at h2;omega
  have HX:=aa hx;clear hx;go_wp2_with fail
  go_loopw [5,16] (fun v i wr=> ∃(k:Nat) (rs:List aU),k<=xs.length/\rs.length<=256/\i= .int .i64 k/\wr.ownsRow (w.heap.size+1) 141 4 v rs.length (rs.flatMap jL)/\
    Below (w.heap.size+1) (w.alloc (.cells (xs.map Value.string).toArray 9)) wr/\cS (aA 10 (bl s)) 0 []=cS ((xs.map bl).drop k) k rs) (fun _ i _=>xs.length-(intOf i).toNat)
  case atStart=>exact⟨0,[],Nat.zero_le _,Nat.zero_le _,rfl,World.ownsRow_nil _ _ _ _,Below.refl _ _,by rw[HX.out]; rfl⟩
  case round=>
   obtain⟨k,rs,hk,hrs,rfl,hown,hb,hc⟩:=hrel;have HC:=aa hc;have HB:=aa hb;have HO:=aa hown;have hsz:w.heap.size+1<=wr.heap.size:=by have:=hb.size; simpa using this
   have hbw:Below w.heap.size w wr:=ag ((Below.refl _ _).alloc (Nat.le_refl _) _) (by simpa using hb);have HBW:=aa hbw;obtain⟨av,cv,rfl,hnv,hmv⟩:=ak hown;clear hbw
   by_cases hlt:k<xs.length
   ·obtain⟨x,hx⟩: ∃x,xs[k]? =some x:=⟨xs[k],by simp[hlt]⟩;have hcell:wr.cell? ⟨w.heap.size,k,none⟩=some (.string x):=(hb.cell (p:=⟨w.heap.size,k,none⟩) (by simp)).trans (lL (sr hx));have hxs:x.size<=65536:=by have:=ko HX.out hx; omega
    have HK:=aa hx;clear hx hb hc hown;have HP:=aa (show(xs.map bl)[k]? =some (bl x) by simp[HK.out])
    by_cases h0:bl x=[]
    ·have e0:x.toList.isEmpty=true:=by rw[bA,h0]; rfl
     have H0:=aa h0;clear h0;go_wp2_with fail
     go_roundw
     case rel=>exact⟨k+1,rs,by omega,hrs,by go_num,HO.out,HB.out,by rw[HC.out]; exact oW HP.out (.inl H0.out)⟩
     case measure=>simp[intOf]; omega
    ·have e0:x.toList.isEmpty=false:=by rw[bA]; simpa using h0
     have H0:=aa h0;clear h0
     cases hh:Lib.hasPrefix (bl x) [35]
     ·have HH:=aa hh;clear hh;go_wp2_with fail;refine(cH x ⟨#[35]⟩ false _ HH.out).mono ?_;rintro e w' ⟨rfl,rfl⟩;go_wp2_with fail
      cases hpl:cu (bl x)with
      | none=>
       have HPL:=aa hpl;clear hpl;refine(kE x wr (HE.out.below HBW.out) hxs).mono ?_;rw[HPL.out];rintro e w2 ⟨rfl,hb2⟩;have HB2:=aa hb2;clear hb2;simp only[fj,vi];go_wp2_with fail
       go_ret3
       refine⟨.slice none 0 0, ?_, ?_,ag (ag HBW.out HB2.out) ((Below.refl _ _).alloc (Nat.le_refl _) _)⟩
       ·rw[HPE.out,HC.out,qV HP.out H0.out HH.out HPL.out]; rfl
       ·rw[HPE.out,HC.out,qV HP.out H0.out HH.out HPL.out]; exact my
      | some r=>
       have HPL:=aa hpl;clear hpl;refine(kE x wr (HE.out.below HBW.out) hxs).mono ?_;rw[HPL.out];rintro e w2 ⟨rfl,hb2⟩;have HB2:=aa hb2;have hsz2:=hb2.size;clear hb2;obtain⟨rp,rk,rd,rr⟩:=r;simp only[fj,ri]
       by_cases hfull:rs.length=256
       ·have ef:((rs.length:Int) == 256)=true:=by rw[hfull]; rfl
        have HF:=aa hfull;clear hfull;go_wp2_with fail
        go_ret3
        refine⟨.slice none 0 0, ?_, ?_,ag (ag HBW.out HB2.out) ((Below.refl _ _).alloc (Nat.le_refl _) _)⟩
        ·rw[HPE.out,HC.out,oV HP.out H0.out HH.out HPL.out HF.out]; rfl
        ·rw[HPE.out,HC.out,oV HP.out H0.out HH.out HPL.out HF.out]; exact my
       ·have ef:((rs.length:Int) == 256)=false:=by rw[beq_eq_false_iff_ne]; omega
        have HF:=aa hfull;have hlt2:rs.length<256:=by omega
        clear hfull;have HO2:=aa (show World.ownsRow (w2.alloc (.cells #[.string ⟨rp.toArray⟩, .bool rk, .bool rd, .bool rr] 141)) (w.heap.size+1) 141 4 (.slice av rs.length cv) rs.length (rs.flatMap jL)from(ul HO.out HB2.out).alloc _);go_wp2_with (at_builtin; go_must (refine dd Tryz.appRules rfl _ _ rfl (w.heap.size+1) (.slice av rs.length cv) rs.length (rs.flatMap jL) rfl (w2.alloc (.cells #[.string ⟨rp.toArray⟩, .bool rk, .bool rd, .bool rr] 141)) (jL ⟨rp,rk,rd,rr⟩) _ (by rw[vt]; rfl) rfl (by simp[jL]; exact⟨rfl,rfl,rfl,rfl⟩) HO2.out (by omega) (by simp; omega) ?_); intro v' w3 hown1 hgrow1 _)
        have HO1:=aa hown1;have HG1:=aa hgrow1;clear hown1 hgrow1;go_wp2_with fail
        go_roundw
        case rel=>
         refine⟨k+1,rs++[⟨rp,rk,rd,rr⟩],by omega,by simp; omega,by go_num, ?_, ?_,by rw[HC.out]; exact yP HP.out H0.out HH.out HPL.out HF.out⟩
         ·have:=HO1.out; simpa using this
         ·exact aR (((HB.out.trans (HB2.out.mono hsz)).alloc (by omega) _)) HO2.out HG1.out (Nat.le_refl _) (by simp; omega)
        case measure=>simp[intOf]; omega
     ·have HH:=aa hh;clear hh;go_wp2_with fail;refine(cH x ⟨#[35]⟩ true _ HH.out).mono ?_;rintro e w' ⟨rfl,rfl⟩;go_wp2_with fail
      go_roundw
      case rel=>exact⟨k+1,rs,by omega,hrs,by go_num,HO.out,HB.out,by rw[HC.out]; exact oW HP.out (.inr HH.out)⟩
      case measure=>simp[intOf]; omega
   ·clear hb hc hown;go_wp2_with fail
    go_ret3
    have hfin:cz (bl s)=(rs,0,0):=by
     rw[HPE.out,HC.out,List.drop_eq_nil_of_le (by simp; omega)]; rfl
    refine⟨.slice av rs.length cv,by rw[hfin]; rfl, ?_,HBW.out⟩;rw[hfin];exact aY.mono (qi HO.out) (by omega) (fun k _ hk=>by omega) (fun _ _ _ h=>h)
 ·have hpe:cz (bl s)=([],0,2):=by unfold cz; rw[if_pos (by rw[<-am]; omega)]
  have HPE:=aa hpe;clear hpe
  go_enter Tryz.func37,Tryz.ntmps37
  go_wp2_with fail
  go_ret3
  exact⟨.slice none 0 0,by rw[HPE.out]; rfl,by rw[HPE.out]; exact my,Below.refl _ _⟩
open Go Go.RowKit Go.Maps
section
variable {w : World} {b : Nat} {a0 a1 a2 a3 a4 a5 x0 x1 x2 x3 x4 x5 : Value}
theorem ET (h:w.heap[b]? =some (.cells #[a0,a1,a2,a3,a4,a5] 54 (0,0))):
  ((((((w.setCell ⟨b,0,none⟩ x0).setCell ⟨b,1,none⟩ x1).setCell ⟨b,2,none⟩ x2).setCell ⟨b,3,none⟩ x3).setCell ⟨b,4,none⟩ x4).setCell ⟨b,5,none⟩ x5).heap[b]? =some (.cells #[x0,x1,x2,x3,x4,x5] 54 (0,0)):=by
 have h0:=nA (k:=0) h x0;have h1:=nA (k:=1) h0 x1;have h2:=nA (k:=2) h1 x2;have h3:=nA (k:=3) h2 x3;have h4:=nA (k:=4) h3 x4;have h5:=nA (k:=5) h4 x5
 simpa using h5
theorem DA {a:Act} {e7:Value} (h:w.heap[b]? =some (.cells #[x0,x1,x2,x3,x4,x5] 54 (0,0)))
  (h10:a.tmps[10]? =some (.pointer (some ⟨b,0,none⟩))) (h11:a.tmps[11]? =some e7):(results Tryz.f20 a.tmps).run Tryz.prog w= .ok (.tuple #[.agg #[x0,x1,x2,x3,x4,x5],e7]) w:=by
 have m0:=ah (k:=0) h;have m1:=ah (k:=1) h;have m2:=ah (k:=2) h;have m3:=ah (k:=3) h;have m4:=ah (k:=4) h;have m5:=ah (k:=5) h;simp only[eB]at m0 m1 m2 m3 m4 m5;simp[results,Tryz.results20,go_sem,h10,h11,m0,m1,m2,m3,m4,m5]
theorem kr {a:Act} {e7:Value} {Q:Ending->World->Prop} (h:w.heap[b]? =some (.cells #[a0,a1,a2,a3,a4,a5] 54 (0,0)))
  (h10:a.tmps[10]? =some (.pointer (some ⟨b,0,none⟩))) (h11:a.tmps[11]? =some e7) (hd:a.defers=[])
  (hQ:Q (.returned (.tuple #[.agg #[x0,x1,x2,x3,x4,x5],e7])) ((((((w.setCell ⟨b,0,none⟩ x0).setCell ⟨b,1,none⟩ x1).setCell ⟨b,2,none⟩ x2).setCell ⟨b,3,none⟩ x3).setCell ⟨b,4,none⟩ x4).setCell ⟨b,5,none⟩ x5)):
  bodyPost Tryz.prog Tryz.f20 Q Exit.ret a ((((((w.setCell ⟨b,0,none⟩ x0).setCell ⟨b,1,none⟩ x1).setCell ⟨b,2,none⟩ x2).setCell ⟨b,3,none⟩ x3).setCell ⟨b,4,none⟩ x4).setCell ⟨b,5,none⟩ x5):=bodyPost_ret (DA (ET h) h10 h11) hd hQ
theorem wk {k:Nat} (hk:k≠b):((((((w.setCell ⟨b,0,none⟩ x0).setCell ⟨b,1,none⟩ x1).setCell ⟨b,2,none⟩ x2).setCell ⟨b,3,none⟩ x3).setCell ⟨b,4,none⟩ x4).setCell ⟨b,5,none⟩ x5).heap[k]? =w.heap[k]? :=by
 rw[Below.heap_setCell _ _ _ _ (by exact hk),Below.heap_setCell _ _ _ _ (by exact hk),Below.heap_setCell _ _ _ _ (by exact hk),Below.heap_setCell _ _ _ _ (by exact hk),Below.heap_setCell _ _ _ _ (by exact hk),Below.heap_setCell _ _ _ _ (by exact hk)]
theorem ma {B:Nat} {u:World} (hb:Below B u w) (hB:B<=b) (hz:B<=w.heap.size):Below B u ((((((w.setCell ⟨b,0,none⟩ x0).setCell ⟨b,1,none⟩ x1).setCell ⟨b,2,none⟩ x2).setCell ⟨b,3,none⟩ x3).setCell ⟨b,4,none⟩ x4).setCell ⟨b,5,none⟩ x5):=by
 have hk: ∀(i:Nat),(some b)=some i->B<=i:=fun i e=>by cases e; exact hB
 have g: ∀ {v:World} (k:Nat) (x:Value),B<=v.heap.size->Below B u v->Below B u (v.setCell ⟨b,k,none⟩ x)/\B<=(v.setCell ⟨b,k,none⟩ x).heap.size:=fun k x hz h=>⟨h.grown (aB _ _ _ _) hz hk,Nat.le_trans hz (aB _ b k x).size⟩
 obtain⟨c0,z0⟩:=g 0 x0 hz hb;obtain⟨c1,z1⟩:=g 1 x1 z0 c0;obtain⟨c2,z2⟩:=g 2 x2 z1 c1;obtain⟨c3,z3⟩:=g 3 x3 z2 c2;obtain⟨c4,z4⟩:=g 4 x4 z3 c3;exact(g 5 x5 z4 c4).1
end
def DV :Value:= .agg #[.int .i64 0, .slice none 0 0, .slice none 0 0, .slice none 0 0, .int .i64 0, .int .i64 0]
def lg (res:Except Int Am) (w:World) (e:Ending) (w':World):Prop:=Below w.heap.size w w'/\match res with
 | .error x=>e= .returned (.tuple #[DV, .int .i64 x])/\x≠0
 | .ok r=> ∃fv cv nv,e= .returned (.tuple #[.agg #[.int .i64 r.idx.tm,fv,cv,nv, .int .i64 (r.read:Int), .int .i64 (r.kept:Int)], .int .i64 0])/\bH w' w.heap.size fv r.idx.files/\w'.ownsRow w.heap.size 60 2 cv r.chg.length (fY r.chg)/\cK w.heap.size nv r.news w'
theorem eF (S:Nat->Prop) (x:dh) (fv:Value) (b:Bool) (w:World) (hx:aZ S w fv x.files) (henv:jl w) (h:di x=b):Calls Tryz.prog 12 #[gd fv x.tm] w fun e w'=>e= .returned (.bool b)/\Below w.heap.size w w':=by
 rw[<-h]; exact sG S x fv w hx henv
theorem vV (rs:List aU) (S:Nat->Prop) (v:Value) (s:ByteArray) (dir ig:Bool) (w:World) (he:jl w) (hv:bL S w v rs) (hp: ∀r∈rs,r.pat.length<=9223372036854775807) (h:dq rs (bl s) dir=(ig,0)):
  Calls Tryz.prog 40 #[v, .string s, .bool dir] w fun e w'=>e= .returned (.tuple #[.bool ig, .int .i64 0])/\Below w.heap.size w w':=by
 have:=tU rs S v s dir w he hv hp;rw[h]at this;exact this
theorem BI {S:Nat->Prop} {w:World} {v:Value} {rs:List aU} (h:bL S w v rs):bL (· <w.heap.size) w v rs:=by
 obtain⟨cells,h1,h2⟩:=h;exact⟨cells,aO.mono h1 (fun k hk _=>hk) (by omega),h2⟩
theorem BJ {S T:Nat->Prop} {w:World} {v:Value} {rs:List aU} (h:bL S w v rs) (hs: ∀k,S k->T k):bL T w v rs:=by
 obtain⟨cells,h1,h2⟩:=h;exact⟨cells,h1.weak hs,h2⟩
theorem pt {prev:dh} {tm:Int} {tree:List bu} {rules:List UInt8} {c:eE} (h: ¬(di prev=true/\prev.tm<=tm/\eT c=true)):eQ prev tm tree rules c= .error 1:=by unfold eQ; rw[if_neg h]
theorem wI {prev:dh} {tm:Int} {tree:List bu} {rules:List UInt8} {c:eE} {rs:List aU} {n x:Int} (h:di prev=true/\prev.tm<=tm/\eT c=true) (hp:cz rules=(rs,n,x)) (hx: ¬x=0):eQ prev tm tree rules c= .error x:=by
 unfold eQ; rw[if_pos h,hp,if_neg hx]
theorem zD {prev:dh} {tm x:Int} {tree:List bu} {rules:List UInt8} {c:eE} {rs:List aU} {n:Int} (h:di prev=true/\prev.tm<=tm/\eT c=true) (hp:cz rules=(rs,n,0)) (hx:bZ tree=x) (h0: ¬x=0):eQ prev tm tree rules c= .error x:=by
 unfold eQ; rw[if_pos h,hp,if_pos rfl,hx,if_neg h0]
theorem Dz {prev:dh} {tm:Int} {tree:List bu} {rules:List UInt8} {c:eE} {rs:List aU} {n:Int} {s:kw} (h:di prev=true/\prev.tm<=tm/\eT c=true) (hp:cz rules=(rs,n,0)) (hx:bZ tree=0) (hs:s=dA prev.tm prev.files c (cW rs tree)):eQ prev tm tree rules c= .ok ⟨⟨tm,s.files⟩,pO prev.files s.files,s.news,s.read,s.kept⟩:=by
 unfold eQ; rw[if_pos h,hp,if_pos rfl,if_pos hx,hs]
theorem Db {x:dh} (h:di x=true):x.files.length<=4096:=by
 unfold di at h;simp only[Bool.and_eq_true,decide_eq_true_eq]at h;exact h.1.1.2
theorem BO {tm:Int} {prev:List al} {c:eE} (hc:eT c=true) {K:List bu} (hv: ∀e∈K,bW e=true):(dA tm prev c K).news.length<=K.length*1048576:=by
 show(List.foldl bE (qy prev,[]) _).2.length<=_
 refine Nat.le_trans (BE _ _) ?_;simp only[List.length_nil,Nat.zero_add];have key: ∀(L:List bu),(∀e∈L,bW e=true/\e.kind=1)->(L.flatMap fun e=>cg c e.data).length<=L.length*1048576:=by
  intro L
  induction L with
  | nil=>simp
  | cons e L ih=>
   intro h;rw[List.flatMap_cons,List.length_append,List.length_cons];have h1:=ih fun x hx=>h x (by simp[hx])
   have h2:=AF hc e.data;have h3:=(lC (h e (by simp)).1).1 (h e (by simp)).2;omega
 refine Nat.le_trans (key _ fun e he=> ?_) (Nat.mul_le_mul_right _ (List.length_filter_le _ _));rw[List.mem_filter]at he;refine⟨hv e he.1, ?_⟩;have:=he.2;unfold re at this;rw[Bool.and_eq_true]at this;exact of_decide_eq_true this.1
theorem bL.old {base:Nat} {w w':World} {v:Value} {rs:List aU} (h:bL (· <base) w v rs) (hb:Below base w w'):bL (· <base) w' v rs:=by
 obtain⟨cells,h1,h2⟩:=h;exact⟨cells,aO.same h1 (fun k hk=>hb.block k hk),h2⟩
theorem Bs {S:Nat->Prop} {w:World} {v:Value} {l:List bd} (h:aM S w v l):aM (· <w.heap.size) w v l:=by
 obtain⟨cells,h1,h2⟩:=h;exact⟨cells,aO.mono h1 (fun k hk _=>hk) (by omega),h2⟩
theorem AX {S:Nat->Prop} {w:World} {v:Value} {l:List al} (h:aZ S w v l):aZ (· <w.heap.size) w v l:=by
 obtain⟨cells,h1,h2⟩:=h;exact⟨cells,aO.mono h1 (fun k hk _=>hk) (by omega),h2.mono fun c x _ ⟨u,e1,e2,e3⟩=>⟨u,e1,Bs e2,e3⟩⟩
theorem Bu {S T:Nat->Prop} {w:World} {v:Value} {l:List bd} (h:aM S w v l) (hs: ∀k,S k->T k):aM T w v l:=by
 obtain⟨cells,h1,h2⟩:=h;exact⟨cells,h1.weak hs,h2⟩
theorem AY {S T:Nat->Prop} {w:World} {v:Value} {l:List al} (h:aZ S w v l) (hs: ∀k,S k->T k):aZ T w v l:=by
 obtain⟨cells,h1,h2⟩:=h;exact⟨cells,h1.weak hs,h2.mono fun c x _ ⟨u,e1,e2,e3⟩=>⟨u,e1,Bu e2 hs,e3⟩⟩
theorem CT {S:Nat->Prop} {w:World} {v:Value} {l:List bu} (h:bR S w v l):bR (· <w.heap.size) w v l:=by
 obtain⟨cells,h1,h2⟩:=h;exact⟨cells,aO.mono h1 (fun k hk _=>hk) (by omega),h2.mono fun c x _ ⟨u,e1,e2,e3⟩=>⟨u,e1,aO.mono e2 (fun k hk _=>hk) (by omega),e3⟩⟩
theorem CU {S T:Nat->Prop} {w:World} {v:Value} {l:List bu} (h:bR S w v l) (hs: ∀k,S k->T k):bR T w v l:=by
 obtain⟨cells,h1,h2⟩:=h;exact⟨cells,h1.weak hs,h2.mono fun c x _ ⟨u,e1,e2,e3⟩=>⟨u,e1,e2.weak hs,e3⟩⟩
theorem AV {base:Nat} {w w':World} {v:Value} {l:List bu} (h:bR (· <base) w v l) (hb:Below base w w'):bR (· <base) w' v l:=by
 obtain⟨cells,h1,h2⟩:=h;refine⟨cells,aO.same h1 (fun k hk=>hb.block k hk),h2.mono fun c x _ ⟨u,e1,e2,e3⟩=>⟨u,e1,aO.same e2 (fun k hk=>hb.block k hk),e3⟩⟩
theorem pq (S T:Nat->Prop) (prev:dh) (fv tv:Value) (tm:Int) (tree:List bu) (rules:ByteArray) (c:eE) (w:World) (hf:aZ S w fv prev.files) (ht:bR T w tv tree) (he:je w) (hs:c.seed<18446744073709551616) (hpl: ∀f∈prev.files,f.parts.length<=1048576):
  Calls Tryz.prog 20 #[gd fv prev.tm, .int .i64 tm,tv, .string rules,gV c] w (lg (eQ prev tm tree (bl rules) c) w):=by
 obtain⟨fa,fc,rfl,hfc,hfm,-⟩:=aY.shape hf fF.len;obtain⟨ta,tc,rfl,htc,htm,-⟩:=aY.shape ht kJ.len;unfold maxLen at htm;have HF:=aa hf;have HT:=aa ht;have HE:=aa he;have HPL:=aa hpl;clear hf ht he hpl;obtain⟨fl,hfl⟩: ∃fl,fl=prev.files.length:=⟨_,rfl⟩;rw[<-hfl]at HF hfc ⊢;have HFL:=aa hfl;obtain⟨tl,htl⟩: ∃tl,tl=tree.length:=⟨_,rfl⟩;rw[<-htl]at HT htc ⊢
 have HTL:=aa htl;clear hfl htl;obtain⟨W,hW⟩: ∃W,W=((w.alloc (.cells #[.int .i64 prev.tm, .slice fa fl fc] 24)).alloc (.cells #[.int .i64 c.mn, .int .i64 c.mx, .int .i64 c.win, .int .i64 c.bits, .int .u64 (c.seed:Int)] 48)).alloc (.cells #[.int .i64 0, .slice none 0 0, .slice none 0 0, .slice none 0 0, .int .i64 0, .int .i64 0] 54):=⟨_,rfl⟩;have HBW:=aa (show Below w.heap.size w W by rw[hW]; exact(((Below.refl _ _).alloc (Nat.le_refl _) _).alloc (by simp) _).alloc (by simp; omega) _)
 have HX:=aa (show W.heap[w.heap.size]? =some (.cells #[.int .i64 prev.tm, .slice fa fl fc] 24 (0,0)) by rw[hW]; exact lZ (lZ (heap_alloc_new w _) _) _);have HC:=aa (show W.heap[w.heap.size+1]? =some (.cells #[.int .i64 c.mn, .int .i64 c.mx, .int .i64 c.win, .int .i64 c.bits, .int .u64 (c.seed:Int)] 48 (0,0)) by rw[hW]; exact lZ (heap_alloc2_new w _ _) _);have HR:=aa (show W.heap[w.heap.size+1+1]? =some (.cells #[.int .i64 0, .slice none 0 0, .slice none 0 0, .slice none 0 0, .int .i64 0, .int .i64 0] 54 (0,0)) by
  rw[hW];have h:=heap_alloc_new ((w.alloc (.cells #[.int .i64 prev.tm, .slice fa fl fc] 24)).alloc (.cells #[.int .i64 c.mn, .int .i64 c.mx, .int .i64 c.win, .int .i64 c.bits, .int .u64 (c.seed:Int)] 48)) (.cells #[.int .i64 0, .slice none 0 0, .slice none 0 0, .slice none 0 0, .int .i64 0, .int .i64 0] 54);have e2:((w.alloc (.cells #[.int .i64 prev.tm, .slice fa fl fc] 24)).alloc (.cells #[.int .i64 c.mn, .int .i64 c.mx, .int .i64 c.win, .int .i64 c.bits, .int .u64 (c.seed:Int)] 48)).heap.size=w.heap.size+1+1:=by simp
  rw[e2]at h;exact h)
 have HSZ:=aa (show W.heap.size=w.heap.size+3 by rw[hW]; simp);unfold gd gV
 go_enter Tryz.func20,Tryz.ntmps20
 go_upto_region 1 with fail
 change Code.wp _ _ _ _ (((w.alloc (.cells #[.int .i64 prev.tm, .slice fa fl fc] 24)).alloc (.cells #[.int .i64 c.mn, .int .i64 c.mx, .int .i64 c.win, .int .i64 c.bits, .int .u64 (c.seed:Int)] 48)).alloc (.cells #[.int .i64 0, .slice none 0 0, .slice none 0 0, .slice none 0 0, .int .i64 0, .int .i64 0] 54))
 rw[<-hW];clear hW;have HFW:=aa (show aZ S W (.slice fa fl fc) prev.files from HF.out.below HBW.out);have HEW:=aa (HE.out.below HBW.out);have x0:=ah (k:=0) HX.out;have x1:=ah (k:=1) HX.out;simp only[List.getElem?_toArray,ci]at x0 x1
 cases hvx:di prev with
 | false=>
  have HBAD:=aa (show eQ prev tm tree (bl rules) c= .error 1 from pt (fun h=>by rw[hvx]at h; cases h.1));have HVX:=aa hvx;clear hvx
  go_upto_region 2 with(go_at_call 12; refine(eF S prev (.slice fa fl fc) false W HFW.out HEW.out.env HVX.out).mono ?_; rintro e w1 ⟨rfl,hb1⟩; have HB1:=aa hb1; clear hb1)
  have HR1:=aa ((HB1.out.block _ (lt_of_block HR.out)).trans HR.out);have z0:=ah (k:=0) HR1.out;have z1:=ah (k:=1) HR1.out;have z2:=ah (k:=2) HR1.out;have z3:=ah (k:=3) HR1.out;have z4:=ah (k:=4) HR1.out;have z5:=ah (k:=5) HR1.out;simp only[List.getElem?_toArray,ci]at z0 z1 z2 z3 z4 z5;have g0:=aG (k:=0) HR1.out;have g1:=aG (k:=1) HR1.out
  have g2:=aG (k:=2) HR1.out;have g3:=aG (k:=3) HR1.out;have g4:=aG (k:=4) HR1.out;have g5:=aG (k:=5) HR1.out;go_wp2_with fail;refine kr HR1.out rfl rfl rfl ?_;refine⟨ma (HBW.out.trans (HB1.out.mono (by have:=HSZ.out; omega))) (by omega) (by have:=HB1.out.size; have:=HSZ.out; omega), ?_⟩;rw[HBAD.out];exact⟨rfl,by decide⟩
 | true=>
  have HVX:=aa hvx;clear hvx
  by_cases hlt:tm<prev.tm
  ·have HBAD:=aa (show eQ prev tm tree (bl rules) c= .error 1 from pt (fun h=>by omega))
   go_upto_region 2 with(go_at_call 12; refine(eF S prev (.slice fa fl fc) true W HFW.out HEW.out.env HVX.out).mono ?_; rintro e w1 ⟨rfl,hb1⟩; have HB1:=aa hb1; have y0:=(hb1.cell (p:=⟨w.heap.size,0,none⟩) (ay x0)).trans x0; clear hb1)
   have HR1:=aa ((HB1.out.block _ (lt_of_block HR.out)).trans HR.out);have z0:=ah (k:=0) HR1.out;have z1:=ah (k:=1) HR1.out;have z2:=ah (k:=2) HR1.out;have z3:=ah (k:=3) HR1.out;have z4:=ah (k:=4) HR1.out;have z5:=ah (k:=5) HR1.out;simp only[List.getElem?_toArray,ci]at z0 z1 z2 z3 z4 z5;have g0:=aG (k:=0) HR1.out;have g1:=aG (k:=1) HR1.out
   have g2:=aG (k:=2) HR1.out;have g3:=aG (k:=3) HR1.out;have g4:=aG (k:=4) HR1.out;have g5:=aG (k:=5) HR1.out;go_wp2_with fail;refine kr HR1.out rfl rfl rfl ?_;refine⟨ma (HBW.out.trans (HB1.out.mono (by have:=HSZ.out; omega))) (by omega) (by have:=HB1.out.size; have:=HSZ.out; omega), ?_⟩;rw[HBAD.out];exact⟨rfl,by decide⟩
  ·cases hvc:eT c with
   | false=>
    have HBAD:=aa (show eQ prev tm tree (bl rules) c= .error 1 from pt (fun h=>by rw[hvc]at h; cases h.2.2));have HVC:=aa hvc;clear hvc
    go_upto_region 2 with(first | (go_at_call 12; refine(eF S prev (.slice fa fl fc) true W HFW.out HEW.out.env HVX.out).mono ?_; rintro e w1 ⟨rfl,hb1⟩; have HB1:=aa hb1; have y0:=(hb1.cell (p:=⟨w.heap.size,0,none⟩) (ay x0)).trans x0; have HC1:=aa ((hb1.block _ (lt_of_block HC.out)).trans HC.out); have c0:=ah (k:=0) HC1.out; have c1:=ah (k:=1) HC1.out; have c2:=ah (k:=2) HC1.out; have c3:=ah (k:=3) HC1.out; have c4:=ah (k:=4) HC1.out; simp only[List.getElem?_toArray,ci]at c0 c1 c2 c3 c4; clear hb1) | (go_at_call 36; refine(gM c false _ HVC.out).mono ?_; rintro e w2 ⟨rfl,hb2⟩; have HB2:=aa hb2; clear hb2))
    have HB12:=aa (ag HB1.out HB2.out);have HR1:=aa ((HB12.out.block _ (lt_of_block HR.out)).trans HR.out);have z0:=ah (k:=0) HR1.out;have z1:=ah (k:=1) HR1.out;have z2:=ah (k:=2) HR1.out;have z3:=ah (k:=3) HR1.out;have z4:=ah (k:=4) HR1.out;have z5:=ah (k:=5) HR1.out;simp only[List.getElem?_toArray,ci]at z0 z1 z2 z3 z4 z5;have g0:=aG (k:=0) HR1.out
    have g1:=aG (k:=1) HR1.out;have g2:=aG (k:=2) HR1.out;have g3:=aG (k:=3) HR1.out;have g4:=aG (k:=4) HR1.out;have g5:=aG (k:=5) HR1.out;go_wp2_with fail;refine kr HR1.out rfl rfl rfl ?_;refine⟨ma (HBW.out.trans (HB12.out.mono (by have:=HSZ.out; omega))) (by omega) (by have:=HB12.out.size; have:=HSZ.out; omega), ?_⟩;rw[HBAD.out];exact⟨rfl,by decide⟩
   | true=>
    have HVC:=aa hvc;have HOK:=aa (show di prev=true/\prev.tm<=tm/\eT c=true from⟨HVX.out,by omega,hvc⟩);clear hvc
    go_upto_region 3 with(first | (go_at_call 12; refine(eF S prev (.slice fa fl fc) true W HFW.out HEW.out.env HVX.out).mono ?_; rintro e w1 ⟨rfl,hb1⟩; have HB1:=aa hb1; have y0:=(hb1.cell (p:=⟨w.heap.size,0,none⟩) (ay x0)).trans x0; have HC1:=aa ((hb1.block _ (lt_of_block HC.out)).trans HC.out); have c0:=ah (k:=0) HC1.out; have c1:=ah (k:=1) HC1.out; have c2:=ah (k:=2) HC1.out; have c3:=ah (k:=3) HC1.out; have c4:=ah (k:=4) HC1.out; simp only[List.getElem?_toArray,ci]at c0 c1 c2 c3 c4; clear hb1) | (go_at_call 36; refine(gM c true _ HVC.out).mono ?_; rintro e w2 ⟨rfl,hb2⟩; have HB2:=aa (ag HB1.out hb2); clear hb2))
    clear x0 x1 y0 c0 c1 c2 c3 c4 hlt;have HE2:=aa (HEW.out.below HB2.out);obtain⟨rs,rn,rx,hpe⟩: ∃rs rn rx,cz (bl rules)=(rs,rn,rx):=⟨_,_,_,rfl⟩;have HPE:=aa hpe;have hpa:=yQ rules w2 HE2.out.env;rw[hpe]at hpa;have HPA:=aa hpa;clear hpe hpa
    go_upto_region 4 with(go_at_call 37; refine HPA.out.mono ?_; rintro e w3 ⟨rv,rfl,hru,hb3⟩; have HB3:=aa (ag HB2.out hb3); have HRU:=aa hru; have hz23:=hb3.size; clear hru hb3)
    by_cases hx:rx=0
    ·subst hx;obtain⟨z,hz⟩: ∃z,bZ tree=z:=⟨_,rfl⟩;have HZ:=aa hz;have HE3:=aa (HEW.out.below HB3.out);have HT3:=aa (show bR T w3 (.slice ta tl tc) tree from(HT.out.below HBW.out).below HB3.out);clear hz
     go_upto_region 7 with(go_at_call 34; refine(sZ T tree (.slice ta tl tc) z _ HT3.out HE3.out.env HZ.out).mono ?_; rintro e w4 ⟨rfl,hb4⟩; have HB4:=aa (ag HB3.out hb4); have HB34:=aa hb4; have hz34:=hb4.size; clear hb4)
     by_cases hz0:z=0
     ·subst hz0;have hz12:w.heap.size+3<=w4.heap.size:=by have:=HB4.out.size; have:=HSZ.out; omega
      go_upto_region 9 with fail
      obtain⟨W0,hW0⟩: ∃W0:World,W0=w4.drew:=⟨_,rfl⟩;have HBZ:=aa (show Below W.heap.size W W0 by rw[hW0]; exact HB4.out.drew);have HB40:=aa (show Below w4.heap.size w4 W0 by rw[hW0]; exact(Below.refl _ _).drew);have hz0:W0.heap.size=w4.heap.size:=by rw[hW0]; rfl
      have HX0:=aa ((HBZ.out.block _ (lt_of_block HX.out)).trans HX.out);have HC0:=aa ((HBZ.out.block _ (lt_of_block HC.out)).trans HC.out);have HR0:=aa ((HBZ.out.block _ (lt_of_block HR.out)).trans HR.out);obtain⟨base,hbase⟩: ∃base,base=W0.heap.size:=⟨_,rfl⟩;have HBS:=aa hbase;have HFB:=aa (show aZ (· <base) W0 (.slice fa fl fc) prev.files from AY (AX (HFW.out.below HBZ.out)) (fun k hk=>by rw[hbase]; exact hk))
      have HTB:=aa (show bR (· <base) W0 (.slice ta tl tc) tree from CU (CT ((HT.out.below HBW.out).below HBZ.out)) (fun k hk=>by rw[hbase]; exact hk));have HE0:=aa (HEW.out.below HBZ.out);have hvi:=HVX.out;have hlen:prev.files.length<=4096:=Db hvi;have HND:=aa (show(prev.files.map al.path).Nodup from by
       have h1:=CZ hvi;unfold EB at h1;unfold List.Nodup;rw[List.pairwise_map];exact h1.imp fun h=>EO h)
      clear hvi;have S0:=aa (And.intro HX0.out HC0.out);refine cI (fun w'=>w'.heap[w.heap.size]? =some (.cells #[.int .i64 prev.tm, .slice fa fl fc] 24 (0,0))/\w'.heap[w.heap.size+1]? =some (.cells #[.int .i64 c.mn, .int .i64 c.mx, .int .i64 c.win, .int .i64 c.bits, .int .u64 (c.seed:Int)] 48 (0,0))) (by kernel_rfl) ?_;rw[<-hW0];clear hW0 hbase;refine ab 0 rfl (by kernel_rfl) (by kernel_rfl) (by kernel_rfl) (fun _ _ _ h=>h) rfl S0.out (by rintro w' ⟨hw1,hw2⟩; have o0:=ah (k:=0) hw1; have o1:=ah (k:=1) hw1; have c0:=ah (k:=0) hw2; have c1:=ah (k:=1) hw2; have c2:=ah (k:=2) hw2; have c3:=ah (k:=3) hw2; have c4:=ah (k:=4) hw2; simp only[List.getElem?_toArray,ci]at o0 o1 c0 c1 c2 c3 c4; clear hw1 hw2; go_simp; rfl) ?_
      simp only[Act.put,aD,aE,aF];refine ab 1 rfl (by kernel_rfl) (by kernel_rfl) (by kernel_rfl) (fun _ _ _ h=>h) rfl S0.out (by rintro w' ⟨hw1,hw2⟩; have o0:=ah (k:=0) hw1; have o1:=ah (k:=1) hw1; have c0:=ah (k:=0) hw2; have c1:=ah (k:=1) hw2; have c2:=ah (k:=2) hw2; have c3:=ah (k:=3) hw2; have c4:=ah (k:=4) hw2; simp only[List.getElem?_toArray,ci]at o0 o1 c0 c1 c2 c3 c4; clear hw1 hw2; go_simp; rfl) ?_
      simp only[Act.put,aD,aE,aF];refine ab 2 rfl (by kernel_rfl) (by kernel_rfl) (by kernel_rfl) (fun _ _ _ h=>h) rfl S0.out (by rintro w' ⟨hw1,hw2⟩; have o0:=ah (k:=0) hw1; have o1:=ah (k:=1) hw1; have c0:=ah (k:=0) hw2; have c1:=ah (k:=1) hw2; have c2:=ah (k:=2) hw2; have c3:=ah (k:=3) hw2; have c4:=ah (k:=4) hw2; simp only[List.getElem?_toArray,ci]at o0 o1 c0 c1 c2 c3 c4; clear hw1 hw2; go_simp; rfl) ?_
      simp only[Act.put,aD,aE,aF];refine ab 4 rfl (by kernel_rfl) (by kernel_rfl) (by kernel_rfl) (fun _ _ _ h=>h) rfl S0.out (by rintro w' ⟨hw1,hw2⟩; have o0:=ah (k:=0) hw1; have o1:=ah (k:=1) hw1; have c0:=ah (k:=0) hw2; have c1:=ah (k:=1) hw2; have c2:=ah (k:=2) hw2; have c3:=ah (k:=3) hw2; have c4:=ah (k:=4) hw2; simp only[List.getElem?_toArray,ci]at o0 o1 c0 c1 c2 c3 c4; clear hw1 hw2; go_simp; rfl) ?_
      simp only[Act.put,aD,aE,aF];refine ab 6 rfl (by kernel_rfl) (by kernel_rfl) (by kernel_rfl) (fun _ _ _ h=>h) rfl S0.out (by rintro w' ⟨hw1,hw2⟩; have o0:=ah (k:=0) hw1; have o1:=ah (k:=1) hw1; have c0:=ah (k:=0) hw2; have c1:=ah (k:=1) hw2; have c2:=ah (k:=2) hw2; have c3:=ah (k:=3) hw2; have c4:=ah (k:=4) hw2; simp only[List.getElem?_toArray,ci]at o0 o1 c0 c1 c2 c3 c4; clear hw1 hw2; go_simp; rfl) ?_
      simp only[Act.put,aD,aE,aF];refine ax 3 rfl (by kernel_rfl) rfl (fun K hK=> ?_);go_wp2_with (go_at_call 38; refine(tH (· <base) prev (.slice fa fl fc) W0 HFB.out HND.out hlen).mono ?_; rintro e w5 ⟨mb,rfl,hmb,hfm,hb5⟩; have HB5:=aa hb5; have HFM:=aa hfm; have hz5:=hb5.size; clear hb5 hfm);have S5:=aa (And.intro ((HB5.out.block _ (lt_of_block HX0.out)).trans HX0.out) ((HB5.out.block _ (lt_of_block HC0.out)).trans HC0.out))
      refine⟨S5.out, ?_⟩;refine ax 5 rfl (by kernel_rfl) rfl (fun K hK=> ?_);go_wp2_with (go_at_call 39; refine(rX (· <base) prev (.slice fa fl fc) w5 (HFB.out.below HB5.out)).mono ?_; rintro e w6 ⟨kb,rfl,hkb,hkn,hb6⟩; have HB6:=aa hb6; have HKN:=aa hkn; have hz6:=hb6.size; clear hb6 hkn);have HB06:=aa (ag HB5.out HB6.out);have S6:=aa (And.intro ((HB06.out.block _ (lt_of_block HX0.out)).trans HX0.out) ((HB06.out.block _ (lt_of_block HC0.out)).trans HC0.out))
      refine⟨S6.out, ?_⟩;refine ab 7 rfl (by kernel_rfl) (by kernel_rfl) (by kernel_rfl) (fun _ _ _ h=>h) rfl S6.out (by rintro w' ⟨hw1,hw2⟩; have o0:=ah (k:=0) hw1; have o1:=ah (k:=1) hw1; have c0:=ah (k:=0) hw2; have c1:=ah (k:=1) hw2; have c2:=ah (k:=2) hw2; have c3:=ah (k:=3) hw2; have c4:=ah (k:=4) hw2; simp only[List.getElem?_toArray,ci]at o0 o1 c0 c1 c2 c3 c4; clear hw1 hw2; go_simp; rfl) ?_
      simp only[Act.put,aD,aE,aF];refine ax 8 rfl (by kernel_rfl) rfl (fun K hK=> ?_);go_wp2_with fail;obtain⟨wc,hwc⟩: ∃wc,wc=w6.alloc (.cells (cC ⟨0, .slice none 0 0, .slice none 0 0,0,0,prev.tm,mb,c⟩ kb (.slice none 0 0)).toArray 95):=⟨_,rfl⟩;have HBC:=aa (show Below w6.heap.size w6 wc by rw[hwc]; exact(Below.refl _ _).alloc (Nat.le_refl _) _);have HCB:=aa (show wc.heap[w6.heap.size]? =some (.cells (cC ⟨0, .slice none 0 0, .slice none 0 0,0,0,prev.tm,mb,c⟩ kb (.slice none 0 0)).toArray 95 (0,0)) by rw[hwc]; exact heap_alloc_new w6 _)
      have hwc2:=hwc;simp only[cC,cF,List.cons_append,List.nil_append]at hwc2;have HB0C:=aa (ag HB06.out HBC.out);have SC:=aa (And.intro ((HB0C.out.block _ (lt_of_block HX0.out)).trans HX0.out) ((HB0C.out.block _ (lt_of_block HC0.out)).trans HC0.out));have hb0:=HBS.out;have HCO:=aa (show dj W0 wc base w6.heap.size kb ⟨0, .slice none 0 0, .slice none 0 0,0,0,prev.tm,mb,c⟩ (.slice none 0 0) prev.files ⟨[],qy prev.files,[],0,0⟩from
       ⟨⟨HCB.out,⟨[],rfl,World.ownsRow_nil _ _ _ _,by simp⟩,HKN.out.below HBC.out⟩,bH.nil _ _,(HFM.out.below HB6.out).below HBC.out,by rw[hb0]; exact HB0C.out,by have:=HFM.out.lt; show mb≠kb; omega,rfl,rfl⟩)
      have hzc:w6.heap.size<wc.heap.size:=lt_of_block HCB.out;have hwc3:w6.alloc (.cells #[.int .i64 0, .slice none 0 0, .slice none 0 0, .slice none 0 0, .int .i64 0, .int .i64 0, .int .i64 prev.tm, .map (some mb), .map (some kb), .int .i64 c.mn, .int .i64 c.mx, .int .i64 c.win, .int .i64 c.bits, .int .u64 (c.seed:Int)] 95)=wc:=hwc.symm;rw[hwc3];clear hwc hwc2 hwc3;refine⟨SC.out, ?_⟩
      refine ab 9 rfl (by kernel_rfl) (by kernel_rfl) (by kernel_rfl) (fun _ _ _ h=>h) rfl SC.out (by rintro w' ⟨hw1,hw2⟩; have o0:=ah (k:=0) hw1; have o1:=ah (k:=1) hw1; have c0:=ah (k:=0) hw2; have c1:=ah (k:=1) hw2; have c2:=ah (k:=2) hw2; have c3:=ah (k:=3) hw2; have c4:=ah (k:=4) hw2; simp only[List.getElem?_toArray,ci]at o0 o1 c0 c1 c2 c3 c4; clear hw1 hw2; go_simp; rfl) ?_
      simp only[Act.put,aD,aE,aF];refine bh (by kernel_rfl) ?_;have k0:=ah (k:=0) HCB.out;have f0:=aG (k:=0) HCB.out;simp only[cC,cF,List.cons_append,List.nil_append,List.getElem?_toArray,List.getElem?_cons_zero]at k0
      go_upto_region 11 with fail
      obtain⟨wd,hwd⟩: ∃wd,wd=wc.setCell ⟨w6.heap.size,0,none⟩ (.int .i64 tm):=⟨_,rfl⟩;rw[<-hwd];obtain⟨cb,hcb⟩: ∃cb,cb=w6.heap.size:=⟨_,rfl⟩;have HCO2:=aa (show dj W0 wd base cb kb ⟨tm, .slice none 0 0, .slice none 0 0,0,0,prev.tm,mb,c⟩ (.slice none 0 0) prev.files ⟨[],qy prev.files,[],0,0⟩ by
       rw[hwd,hcb];exact HCO.out.setq 0 (.int .i64 tm) (q':=⟨tm, .slice none 0 0, .slice none 0 0,0,0,prev.tm,mb,c⟩) (by simp[cC]) rfl rfl rfl rfl rfl rfl rfl (by omega) (by omega))
      have hzd:wd.heap.size=wc.heap.size:=by rw[hwd]; simp[World.setCell]
      rw[<-hcb];have hcbb:base<=cb:=by omega
      have hkbb:base<=kb:=by omega
      clear hwd k0 f0 hcb;have h6:6<=base:=by have:=HE0.out.six; omega
      have hTO:=fd.1 HZ.out;have HVE:=aa hTO.val;have htl2:tl<=4096:=by have h1:=hTO.len; rwa [<-HTL.out]at h1
      obtain⟨us,hus,hig⟩:=Bc HPE.out;have HIG:=aa hig;have HPT:=aa (show ∀r∈rs,r.pat.length<=9223372036854775807 from fun r hr=>by have:=(un HPE.out).2.2.2 r hr; omega);have hz34':w3.heap.size<=base:=by have:=HBS.out; omega
      have HRB:=aa (show bL (· <base) W0 rv rs from BJ (BI (bL.below (bL.below HRU.out HB34.out) HB40.out)) (fun k hk=>by have:=HBS.out; rw[this]; exact hk));clear hTO hus hig;go_wp2_with fail
      go_loopw [70] (fun i wr=> ∃(k:Nat) (fv' nv':Value) (rd kp:Nat),k<=tl/\i= .int .i64 k/\dj W0 wr base cb kb ⟨tm,fv', .slice none 0 0,rd,kp,prev.tm,mb,c⟩ nv' prev.files (dA prev.tm prev.files c (cW rs (tree.take k)))) (fun i _=>tl-(intOf i).toNat)
      case atStart=>exact⟨0,_,_,0,0,Nat.zero_le _,rfl,HCO2.out⟩
      case round=>
       obtain⟨k,fv',nv',rd,kp,hk,rfl,hco⟩:=hrel;have HCK:=aa hco;have HBK:=aa hco.old;have hzk:=hco.old.size;clear hco
       by_cases hlt:k<tl
       ·obtain⟨e,he⟩: ∃e,tree[k]? =some e:=⟨_,List.getElem?_eq_getElem (show k<tree.length by rw[<-HTL.out]; exact hlt)⟩;have HTK:=aa (AV HTB.out HBK.out);obtain⟨b,o,dv,rfl,-,-,hd,heok,-,q0,q1,q2,q3,q4,q5⟩:=iI HTK.out he;obtain⟨da,dc,rfl,hd1,hd2⟩:=hd.slice;have HAT:=aa he;have HDA:=aa hd;have HEO:=aa heok;have hve:=HVE.out e (List.mem_of_getElem? he)
        have HVL:=aa hve;have hk256:(tree.take k).length<=k:=List.length_take_le _ _;have hKl:(cW rs (tree.take k)).length<=k:=Nat.le_trans (List.length_filter_le _ _) hk256;have HKV:=aa (show ∀x∈cW rs (tree.take k),bW x=true from fun x hx=>HVE.out x (List.take_subset _ _ (lG hx).1));obtain⟨ig,hig⟩: ∃ig,dq rs (bl e.path) (e.kind == 2)=(ig,0):=⟨_,HIG.out _ _ (bY hve)⟩
        have HIGE:=aa hig;have HIGK:=aa (show pV rs e=ig by unfold pV; rw[show decide (e.kind=2)=(e.kind == 2)from rfl,hig]);have HAL:=aa ((Below.refl wr.heap.size wr).alloc (Nat.le_refl _) (.cells #[.string e.path, .int .i64 e.kind, .int .i64 e.mode, .int .i64 e.time, .slice da e.data.length dc, .string e.link] 30));have HRK:=aa (bL.below (bL.old HRB.out HBK.out) HAL.out)
        have HEK:=aa ((HE0.out.keep HBK.out h6).below HAL.out);clear he hd heok hve hig
        go_upto_region 15 with(go_at_call 40; refine(vV rs (· <base) rv e.path (e.kind == 2) ig _ HEK.out.env HRK.out HPT.out HIGE.out).mono ?_; rintro e8 w8 ⟨rfl,hb8⟩; have HB8:=aa (ag HAL.out hb8); have HY8:=aa ((hb8.block _ (by simp)).trans (heap_alloc_new wr (.cells #[.string e.path, .int .i64 e.kind, .int .i64 e.mode, .int .i64 e.time, .slice da e.data.length dc, .string e.link] 30))); clear hb8)
        have hz8:=HB8.out.size;have HC8:=aa (HCK.out.below HB8.out (by omega))
        cases hg:ig with
        | true=>
         subst hg;go_wp2_with fail
         go_roundw
         case rel=>
          refine⟨k+1,fv',nv',rd,kp,by omega,rfl, ?_⟩;rw[bc HAT.out,yy HIGK.out];exact HC8.out
         case measure=>simp only[intOf,Int.toNat_natCast]; omega
        | false=>
         subst hg;have HD8:=aa (show cl (· <base) w8 (.slice da e.data.length dc) e.data from aO.same HDA.out (fun i hi=>HB8.out.block i (by omega)));have HE8:=aa (HE0.out.keep HC8.out.old h6);have x0:=ah (k:=0) HY8.out;have x1:=ah (k:=1) HY8.out;have x2:=ah (k:=2) HY8.out;have x3:=ah (k:=3) HY8.out;have x4:=ah (k:=4) HY8.out;have x5:=ah (k:=5) HY8.out
         simp only[List.getElem?_toArray,ci]at x0 x1 x2 x3 x4 x5;have hnw:=BO (tm:=prev.tm) (prev:=prev.files) HVC.out HKV.out;have hadd:=zz W0 base cb kb ⟨tm,fv', .slice none 0 0,rd,kp,prev.tm,mb,c⟩ nv' (.slice da e.data.length dc) prev.files (dA prev.tm prev.files c (cW rs (tree.take k))) e w8 HC8.out HD8.out HEO.out HVL.out HVC.out hs HE8.out hcbb hkbb (by omega) h6 (by omega)
          (by show(List.map _ _).length<=_; rw[List.length_map]; omega) (by show(List.filter _ _).length<=_; exact Nat.le_trans (List.length_filter_le _ _) (by omega)) (by show(List.filter _ _).length<=_; exact Nat.le_trans (List.length_filter_le _ _) (by omega)) HPL.out
         have HADD:=aa hadd;clear hnw hadd
         go_upto_region 19 with(go_at_call 41; refine HADD.out.mono ?_; rintro e9 w9 ⟨fv2,nv2,rd2,kp2,rfl,hco9,hb9⟩; have HC9:=aa hco9; clear hco9 hb9)
         go_wp2_with fail
         go_roundw
         case rel=>
          refine⟨k+1,fv2,nv2,rd2,kp2,by omega,rfl, ?_⟩;rw[bc HAT.out,yz HIGK.out,BN];exact HC9.out
         case measure=>simp only[intOf,Int.toNat_natCast]; omega
       ·have hkt:k=tl:=by omega
        subst hkt;have htk:tree.take k=tree:=List.take_of_length_le (by rw[<-HTL.out]; exact Nat.le_refl _);rw[htk]at HCK;clear htk
        go_upto_region 22 with fail
        obtain⟨s,hss⟩: ∃s,s=dA prev.tm prev.files c (cW rs tree):=⟨_,rfl⟩;rw[<-hss]at HCK;have HSK:=aa hss;obtain⟨zsF,-,hzrF,-⟩:=HCK.out.files.row;obtain⟨fva,fvc,hfv,-,-⟩:=ak hzrF;obtain⟨ysN,-,hysN,-⟩:=HCK.out.col.news;obtain⟨nva,nvc,hnv,-,-⟩:=ak hysN;obtain⟨fvn,hfvn⟩: ∃n,n=zsF.length:=⟨_,rfl⟩;obtain⟨nvn,hnvn⟩: ∃n,n=ysN.length:=⟨_,rfl⟩
        rw[<-hfvn]at hfv;rw[<-hnvn]at hnv;have hfv:fv'= .slice fva fvn fvc:=hfv;have hnv:nv'= .slice nva nvn nvc:=hnv;clear hzrF hysN hfvn hnvn;subst hfv hnv;have HOUT:=aa (Dz (tree:=tree) HOK.out HPE.out HZ.out hss);have hsf:s.files.length<=4096:=by
         rw[hss]
         show(List.map _ _).length<=_
         rw[List.length_map];have h1:(cW rs tree).length<=tree.length:=List.length_filter_le _ _;have:=HTL.out;omega
        obtain⟨q,hq⟩: ∃q:ij,q=⟨tm,(.slice fva fvn fvc), .slice none 0 0,rd,kp,prev.tm,mb,c⟩:=⟨_,rfl⟩;have HQ:=aa hq;obtain⟨WE,hWE⟩: ∃WE:World,WE=wr.drew:=⟨_,rfl⟩;have HBE:=aa (show Below wr.heap.size wr WE by rw[hWE]; exact(Below.refl _ _).drew);have HCE:=aa (HCK.out.below HBE.out (by omega));have HBXE:=aa (show WE.heap[cb]? =some (.cells (cC ⟨tm,(.slice fva fvn fvc), .slice none 0 0,rd,kp,prev.tm,mb,c⟩ kb (.slice nva nvn nvc)).toArray 95 (0,0))from HCE.out.col.box)
        have hzE:=HBE.out.size;have hwb:w.heap.size<base:=by omega
        have HXE:=aa ((HCE.out.old.block _ hwb).trans HX0.out);have HFE:=aa (show aZ (fun i=>base<=i) WE (.slice fva fvn fvc) s.files from HCE.out.files.at);have HFP:=aa (show aZ (· <base) WE (.slice fa fl fc) prev.files from by
         obtain⟨cells,h1,h2⟩:=HFB.out;exact⟨cells,aO.same h1 (fun i hi=>HCE.out.old.block i hi),h2.mono fun c x _ ⟨u,e1,e2,e3⟩=>⟨u,e1,e2.old HCE.out.old,e3⟩⟩)
        have SE:=aa (And.intro HXE.out HBXE.out);clear hss hq;refine cA (fun w'=>w'.heap[w.heap.size]? =some (.cells #[.int .i64 prev.tm, .slice fa fl fc] 24 (0,0))/\w'.heap[cb]? =some (.cells (cC ⟨tm,(.slice fva fvn fvc), .slice none 0 0,rd,kp,prev.tm,mb,c⟩ kb (.slice nva nvn nvc)).toArray 95 (0,0))) (by kernel_rfl) (by kernel_rfl) ?_;simp only[List.dropLast_cons_cons,List.dropLast_singleton,List.length_cons,List.length_nil,Nat.reduceAdd,Nat.reduceSub]
        rw[<-hWE];clear hWE;refine ab 0 rfl (by kernel_rfl) (by kernel_rfl) (by kernel_rfl) (fun _ _ _ h=>h) rfl SE.out (by rintro w' ⟨hw1,hw2⟩; have o0:=ah (k:=0) hw1; have o1:=ah (k:=1) hw1; have c0:=ah (k:=0) hw2; have c1:=ah (k:=1) hw2; simp only[cC,cF,List.cons_append,List.nil_append,List.getElem?_toArray,ci]at o0 o1 c0 c1; clear hw1 hw2; go_simp; rfl) ?_
        simp only[Act.put,aD,aE,aF];refine ab 1 rfl (by kernel_rfl) (by kernel_rfl) (by kernel_rfl) (fun _ _ _ h=>h) rfl SE.out (by rintro w' ⟨hw1,hw2⟩; have o0:=ah (k:=0) hw1; have o1:=ah (k:=1) hw1; have c0:=ah (k:=0) hw2; have c1:=ah (k:=1) hw2; simp only[cC,cF,List.cons_append,List.nil_append,List.getElem?_toArray,ci]at o0 o1 c0 c1; clear hw1 hw2; go_simp; rfl) ?_
        simp only[Act.put,aD,aE,aF];refine ab 2 rfl (by kernel_rfl) (by kernel_rfl) (by kernel_rfl) (fun _ _ _ h=>h) rfl SE.out (by rintro w' ⟨hw1,hw2⟩; have o0:=ah (k:=0) hw1; have o1:=ah (k:=1) hw1; have c0:=ah (k:=0) hw2; have c1:=ah (k:=1) hw2; simp only[cC,cF,List.cons_append,List.nil_append,List.getElem?_toArray,ci]at o0 o1 c0 c1; clear hw1 hw2; go_simp; rfl) ?_
        simp only[Act.put,aD,aE,aF];refine ab 3 rfl (by kernel_rfl) (by kernel_rfl) (by kernel_rfl) (fun _ _ _ h=>h) rfl SE.out (by rintro w' ⟨hw1,hw2⟩; have o0:=ah (k:=0) hw1; have o1:=ah (k:=1) hw1; have c0:=ah (k:=0) hw2; have c1:=ah (k:=1) hw2; simp only[cC,cF,List.cons_append,List.nil_append,List.getElem?_toArray,ci]at o0 o1 c0 c1; clear hw1 hw2; go_simp; rfl) ?_
        simp only[Act.put,aD,aE,aF];refine ab 4 rfl (by kernel_rfl) (by kernel_rfl) (by kernel_rfl) (fun _ _ _ h=>h) rfl SE.out (by rintro w' ⟨hw1,hw2⟩; have o0:=ah (k:=0) hw1; have o1:=ah (k:=1) hw1; have c0:=ah (k:=0) hw2; have c1:=ah (k:=1) hw2; simp only[cC,cF,List.cons_append,List.nil_append,List.getElem?_toArray,ci]at o0 o1 c0 c1; clear hw1 hw2; go_simp; rfl) ?_
        simp only[Act.put,aD,aE,aF];refine ab 5 rfl (by kernel_rfl) (by kernel_rfl) (by kernel_rfl) (fun _ _ _ h=>h) rfl SE.out (by rintro w' ⟨hw1,hw2⟩; have o0:=ah (k:=0) hw1; have o1:=ah (k:=1) hw1; have c0:=ah (k:=0) hw2; have c1:=ah (k:=1) hw2; simp only[cC,cF,List.cons_append,List.nil_append,List.getElem?_toArray,ci]at o0 o1 c0 c1; clear hw1 hw2; go_simp; rfl) ?_
        simp only[Act.put,aD,aE,aF];refine ab 6 rfl (by kernel_rfl) (by kernel_rfl) (by kernel_rfl) (fun _ _ _ h=>h) rfl SE.out (by rintro w' ⟨hw1,hw2⟩; have o0:=ah (k:=0) hw1; have o1:=ah (k:=1) hw1; have c0:=ah (k:=0) hw2; have c1:=ah (k:=1) hw2; simp only[cC,cF,List.cons_append,List.nil_append,List.getElem?_toArray,ci]at o0 o1 c0 c1; clear hw1 hw2; go_simp; rfl) ?_
        simp only[Act.put,aD,aE,aF];refine ax 7 rfl (by kernel_rfl) rfl (fun K hK=> ?_);have hlen2:prev.files.length<=4096:=hlen;go_wp2_with (go_at_call 42; refine(sX (· <base) (fun i=>base<=i) prev ⟨tm,s.files⟩ (.slice fa fl fc) (.slice fva fvn fvc) WE HFP.out HFE.out hlen2 hsf).mono ?_; rintro e9 w9 ⟨cv,rfl,ho9,hb9⟩; obtain⟨va,vc,rfl,-,-⟩:=ak ho9; have HO9:=aa ho9; have HB9:=aa hb9; have hz9:=hb9.size; clear ho9 hb9)
        obtain⟨vn,hvn⟩: ∃n,n=(pO prev.files s.files).length:=⟨_,rfl⟩;rw[<-hvn]at HO9 ⊢;have HVN:=aa hvn;clear hvn;have HC9:=aa (HCE.out.below HB9.out (by omega));have HBX9:=aa (show w9.heap[cb]? =some (.cells (cC ⟨tm,(.slice fva fvn fvc), .slice none 0 0,rd,kp,prev.tm,mb,c⟩ kb (.slice nva nvn nvc)).toArray 95 (0,0))from HC9.out.col.box);have S9:=aa (And.intro ((HB9.out.block _ (lt_of_block HXE.out)).trans HXE.out) HBX9.out)
        refine⟨S9.out, ?_⟩;refine ab 8 rfl (by kernel_rfl) (by kernel_rfl) (by kernel_rfl) (fun _ _ _ h=>h) rfl S9.out (by rintro w' ⟨hw1,hw2⟩; have o0:=ah (k:=0) hw1; have o1:=ah (k:=1) hw1; have c0:=ah (k:=0) hw2; have c1:=ah (k:=1) hw2; simp only[cC,cF,List.cons_append,List.nil_append,List.getElem?_toArray,ci]at o0 o1 c0 c1; clear hw1 hw2; go_simp; rfl) ?_
        simp only[Act.put,aD,aE,aF];refine ab 9 rfl (by kernel_rfl) (by kernel_rfl) (by kernel_rfl) (fun _ _ _ h=>h) rfl S9.out (by rintro w' ⟨hw1,hw2⟩; have o0:=ah (k:=0) hw1; have o1:=ah (k:=1) hw1; have c0:=ah (k:=0) hw2; have c1:=ah (k:=1) hw2; simp only[cC,cF,List.cons_append,List.nil_append,List.getElem?_toArray,ci]at o0 o1 c0 c1; clear hw1 hw2; go_simp; rfl) ?_
        simp only[Act.put,aD,aE,aF];refine ab 10 rfl (by kernel_rfl) (by kernel_rfl) (by kernel_rfl) (fun _ _ _ h=>h) rfl S9.out (by rintro w' ⟨hw1,hw2⟩; have o0:=ah (k:=0) hw1; have o1:=ah (k:=1) hw1; have c0:=ah (k:=0) hw2; have c1:=ah (k:=1) hw2; simp only[cC,cF,List.cons_append,List.nil_append,List.getElem?_toArray,ci]at o0 o1 c0 c1; clear hw1 hw2; go_simp; rfl) ?_
        simp only[Act.put,aD,aE,aF];refine bh (by kernel_rfl) ?_;refine cL rfl rfl (fun K hK=> ?_);have k2:=ah (k:=2) HBX9.out;have f2:=aG (k:=2) HBX9.out;simp only[cC,cF,List.cons_append,List.nil_append,List.getElem?_toArray,ci]at k2
        go_upto_region 23 with fail
        obtain⟨WF,hWF⟩: ∃WF,WF=w9.setCell ⟨cb,2,none⟩ (.slice va vn vc):=⟨_,rfl⟩;rw[<-hWF];have HCF:=aa (show dj W0 WF base cb kb ⟨tm,(.slice fva fvn fvc),(.slice va vn vc),rd,kp,prev.tm,mb,c⟩ (.slice nva nvn nvc) prev.files s by
         rw[hWF];exact HC9.out.setq 2 (.slice va vn vc) (q':=⟨tm,(.slice fva fvn fvc),(.slice va vn vc),rd,kp,prev.tm,mb,c⟩) (by simp[cC]) rfl rfl rfl rfl rfl HC9.out.rd HC9.out.kp hcbb (by omega))
        have HOF:=aa (show WF.ownsRow WE.heap.size 60 2 (.slice va vn vc) vn (fY (pO prev.files s.files)) by
         rw[hWF];refine bm HO9.out (fun i hi hv=>Below.heap_setCell _ _ _ _ (fun e1=> ?_));obtain⟨cs2,hc2⟩:=aC HO9.out hv;rw[e1]at hc2;exact absurd (aK HBX9.out hc2) (by decide))
        have HBXF:=aa (show WF.heap[cb]? =some (.cells (cC ⟨tm,(.slice fva fvn fvc),(.slice va vn vc),rd,kp,prev.tm,mb,c⟩ kb (.slice nva nvn nvc)).toArray 95 (0,0))from HCF.out.col.box);have hzF:=HCF.out.old.size;have HRF:=aa ((HCF.out.old.block _ (show w.heap.size+1+1<base by omega)).trans HR0.out);have m0:=ah (k:=0) HBXF.out;have m1:=ah (k:=1) HBXF.out;have m2:=ah (k:=2) HBXF.out
        have m3:=ah (k:=3) HBXF.out;have m4:=ah (k:=4) HBXF.out;have m5:=ah (k:=5) HBXF.out;simp only[cC,cF,List.cons_append,List.nil_append,List.getElem?_toArray,ci]at m0 m1 m2 m3 m4 m5;clear hWF k2 f2;have z0:=ah (k:=0) HRF.out;have z1:=ah (k:=1) HRF.out;have z2:=ah (k:=2) HRF.out;have z3:=ah (k:=3) HRF.out;have z4:=ah (k:=4) HRF.out
        have z5:=ah (k:=5) HRF.out;simp only[List.getElem?_toArray,ci]at z0 z1 z2 z3 z4 z5;have g0:=aG (k:=0) HRF.out;have g1:=aG (k:=1) HRF.out;have g2:=aG (k:=2) HRF.out;have g3:=aG (k:=3) HRF.out;have g4:=aG (k:=4) HRF.out;have g5:=aG (k:=5) HRF.out;go_wp2_with fail;refine kr HRF.out rfl rfl rfl ?_;have hzW:w.heap.size+3<=base:=by omega
        have hBWF:Below w.heap.size w WF:=(HBW.out.trans (HBZ.out.mono (by have:=HSZ.out; omega))).trans (HCF.out.old.mono (by omega));refine⟨ma hBWF (by omega) (by omega), ?_⟩;rw[HOUT.out];have hrd:rd=s.read:=HCF.out.rd;have hkp:kp=s.kept:=HCF.out.kp;refine⟨_,_,_,by rw[hrd,hkp]; rfl, ?_, ?_, ?_⟩
        ·exact(HCF.out.files.le (show w.heap.size<=base by omega)).same fun i cs2 t2 hi hib hc2 ht2=>wk (fun e1=>by
          rw[e1]at hc2;have h1:=aK HRF.out hc2
          rcases ht2 with⟨rfl,_⟩ | rfl
          ·exact absurd h1 (by decide)
          ·exact absurd h1 (by decide))
        ·rw[show(pO prev.files s.files).length=vn from HVN.out.symm];refine bm (bP HOF.out (by omega)) (fun i hi hv=>wk (fun e1=> ?_));have:=(HOF.out.lt i hv).1;omega
        ·exact(HCF.out.col.news.le (show w.heap.size<=base by omega)).same fun i cs2 t2 hi hib hc2 ht2=>wk (fun e1=>by
          rw[e1]at hc2;have h1:=aK HRF.out hc2
          rcases ht2 with ht2 | rfl
          ·obtain⟨ys,_,h3,_⟩:=HCF.out.col.news;obtain⟨cs3,h4⟩:=aC h3 ht2;rw[e1]at h4;exact absurd (aK HRF.out h4) (by decide)
          ·exact absurd h1 (by decide))
     ·have HBAD:=aa (zD (tree:=tree) HOK.out HPE.out HZ.out hz0);have HR1:=aa ((HB4.out.block _ (lt_of_block HR.out)).trans HR.out);have z0:=ah (k:=0) HR1.out;have z1:=ah (k:=1) HR1.out;have z2:=ah (k:=2) HR1.out;have z3:=ah (k:=3) HR1.out;have z4:=ah (k:=4) HR1.out;have z5:=ah (k:=5) HR1.out;simp only[List.getElem?_toArray,ci]at z0 z1 z2 z3 z4 z5
      have g0:=aG (k:=0) HR1.out;have g1:=aG (k:=1) HR1.out;have g2:=aG (k:=2) HR1.out;have g3:=aG (k:=3) HR1.out;have g4:=aG (k:=4) HR1.out;have g5:=aG (k:=5) HR1.out;go_wp2_with fail;refine kr HR1.out rfl rfl rfl ?_;refine⟨ma (HBW.out.trans (HB4.out.mono (by have:=HSZ.out; omega))) (by omega) (by have:=HB4.out.size; have:=HSZ.out; omega), ?_⟩
      rw[HBAD.out];exact⟨rfl,hz0⟩
    ·have HBAD:=aa (wI (tree:=tree) HOK.out HPE.out hx);have HR1:=aa ((HB3.out.block _ (lt_of_block HR.out)).trans HR.out);have z0:=ah (k:=0) HR1.out;have z1:=ah (k:=1) HR1.out;have z2:=ah (k:=2) HR1.out;have z3:=ah (k:=3) HR1.out;have z4:=ah (k:=4) HR1.out;have z5:=ah (k:=5) HR1.out;simp only[List.getElem?_toArray,ci]at z0 z1 z2 z3 z4 z5
     have g0:=aG (k:=0) HR1.out;have g1:=aG (k:=1) HR1.out;have g2:=aG (k:=2) HR1.out;have g3:=aG (k:=3) HR1.out;have g4:=aG (k:=4) HR1.out;have g5:=aG (k:=5) HR1.out;go_wp2_with fail;refine kr HR1.out rfl rfl rfl ?_;refine⟨ma (HBW.out.trans (HB3.out.mono (by have:=HSZ.out; omega))) (by omega) (by have:=HB3.out.size; have:=HSZ.out; omega), ?_⟩
     rw[HBAD.out];exact⟨rfl,hx⟩
end Go.Proofs.YtnjkpcalgoefhaaGreatDoor
namespace Go.Proofs.YtnjkpcalgoefhaaGreatDoor
open Go Go.RowKit
theorem kF (S:Nat->Prop) (data:List UInt8) (v:Value) (w:World) (hv:aX S w v data) (hl:data.length<=32768) (henv:jl w):Calls Tryz.prog 26 #[v] w (nM data w):=by
 obtain⟨_,a,cap,rfl,hn,hm,-⟩:=id hv;unfold maxLen at hm;have hb0:Below w.heap.size w (w.alloc (.cells #[.int .i64 0, .slice none 0 0] 24)):=(Below.refl _ _).alloc (Nat.le_refl _) _;have HV:=aa (show aX S (w.alloc (.cells #[.int .i64 0, .slice none 0 0] 24)) _ data from aO.below hv (by omega) hb0);have HE:=aa henv;have HB0:=aa hb0;have HX0:=aa (heap_alloc_new w (.cells #[.int .i64 0, .slice none 0 0] 24))
 have hz0:(w.alloc (.cells #[.int .i64 0, .slice none 0 0] 24)).heap.size=w.heap.size+1:=by simp
 clear hv henv hb0
 go_enter Tryz.func26,Tryz.ntmps26
 go_wp2_with fail;obtain⟨W0,hW0⟩: ∃W0,W0=w.alloc (.cells #[.int .i64 0, .slice none 0 0] 24):=⟨_,rfl⟩;rw[<-hW0]at HV HB0 HX0 hz0 ⊢;clear hW0;refine(qb S data _ W0 HV.out hl).mono ?_;rintro e w1 ⟨rb,dv,rfl,hge,hrd,hb1⟩;have HRD1:=aa hrd;have HB1:=aa hb1;clear hrd hb1;go_wp2_with fail;refine(mF rb dv data ⟨0,0,0⟩ _ HRD1.out).mono ?_;rintro e w2 ⟨tm,s1,hp,rfl,h1,h2⟩
 have HT:=aa hp;have HRD2:=aa h1;have HG2:=aa h2;clear hp h1 h2;go_wp2_with fail;obtain⟨tv,htv⟩: ∃ix:Int,ix=wrap64 (tm:Int):=⟨_,rfl⟩;rw[<-htv];have HTV:=aa (show tv=lX tm from htv);clear htv;obtain⟨xb,hxb⟩: ∃xb,xb=w2.heap.size:=⟨_,rfl⟩;obtain⟨W3,hW3⟩: ∃W3,W3=w2.alloc (.cells #[.int .i64 tv, .slice none 0 0] 24):=⟨_,rfl⟩;have HI2:=aa (show gp w.heap.size rb xb w w1 W3 dv (.slice none 0 0) data s1 tv [] by
  have z1:=HB1.out.size;have z2:=HG2.out.size;have hlt:=aQ.lt HRD1.out;have hB2:Below w.heap.size w w2:=(HB0.out.trans (HB1.out.mono (by omega))).grown HG2.out (by omega) (fun k e=>by cases e; omega);subst hxb hW3;refine⟨aQ.below HRD2.out ((Below.refl _ _).alloc (Nat.le_refl _) _),⟨_,HRD1.out⟩,heap_alloc_new w2 _, ?_,bH.nil _ _,hB2.alloc (by omega) _,by omega,z2,Nat.le_refl _⟩
  rw[heap_alloc_old _ _ (by omega),HG2.out.block _ (by omega) (by simp; omega),HB1.out.block _ (by omega)];exact HX0.out)
 rw[<-hW3,<-hxb];clear hW3 hxb;refine(xt rb dv data s1 4096 _ HI2.out.rd (by omega)).mono ?_;rintro e w3 ⟨n,s2,hcn,rfl,hrd2,hg2⟩;have hnl:n<=4096:=by have:=AD data 4096 s1; rw[hcn]at this; exact this
 have HCN:=aa hcn;have HI3:=aa (HI2.out.call hrd2 hg2);clear hcn hrd2 hg2;go_wp2_with fail
 go_loopw [19] (fun i wr=> ∃(k:Nat) (l:List al) (s:RS) (fv:Value),k<=n/\i= .int .i64 k/\l.length=k/\dp data s2 k=some (l,s)/\gp w.heap.size rb xb w w1 wr dv fv data s tv l) (fun i _=>n-(intOf i).toNat)
 case atStart=>exact⟨0,[],s2, .slice none 0 0,Nat.zero_le _,rfl,rfl,rfl,HI3.out⟩
 case round=>
  obtain⟨k,l,s,fv,hk,rfl,hlk,hit,hinv⟩:=hrel;have HIT:=aa hit;have HINV:=aa hinv;have HLK:=aa hlk;obtain⟨zs,hzs,hzr,hzd⟩:=hinv.own.row;have hzl:zs.length=k:=by rw[<-hlk,<-hzs,List.length_map]
  rw[hzl]at hzr;obtain⟨av,cv0,hvs,hvn,hvm⟩:=ak hzr;subst hvs;have HZS:=aa hzs;have HZR:=aa hzr;have HZD:=aa hzd;have HRD:=aa hinv.rd;have hxr:=lt_of_block hinv.box;have hlo:=hinv.lo;have hhi:=hinv.hi;clear hit hinv hlk hzs hzr hzd
  by_cases hlt:k<n
  ·go_wp2_with fail;refine(Cc rb dv data s 512 _ HRD.out (by omega)).mono ?_;rintro e w4 ⟨nm,a1,hp1,rfl,h1,h2⟩;have hnml:nm.length<=512:=by have:=xU data 512 s; rw[hp1]at this; exact this
   have HP1:=aa hp1;have HM0:=aa (dI.start HRD.out h1 h2 #[.string ⟨nm.toArray⟩, .int .i64 0, .int .i64 0, .int .i64 0, .int .i64 0, .string ⟨#[]⟩, .slice none 0 0]);clear hp1 h1 h2;go_wp2_with fail;refine(mF rb dv data a1 _ HM0.out.rd).mono ?_;rintro e w5 ⟨kd,a2,hp,rfl,h1,h2⟩;have HP2:=aa hp;have HM1:=aa (HM0.out.call h1 h2);have ck:=HM1.out.cell 1;have fk:=HM1.out.free 1
   simp only[eB]at ck;clear hp h1 h2;go_wp2_with fail;obtain⟨kv,hkv⟩: ∃ix:Int,ix=wrap64 (kd:Int):=⟨_,rfl⟩;rw[<-hkv];have Hkv:=aa hkv;clear hkv;obtain⟨w6,hw4⟩: ∃wx:World,wx=w5.setCell ⟨w4.heap.size,1,none⟩ (.int .i64 kv):=⟨_,rfl⟩;rw[<-hw4];have m4:=HM1.out.set 1 (.int .i64 kv);rw[<-hw4]at m4;simp only[List.setIfInBounds_toArray,List.set_cons_succ,List.set_cons_zero]at m4
   have HM2:=aa m4;clear m4 hw4 ck fk HM0 HM1;refine(mF rb dv data a2 _ HM2.out.rd).mono ?_;rintro e w7 ⟨md,a3,hp,rfl,h1,h2⟩;have HP3:=aa hp;have HM3:=aa (HM2.out.call h1 h2);have ck:=HM3.out.cell 2;have fk:=HM3.out.free 2;simp only[eB]at ck;clear hp h1 h2;go_wp2_with fail;obtain⟨mv,hkv⟩: ∃ix:Int,ix=wrap64 (md:Int):=⟨_,rfl⟩;rw[<-hkv];have Hmv:=aa hkv;clear hkv
   obtain⟨w8,hw4⟩: ∃wx:World,wx=w7.setCell ⟨w4.heap.size,2,none⟩ (.int .i64 mv):=⟨_,rfl⟩;rw[<-hw4];have m4:=HM3.out.set 2 (.int .i64 mv);rw[<-hw4]at m4;simp only[List.setIfInBounds_toArray,List.set_cons_succ,List.set_cons_zero]at m4;have HM4:=aa m4;clear m4 hw4 ck fk HM2 HM3;refine(mF rb dv data a3 _ HM4.out.rd).mono ?_;rintro e w9 ⟨td,a4,hp,rfl,h1,h2⟩;have HP4:=aa hp
   have HM5:=aa (HM4.out.call h1 h2);have ck:=HM5.out.cell 3;have fk:=HM5.out.free 3;simp only[eB]at ck;clear hp h1 h2;go_wp2_with fail;obtain⟨dt,hkv⟩: ∃ix:Int,ix=wrap64 (td:Int):=⟨_,rfl⟩;rw[<-hkv];have Hdt:=aa hkv;clear hkv;obtain⟨w10,hw4⟩: ∃wx:World,wx=w9.setCell ⟨w4.heap.size,3,none⟩ (.int .i64 dt):=⟨_,rfl⟩;rw[<-hw4];have m4:=HM5.out.set 3 (.int .i64 dt)
   rw[<-hw4]at m4;simp only[List.setIfInBounds_toArray,List.set_cons_succ,List.set_cons_zero]at m4;have HM6:=aa m4;clear m4 hw4 ck fk HM4 HM5;refine(mF rb dv data a4 _ HM6.out.rd).mono ?_;rintro e w11 ⟨sd,a5,hp,rfl,h1,h2⟩;have HP5:=aa hp;have HM7:=aa (HM6.out.call h1 h2);have ck:=HM7.out.cell 4;have fk:=HM7.out.free 4;simp only[eB]at ck;clear hp h1 h2;go_wp2_with fail
   obtain⟨sv,hkv⟩: ∃ix:Int,ix=wrap64 (sd:Int):=⟨_,rfl⟩;rw[<-hkv];have Hsv:=aa hkv;clear hkv;obtain⟨w12,hw4⟩: ∃wx:World,wx=w11.setCell ⟨w4.heap.size,4,none⟩ (.int .i64 sv):=⟨_,rfl⟩;rw[<-hw4];have m4:=HM7.out.set 4 (.int .i64 sv);rw[<-hw4]at m4;simp only[List.setIfInBounds_toArray,List.set_cons_succ,List.set_cons_zero]at m4;have HM8:=aa m4;clear m4 hw4 ck fk HM6 HM7
   refine(Cc rb dv data a5 512 _ HM8.out.rd (by omega)).mono ?_;rintro e w13 ⟨lk,a6,hp,rfl,h1,h2⟩;have hlkl:lk.length<=512:=by have:=xU data 512 a5; rw[hp]at this; exact this
   have HP6:=aa hp;have HM9:=aa (HM8.out.call h1 h2);have ck:=HM9.out.cell 5;have fk:=HM9.out.free 5;simp only[eB]at ck;clear hp h1 h2;go_wp2_with fail;obtain⟨w14,hw4⟩: ∃wx:World,wx=w13.setCell ⟨w4.heap.size,5,none⟩ (.string ⟨lk.toArray⟩):=⟨_,rfl⟩;rw[<-hw4];have m4:=HM9.out.set 5 (.string ⟨lk.toArray⟩);rw[<-hw4]at m4;simp only[List.setIfInBounds_toArray,List.set_cons_succ,List.set_cons_zero]at m4
   have HMA:=aa m4;clear m4 hw4 ck fk HM8 HM9;refine(xt rb dv data a6 1048576 _ HMA.out.rd (by omega)).mono ?_;rintro e w15 ⟨n2,a7,hp,rfl,h1,h2⟩;have hn2:n2<=1048576:=by have:=AD data 1048576 a6; rw[hp]at this; exact this
   have HP7:=aa hp;have HMB:=aa (HMA.out.call h1 h2);clear hp h1 h2 HMA;go_wp2_with fail;refine(Be rb dv data a7 _ HMB.out.rd).mono ?_;rintro e w16 ⟨lf,hlf,hlf2,rfl,hbl⟩;have HLF:=aa hlf;have HMC:=aa (HMB.out.below hbl);clear hlf hbl HMB;have HFH:=aa (oA HP1.out HP2.out HP3.out HP4.out HP5.out HP6.out HP7.out)
   by_cases hbig:lf/33<n2
   ·have HDN:=aa (yo HT.out HCN.out (tK HIT.out (HFH.out.trans (vL (show(data.length-a7.off)/33<n2 by rw[<-HLF.out]; exact hbig))) hlt));have HIC:=aa (HINV.out.call HMC.out.rd HMC.out.grown);have r0:=ah (k:=0) HIC.out.res;have r1:=ah (k:=1) HIC.out.res;simp only[List.getElem?_toArray,ci]at r0 r1;have q0:World.frozen? w16 ⟨w.heap.size,0,none⟩=false:=aG (k:=0) HIC.out.res
    have q1:World.frozen? w16 ⟨w.heap.size,1,none⟩=false:=aG (k:=1) HIC.out.res;go_wp2_with fail;refine nE (e7:= .int .i64 3) HIC.out.res rfl rfl rfl ?_;exact jy HDN.out (rQ HIC.out.below (Nat.le_refl _) HIC.out.below.size)
   ·have HNB:=aa hbig;have hn3:n2<=1000:=by omega
    go_wp2_with fail;clear hbig;obtain⟨wo,hwo⟩: ∃wo:World,wo=wr:=⟨_,rfl⟩;subst hwo
    go_loopw [52] (fun i wq=> ∃(j:Nat) (ps:List bd) (a8:RS) (pv:Value),j<=n2/\i= .int .i64 j/\ps.length=j/\dF data a7 j=(ps,a8)/\dI rb w4.heap.size wo wq dv data a8 #[.string ⟨nm.toArray⟩, .int .i64 kv, .int .i64 mv, .int .i64 dt, .int .i64 sv, .string ⟨lk.toArray⟩,pv]/\wq.ownsRow (w4.heap.size+1) 62 2 pv j (aV ps)/\ ∀p∈ps,de p) (fun i _=>n2-(intOf i).toNat)
    case atStart=>exact⟨0,[],a7, .slice none 0 0,Nat.zero_le _,rfl,rfl,rfl,HMC.out,World.ownsRow_nil _ _ _ _,by simp⟩
    case round=>
     obtain⟨j,ps,a8,pv,hj,rfl,hlj,hch,hmid,how,hpok⟩:=hrel;have HLJ:=aa hlj;have HCH:=aa hch;have HMQ:=aa hmid;have HOQ:=aa how;have HPO:=aa hpok;obtain⟨a66,c6,hv6,hvn6,hvm6⟩:=ak how;subst hv6;clear hlj hch hmid how hpok
     by_cases hlt2:j<n2
     ·go_wp2_with fail;refine(EU rb dv data a8 _ HMQ.out.rd).mono ?_;rintro e wa ⟨bs,a9,hp,rfl,h1,h2⟩;have hbsl:bs.length<=32:=by have:=DL data a8; rw[hp]at this; exact this
      have HP8:=aa hp;have HMR:=aa (HMQ.out.call h1 h2);have HOR:=aa (HOQ.out.kept h2 (.inr (by
       intro e;have:=(HOQ.out.lt _ e).1;have:=HMQ.out.ge;have:=HMQ.out.lt
       omega)))
      clear hp h1 h2;have ck:=HMR.out.cell 6;have fk:=HMR.out.free 6;simp only[eB]at ck;go_wp2_with fail;refine cA (fun w'=>w'.cell? ⟨w4.heap.size,6,none⟩=some (.slice a66 j c6)) (by kernel_rfl) (by kernel_rfl) ?_;simp only[List.dropLast_cons_cons,List.dropLast_singleton,List.length_cons,List.length_nil,Nat.reduceAdd,Nat.reduceSub];have HMD:=aa (HMR.out.below ((Below.refl _ _).drew))
      refine ab 0 rfl (by kernel_rfl) (by kernel_rfl) (by kernel_rfl) (fun _ _ _ h=>h) rfl (by go_simp) (by intro w' hw'; go_simp; rfl) ?_;simp only[Act.put,aD,aE,aF];refine ab 1 rfl (by kernel_rfl) (by kernel_rfl) (by kernel_rfl) (fun _ _ _ h=>h) rfl (by go_simp) (by intro w' hw'; go_simp; rfl) ?_;simp only[Act.put,aD,aE,aF];refine ab 2 rfl (by kernel_rfl) (by kernel_rfl) (by kernel_rfl) (fun _ _ _ h=>h) rfl (by go_simp) (by intro w' hw'; go_simp; rfl) ?_
      simp only[Act.put,aD,aE,aF];refine ab 3 rfl (by kernel_rfl) (by kernel_rfl) (by kernel_rfl) (fun _ _ _ h=>h) rfl (by go_simp) (by intro w' hw'; go_simp; rfl) ?_;simp only[Act.put,aD,aE,aF];refine ax 4 rfl (by kernel_rfl) rfl (fun K hK=> ?_);go_wp2_with (go_at_call 49; refine(mF rb dv data a9 _ HMD.out.rd).mono ?_; rintro e wb ⟨zd,a10,hp,rfl,h1,h2⟩);have HP9:=aa hp
      have HMS:=aa (HMD.out.call h1 h2);have HOS:=aa (HOR.out.kept (aN (b:=wa.drew) ⟨rfl,rfl,rfl,Nat.le_refl _,fun _ _ _=>rfl⟩ h2) (.inr (by
       intro e;have:=(HOR.out.lt _ e).1;have:=HMQ.out.ge;have:=HMQ.out.lt
       omega)))
      have ck2:=HMS.out.cell 6;have fk2:=HMS.out.free 6;have hbz2:w4.heap.size+1<=wb.heap.size:=(Array.getElem?_eq_some_iff.1 HMS.out.box).1;simp only[eB]at ck2;clear hp h1 h2 ck fk HMR HMD;refine⟨ck2, ?_⟩;refine ab 5 rfl (by kernel_rfl) (by kernel_rfl) (by kernel_rfl) (fun _ _ _ h=>h) rfl (by go_simp) (by intro w' hw'; go_simp; rfl) ?_;simp only[Act.put,aD,aE,aF];obtain⟨zv,hzv⟩: ∃ix:Int,ix=IntKind.i64.wrap (zd:Int):=⟨_,rfl⟩
      rw[<-hzv];have HZV:=aa (show zv=lX zd from hzv.trans (Ce zd));clear hzv;refine ab 6 rfl (by kernel_rfl) (by kernel_rfl) (by kernel_rfl) (fun _ _ _ h=>h) rfl (by go_simp) (by intro w' hw'; go_simp; rfl) ?_;simp only[Act.put,aD,aE,aF];have HMT:=aa (HMS.out.below ((Below.refl _ _).alloc (Nat.le_refl _) (.cells #[.string ⟨bs.toArray⟩, .int .i64 zv] 62)));have ck3:=HMT.out.cell 6
      simp only[eB]at ck3;refine ax 7 rfl (by kernel_rfl) rfl (fun K hK=> ?_);go_wp2_with fail
      (first | (refine⟨ck3, ?_⟩) | skip)
      refine ax 8 rfl (by kernel_rfl) rfl (fun K hK=> ?_);go_wp2_with (at_builtin; go_must (refine bK Tryz.appParts rfl _ _ rfl (w4.heap.size+1) (.slice a66 j c6) j (aV ps) rfl wb [.string ⟨bs.toArray⟩, .int .i64 zv] _ rfl rfl (ms (p:=⟨⟨bs.toArray⟩,zv⟩)) HOS.out (by omega) hbz2 ?_); intro v' wc hown' hgrow' _ hpl; obtain⟨ae,ce,rfl,-,-⟩:=ak hown');have HMW:=aa (HMS.out.app hgrow' (fun k hk=>by have:=(HOS.out.lt k hk).1; omega))
      have HOW:=aa (show wc.ownsRow (w4.heap.size+1) 62 2 (.slice ae (j+1) ce) (j+1) (aV (ps++[⟨⟨bs.toArray⟩,zv⟩])) by
       have h3:aV (ps++[⟨⟨bs.toArray⟩,zv⟩])=aV ps++[.string ⟨bs.toArray⟩, .int .i64 zv]:=by simp[aV,lI]
       rw[h3];exact hown')
      have ck4:=HMW.out.cell 6;have fk4:=HMW.out.free 6;simp only[eB]at ck4;clear hown' hgrow' hpl ck2 ck3 fk2 HMT HMS HOS HOQ HOR HMQ;refine⟨ck4, ?_⟩;refine ab 9 rfl (by kernel_rfl) (by kernel_rfl) (by kernel_rfl) (fun _ _ _ h=>h) rfl (by go_simp) (by intro w' hw'; go_simp; rfl) ?_;simp only[Act.put,aD,aE,aF];refine bh (by kernel_rfl) ?_;refine cL rfl rfl (fun K hK=> ?_)
      go_wp2_with fail
      go_roundw
      case rel=>
       have m4:=HMW.out.set 6 (.slice ae (j+1) ce);simp only[List.setIfInBounds_toArray,List.set_cons_succ,List.set_cons_zero]at m4;refine⟨j+1,ps++[⟨⟨bs.toArray⟩,zv⟩],a10, .slice ae (j+1) ce,by omega,by go_num,by simp[HLJ.out], ?_,m4,HOW.out.kept (aB _ _ _ _) (.inr (by
        intro e;have:=(HOW.out.lt _ e).1
        omega)), ?_⟩
       ·rw[HZV.out];exact uq HCH.out HP8.out HP9.out
       ·intro p hp
        rcases List.mem_append.1 hp with hp | hp
        ·exact HPO.out p hp
        ·rw[List.mem_singleton]at hp;subst hp;exact⟨by show ByteArray.size ⟨_⟩<=_; unfold maxLen; simp[ByteArray.size]; omega,by show(Lit.int .i64 zv).wf=true; rw[HZV.out]; exact sH _⟩
      case measure=>simp[intOf]; omega
     ·obtain rfl:j=n2:=by omega
      have HFD:=aa (show gO data s=some (⟨⟨nm.toArray⟩,kv,mv,dt,sv,⟨lk.toArray⟩,ps⟩,a8) by
       rw[HFH.out,Hkv.out,Hmv.out,Hdt.out,Hsv.out];exact vM (by rw[<-HLF.out]; exact HNB.out) HCH.out)
      have HFO:=aa (show cQ ⟨⟨nm.toArray⟩,kv,mv,dt,sv,⟨lk.toArray⟩,ps⟩from⟨by show ByteArray.size ⟨_⟩<=_; unfold maxLen; simp[ByteArray.size]; omega,by show ByteArray.size ⟨_⟩<=_; unfold maxLen; simp[ByteArray.size]; omega,
       by show(Lit.int .i64 kv).wf=true; rw[Hkv.out]; exact wrap64_wf _,by show(Lit.int .i64 mv).wf=true; rw[Hmv.out]; exact wrap64_wf _,by show(Lit.int .i64 dt).wf=true; rw[Hdt.out]; exact wrap64_wf _,by show(Lit.int .i64 sv).wf=true; rw[Hsv.out]; exact wrap64_wf _⟩)
      have HZQ:=aa (show wr.ownsRow (xb+1) 27 7 (.slice av k cv0) k (cD zs)from bm HZR.out (fun i hi hv=>HMQ.out.grown.block i hi (fun e=>by
       have:=(HZR.out.lt i hv).1
       cases e
       have:=HMQ.out.lt;have:=aQ.lt HRD1.out
       omega)))
      have HIC:=aa (HINV.out.call HMQ.out.rd HMQ.out.grown);have HXI:=aa (tJ HIT.out HFD.out);have d0:=HMQ.out.cell 0;have d1:=HMQ.out.cell 1;have d2:=HMQ.out.cell 2;have d3:=HMQ.out.cell 3;have d4:=HMQ.out.cell 4;have d5:=HMQ.out.cell 5;have d6:=HMQ.out.cell 6;simp only[eB]at d0 d1 d2 d3 d4 d5 d6;have y1:=ah (k:=1) HIC.out.box;simp only[List.getElem?_toArray,ci]at y1
      have hbz:xb+1<=wr.heap.size:=lt_of_block HIC.out.box;have hkb:k<4096:=by omega
      go_wp2_with (at_builtin; go_must (refine bK Tryz.appFiles rfl _ _ rfl (xb+1) (.slice av k cv0) k (cD zs) rfl wr [.string ⟨nm.toArray⟩, .int .i64 kv, .int .i64 mv, .int .i64 dt, .int .i64 sv, .string ⟨lk.toArray⟩, .slice a66 j c6] _ rfl rfl (gk (f:=⟨⟨nm.toArray⟩,kv,mv,dt,sv,⟨lk.toArray⟩,ps⟩)) HZQ.out (by omega) hbz ?_); intro v' we hown' hgrow' _ hpl; obtain⟨ae,ce,rfl,-,-⟩:=ak hown'; have HWN:=aa hown'; have HGW:=aa hgrow'; have HPL:=aa hpl; have HYE:=aa ((hgrow'.block xb (by omega) (fun e=>by have:=(HZQ.out.lt xb e.symm).1; omega)).trans HIC.out.box); have z1:=ah (k:=1) HYE.out; simp only[List.getElem?_toArray,ci]at z1; have zf:=aG (k:=1) HYE.out; clear hown' hgrow' hpl)
      go_roundw
      case rel=>
       refine⟨k+1,l++[⟨⟨nm.toArray⟩,kv,mv,dt,sv,⟨lk.toArray⟩,ps⟩],a8, .slice ae (k+1) ce,by omega,by go_num,by simp[HLK.out],HXI.out, ?_⟩;have hzl2:zs.length=k:=hzl;refine HINV.out.next (f:=⟨⟨nm.toArray⟩,kv,mv,dt,sv,⟨lk.toArray⟩,ps⟩) (pv:= .slice a66 j c6) HMQ.out HZS.out (by rw[hzl2]; exact HZR.out) HZD.out ?_ HFO.out HPO.out (by rw[hzl2]; exact HWN.out) HGW.out HPL.out
       have h3:=HOQ.out;rw[<-HLJ.out]at h3;exact bP (by rw[HLJ.out]at h3 ⊢; exact h3) (by have:=HMQ.out.ge; omega)
      case measure=>simp[intOf]; omega
  ·obtain rfl:k=n:=by omega
   have HDS:=aa (yp HT.out HCN.out HIT.out);go_wp2_with fail;refine(CR rb dv data s _ HRD.out).mono ?_;rintro e we ⟨rfl,nd,hwe⟩;have HIC:=aa (HINV.out.into (show Below wr.heap.size wr we by rw[hwe]; exact bS (Below.refl _ _) nd));clear hwe;obtain⟨ev,hev⟩: ∃ev:Int,ev=ou data s:=⟨_,rfl⟩;rw[<-hev];have HEV:=aa hev;clear hev;have y0:=ah (k:=0) HIC.out.box
   have y1:=ah (k:=1) HIC.out.box;simp only[List.getElem?_toArray,ci]at y0 y1;have r0:=ah (k:=0) HIC.out.res;have r1:=ah (k:=1) HIC.out.res;simp only[List.getElem?_toArray,ci]at r0 r1;have q0:World.frozen? we ⟨w.heap.size,0,none⟩=false:=aG (k:=0) HIC.out.res;have q1:World.frozen? we ⟨w.heap.size,1,none⟩=false:=aG (k:=1) HIC.out.res
   by_cases h0:ev=0
   ·subst h0;have HFA:=aa HIC.out.own.at
    cases hvn2:di ⟨tv,l⟩
    ·have HVN:=aa hvn2;have HDN:=aa (show jx data=none by
      rw[HDS.out,if_neg];intro h9;have h8:=h9.2;rw[<-HTV.out,hvn2]at h8
      cases h8)
     clear hvn2;go_wp2_with fail;refine(eF _ ⟨tv,l⟩ _ false _ HFA.out (HE.out.below HIC.out.below) HVN.out).mono ?_;rintro e wf ⟨rfl,hbf⟩;have HID:=aa (HIC.out.into hbf);clear hbf r0 r1 q0 q1;have r0:=ah (k:=0) HID.out.res;have r1:=ah (k:=1) HID.out.res;simp only[List.getElem?_toArray,ci]at r0 r1;have q0:World.frozen? wf ⟨w.heap.size,0,none⟩=false:=aG (k:=0) HID.out.res
     have q1:World.frozen? wf ⟨w.heap.size,1,none⟩=false:=aG (k:=1) HID.out.res;go_wp2_with fail;refine nE (e7:= .int .i64 3) HID.out.res rfl rfl rfl ?_;exact jy HDN.out (rQ HID.out.below (Nat.le_refl _) HID.out.below.size)
    ·have HVN:=aa hvn2;have HDN:=aa (show jx data=some ⟨tv,l⟩ by
      rw[HDS.out,if_pos]
      ·rw[HTV.out]
      ·rw[<-HTV.out]; exact⟨HEV.out.symm,hvn2⟩)
     clear hvn2;go_wp2_with fail;refine(eF _ ⟨tv,l⟩ _ true _ HFA.out (HE.out.below HIC.out.below) HVN.out).mono ?_;rintro e wf ⟨rfl,hbf⟩;have HID:=aa (HIC.out.into hbf);clear hbf r0 r1 q0 q1 y0 y1;have r0:=ah (k:=0) HID.out.res;have r1:=ah (k:=1) HID.out.res;simp only[List.getElem?_toArray,ci]at r0 r1;have q0:World.frozen? wf ⟨w.heap.size,0,none⟩=false:=aG (k:=0) HID.out.res
     have q1:World.frozen? wf ⟨w.heap.size,1,none⟩=false:=aG (k:=1) HID.out.res;have y0:=ah (k:=0) HID.out.box;have y1:=ah (k:=1) HID.out.box;simp only[List.getElem?_toArray,ci]at y0 y1;go_wp2_with fail;refine nE (e7:= .int .i64 0) HID.out.res rfl rfl rfl ?_;refine tq HDN.out (rQ HID.out.below (Nat.le_refl _) HID.out.below.size) ?_;have hxw:w.heap.size<xb:=by have:=aQ.lt HRD1.out; omega
     exact((HID.out.own.same (w':=(wf.setCell ⟨w.heap.size,0,none⟩ (.int .i64 tv)).setCell ⟨w.heap.size,1,none⟩ (.slice av k cv0)) (fun i cs t hi hB hc ht=>(Below.heap_setCell _ _ _ _ (by show i≠w.heap.size; omega)).trans (Below.heap_setCell _ _ _ _ (by show i≠w.heap.size; omega)))).le (by omega)).at
   ·have HDN:=aa (show jx data=none by
     rw[HDS.out,if_neg];intro h9;exact h0 (HEV.out.trans h9.1))
    have e6:(ev != 0)=true:=by simp[h0]
    clear h0;go_wp2_with fail;refine nE (e7:= .int .i64 3) HIC.out.res rfl rfl rfl ?_;exact jy HDN.out (rQ HIC.out.below (Nat.le_refl _) HIC.out.below.size)
end Go.Proofs.YtnjkpcalgoefhaaGreatDoor
namespace Go.Proofs.YtnjkpcalgoefhaaGreatDoor
open Go.RowKit
def jw :eE:=⟨4,8,4,20,0⟩
theorem ly :eT jw=true:=by decide
def Aa (l:List UInt8):ByteArray:=⟨l.toArray⟩
def CS :bu:=⟨Aa [100],2,0,0,[],Aa []⟩
def mR (d:List UInt8):bu:=⟨Aa [100,47,102],1,0,5,d,Aa []⟩
def dP (d:List UInt8):List bu:=[CS,mR d]
def cG (ps:List bd):List al:=[⟨Aa [100],2,0,0,0,Aa [],[]⟩,⟨Aa [100,47,102],1,0,5,3,Aa [],ps⟩]
theorem tn :cg jw [97,98,99]=[[97,98,99]]:=by decide+kernel
theorem jR (d:List UInt8) (h:d=[97,98,99]\/d=[97,98,100]):bZ (dP d)=0:=by
 rcases h with rfl | rfl<;> decide+kernel
theorem fm :cz []=([],0,0):=by kernel_rfl
theorem xD (T:List bu):cW [] T=T:=by
 have h: ∀(f n:Nat) (d:Bool) (p:List (List UInt8)),cB d p [] f n=false:=by
  intro f
  induction f with
  | zero=>intros; rfl
  | succ f ih=>intro n d p; simp[cB,eX,ih]
 unfold cW;rw[List.filter_eq_self];intro e _;unfold pV dq
 split
 ·rfl
 ·simp[aW,h]
def Ec :aU:=⟨[100],false,true,false⟩
theorem xM :cz [100,47]=([Ec],0,0):=by kernel_rfl
theorem EM (d:List UInt8) (h:d=[97,98,100]):cW [Ec] (dP d)=[]:=by
 subst h; decide+kernel
theorem Ed :eQ ⟨0,[]⟩ 10 (dP [97,98,99]) [] jw= .ok ⟨⟨10,cG [bF [97,98,99]]⟩,[(Aa [100],1),(Aa [100,47,102],1)],[[97,98,99]],1,0⟩:=by
 unfold eQ;rw[if_pos ⟨by decide+kernel,by decide,ly⟩,if_pos (by rw[fm]),if_pos (jR _ (.inl rfl)),fm,xD];have hk:re 0 [] (mR [97,98,99])=true:=rfl;have hd: ∀d,re 0 [] CS=false/\pD 0 [] CS=false/\pD 0 [] (mR d)=false:=fun d=>⟨rfl,rfl,rfl⟩
 have h1:dA 0 [] jw (dP [97,98,99])=⟨cG [bF [97,98,99]],[jh [97,98,99]],[[97,98,99]],1,0⟩:=by
  have e1:dN 0 [] jw (mR [97,98,99])=[bF [97,98,99]]:=by
   rw[oZ hk]
   show(cg jw [97,98,99]).map bF=_
   rw[tn]; rfl
  have e2:(dP [97,98,99]).filter (re 0 [])=[mR [97,98,99]]:=rfl;have e3:(dP [97,98,99]).filter (pD 0 [])=[]:=rfl;unfold dA;rw[e2,e3];have e4:(dP [97,98,99]).map (eW 0 [] jw)=cG [bF [97,98,99]]:=by
   unfold dP;simp only[List.map_cons,List.map_nil];unfold eW;rw[e1]; rfl
  rw[e4];simp only[List.flatMap_cons,List.flatMap_nil,List.append_nil];rw[show cg jw (mR [97,98,99]).data=[[97,98,99]]from tn]
  rfl
 rw[h1]
 generalize [bF [97,98,99]]=ps
 rfl
theorem xC :di ⟨10,cG [bF [97,98,99]]⟩=true:=by
 have h:=Ep (rules:=[]) (T:=dP [97,98,99]) (prev:=⟨0,[]⟩) (tm:=10) (c:=jw) fm (jR _ (.inl rfl)) (by decide+kernel) (by decide) ly;have h2:=Ed;unfold eQ at h2;rw[if_pos ⟨by decide+kernel,by decide,ly⟩,if_pos (by rw[fm]),if_pos (jR _ (.inl rfl)),fm]at h2;have h3:(dA 0 [] jw (cW [] (dP [97,98,99]))).files=cG [bF [97,98,99]]:=by
  have:=Except.ok.inj h2;exact congrArg (fun r=>r.idx.files) this
 have h4:(cW [] (dP [97,98,99])).map (eW 0 [] jw)=cG [bF [97,98,99]]:=h3;rw[<-h4]; exact h
theorem EQ :eQ ⟨10,cG [bF [97,98,99]]⟩ 20 (dP [97,98,100]) [] jw= .ok ⟨⟨20,cG [bF [97,98,99]]⟩,[],[],0,1⟩:=by
 have hi:=xC
 revert hi
 generalize [bF [97,98,99]]=ps
 intro hi;unfold eQ;rw[if_pos ⟨hi,show(10:Int)<=20 by decide,ly⟩,if_pos (by rw[fm]),if_pos (jR _ (.inr rfl)),fm,xD];have e4:(dP [97,98,100]).map (eW 10 (cG ps) jw)=cG ps:=rfl;have e2:(dP [97,98,100]).filter (re 10 (cG ps))=[]:=rfl;have e3:((dP [97,98,100]).filter (pD 10 (cG ps))).length=1:=rfl;unfold dA
 simp only;rw[e2,e3,e4,show pO (cG ps) (cG ps)=[]from te _ _]
 rfl
theorem ER :eQ ⟨10,cG [bF [97,98,99]]⟩ 20 (dP [97,98,100]) [100,47] jw= .ok ⟨⟨20,[]⟩,[(Aa [100],4),(Aa [100,47,102],4)],[],0,0⟩:=by
 have hi:=xC
 revert hi
 generalize [bF [97,98,99]]=ps
 intro hi;unfold eQ;rw[if_pos ⟨hi,show(10:Int)<=20 by decide,ly⟩,if_pos (by rw[xM]),if_pos (jR _ (.inr rfl)),xM,EM _ rfl]
 rfl
end Go.Proofs.YtnjkpcalgoefhaaGreatDoor
