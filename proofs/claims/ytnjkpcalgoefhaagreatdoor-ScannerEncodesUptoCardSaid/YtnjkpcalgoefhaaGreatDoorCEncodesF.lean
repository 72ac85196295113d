/- Texts of this proof, one after the other: DivA, DivB, DivC, DivD, DivE, DivF, Match, Rules, Ign, Parse, ScnR, DecB, ScnA. -/
import Derived.Test.YtnjkpcalgoefhaaGreatDoorCEncodesE
set_option maxRecDepth 100000
set_option maxHeartbeats 8000000
namespace Go.Proofs.YtnjkpcalgoefhaaGreatDoor
open Go.RowKit
def yG (f B:Nat):Value:= .func (.func f) #[] #[.pointer (some ⟨B+1,0,none⟩), .pointer (some ⟨B+5,0,none⟩), .pointer (some ⟨B,0,none⟩), .pointer (some ⟨B+2,0,none⟩), .pointer (some ⟨B+3,0,none⟩), .pointer (some ⟨B+6,0,none⟩)]
structure fW (w0 : World) (B N f : Nat) (pv tv sv mv : Value) (tr : List Bool) (w : World) : Prop where
 c0:w.cell? ⟨B,0,none⟩=some pv
 c1:w.cell? ⟨B+1,0,none⟩=some tv
 c2:w.cell? ⟨B+2,0,none⟩=some sv
 c3:w.cell? ⟨B+3,0,none⟩=some mv
 c5:w.cell? ⟨B+5,0,none⟩=some (.slice (some ⟨B+4,0,none⟩) N N)
 c6:w.cell? ⟨B+6,0,none⟩=some (.func (.func f) #[] #[.pointer (some ⟨B+1,0,none⟩), .pointer (some ⟨B+5,0,none⟩), .pointer (some ⟨B,0,none⟩), .pointer (some ⟨B+2,0,none⟩), .pointer (some ⟨B+3,0,none⟩), .pointer (some ⟨B+6,0,none⟩)])
 row:w.heap[B+4]? =some (.cells (tr.map Value.bool).toArray 4 (0,0))
 len:tr.length=N
 lt:B+6<w.heap.size
 below:Below B w0 w
theorem fW.grown {w0:World} {B N f:Nat} {pv tv sv mv:Value} {tr:List Bool} {w w':World} (h:fW w0 B N f pv tv sv mv tr w) (hb:Below w.heap.size w w'):fW w0 B N f pv tv sv mv tr w':=by
 obtain⟨c0,c1,c2,c3,c5,c6,hr,hl,hlt,hbl⟩:=h;refine⟨(hb.cell (aE c0)).trans c0,(hb.cell (aE c1)).trans c1,(hb.cell (aE c2)).trans c2,(hb.cell (aE c3)).trans c3,(hb.cell (aE c5)).trans c5,(hb.cell (aE c6)).trans c6, ?_,hl,Nat.lt_of_lt_of_le hlt hb.size,hbl.trans (hb.mono (by omega))⟩;rw[hb.block _ (by omega)]; exact hr
theorem fW.cell {w0:World} {B N f:Nat} {pv tv sv mv:Value} {tr:List Bool} {w:World} (h:fW w0 B N f pv tv sv mv tr w) {q:Nat} {b:Bool} (hq:tr[q]? =some b):w.cell? ⟨B+4,q,none⟩=some (.bool b):=by
 rw[ah h.row]; simp[hq]
theorem fW.free {w0:World} {B N f:Nat} {pv tv sv mv:Value} {tr:List Bool} {w:World} (h:fW w0 B N f pv tv sv mv tr w) (q:Nat):w.frozen? ⟨B+4,q,none⟩=false:=am h.row
theorem fW.mark {w0:World} {B N f:Nat} {pv tv sv mv:Value} {tr:List Bool} {w:World} (h:fW w0 B N f pv tv sv mv tr w) (q:Nat):fW w0 B N f pv tv sv mv (tr.set q true) (w.setCell ⟨B+4,q,none⟩ (.bool true)):=by
 obtain⟨c0,c1,c2,c3,c5,c6,hr,hl,hlt,hbl⟩:=h;have hc: ∀k,k≠B+4->(w.setCell ⟨B+4,q,none⟩ (.bool true)).cell? ⟨k,0,none⟩=w.cell? ⟨k,0,none⟩:=fun k hk=>World.cell?_of_block (w:=w) (a:=⟨k,0,none⟩) (Below.heap_setCell _ _ _ _ hk)
 refine⟨(hc _ (by omega)).trans c0,(hc _ (by omega)).trans c1,(hc _ (by omega)).trans c2,(hc _ (by omega)).trans c3,(hc _ (by omega)).trans c5,(hc _ (by omega)).trans c6, ?_,by simp[hl],by simp[World.setCell]; exact hlt,hbl.setCell (by simp) _⟩;simp only[World.setCell,Array.getElem?_modify,if_true,hr,Option.map_some];simp[List.map_set]
def ft {P T:Type} (star:P->Bool) (M:P->T->Bool) (ps:List P) (ts:List T) (i:Nat) (tr:List Bool):Prop:=
 ∀i' j',i<=i'->i'<=ps.length->j'<=ts.length->tr[i'*(ts.length+1)+j']? =some true->dv star M (ps.drop i') (ts.drop j')=false
section
variable {P T : Type} {star : P → Bool} {M : P → T → Bool} {ps : List P} {ts : List T} {i j : Nat} {tr tr' : List Bool}
theorem vD (m i j n:Nat) (hi:i<=n) (hj:j<=m):i*(m+1)+j<(n+1)*(m+1):=by
 have:i*(m+1)<=n*(m+1):=Nat.mul_le_mul_right _ hi;rw[Nat.add_mul]; omega
theorem Am {m i j i' j':Nat} (hj:j<=m) (hj':j'<=m) (h:i*(m+1)+j=i'*(m+1)+j'):i=i'/\j=j':=by
 have h1:(i*(m+1)+j)/(m+1)=i:=by rw[Nat.mul_comm,Nat.mul_add_div (by omega)]; rw[Nat.div_eq_of_lt (by omega)]; omega
 have h2:(i'*(m+1)+j')/(m+1)=i':=by rw[Nat.mul_comm,Nat.mul_add_div (by omega)]; rw[Nat.div_eq_of_lt (by omega)]; omega
 have:i=i':=by rw[<-h1,<-h2,h]
 subst this;exact⟨rfl,by omega⟩
theorem ft.hit (h:ft star M ps ts i tr) (hi:i<=ps.length) (hj:j<=ts.length) (ht:tr[i*(ts.length+1)+j]? =some true):dv star M (ps.drop i) (ts.drop j)=false:=h i j (Nat.le_refl _) hi hj ht
theorem ft.up (h:ft star M ps ts i tr):ft star M ps ts (i+1) tr:=fun i' j' h1=>h i' j' (by omega)
theorem ft.marked (h:ft star M ps ts i tr) (hj:j<=ts.length):ft star M ps ts (i+1) (tr.set (i*(ts.length+1)+j) true):=by
 intro i' j' h1 h2 h3 h4;rw[List.getElem?_set_ne]at h4
 ·exact h i' j' (by omega) h2 h3 h4
 ·intro e; have:=(Am hj h3 e).1; omega
theorem ft.down (h:ft star M ps ts i tr) (h2:ft star M ps ts (i+1) tr') (hsame: ∀q,q<(i+1)*(ts.length+1)->tr'[q]? =(tr.set (i*(ts.length+1)+j) true)[q]?) (hf:dv star M (ps.drop i) (ts.drop j)=false):ft star M ps ts i tr':=by
 intro i' j' h1 h3 h4 h5
 rcases Nat.lt_or_ge i i' with h6 | h6
 ·exact h2 i' j' (by omega) h3 h4 h5
 ·obtain rfl:i'=i:=by omega
  rw[hsame _ (by rw[Nat.add_mul]; omega)]at h5
  by_cases e:j'=j
  ·rw[e]; exact hf
  ·rw[List.getElem?_set_ne]at h5
   ·exact h i' j' (Nat.le_refl _) h3 h4 h5
   ·omega
theorem Cd (hi:i=ps.length) (hj:j<=ts.length):dv star M (ps.drop i) (ts.drop j)=decide (j=ts.length):=by
 rw[hi,List.drop_length];unfold dv
 by_cases h:j=ts.length
 ·simp[h]
 ·have:ts.drop j≠[]:=by intro e; have:=List.drop_eq_nil_iff.1 e; omega
  simp[this,h]
theorem tt {p:P} (hp:ps[i]? =some p) (hs:star p=false) {t:T} (ht:ts[j]? =some t):dv star M (ps.drop i) (ts.drop j)=(M p t && dv star M (ps.drop (i+1)) (ts.drop (j+1))):=by
 obtain⟨hk,rfl⟩:=List.getElem?_eq_some_iff.1 hp;obtain⟨hk2,rfl⟩:=List.getElem?_eq_some_iff.1 ht;rw[List.drop_eq_getElem_cons hk,List.drop_eq_getElem_cons hk2,dv,hs,if_neg (by simp),uS]
theorem yE {p:P} (hp:ps[i]? =some p) (hs:star p=false) (hj:ts.length<=j):dv star M (ps.drop i) (ts.drop j)=false:=by
 obtain⟨hk,rfl⟩:=List.getElem?_eq_some_iff.1 hp;rw[List.drop_eq_getElem_cons hk,List.drop_eq_nil_of_le hj,dv,hs,if_neg (by simp),uS]
theorem yF {p:P} (hp:ps[i]? =some p) (hs:star p=true):dv star M (ps.drop i) (ts.drop j)=gL (dv star M (ps.drop (i+1))) (ts.drop j):=by
 obtain⟨hk,rfl⟩:=List.getElem?_eq_some_iff.1 hp;rw[List.drop_eq_getElem_cons hk,dv,if_pos hs]
theorem ij (f:List T->Bool) (hj:j<ts.length):gL f (ts.drop j)=(f (ts.drop j) || gL f (ts.drop (j+1))):=by
 rw[List.drop_eq_getElem_cons hj,gL]
theorem iW (f:List T->Bool) (hj:j=ts.length):gL f (ts.drop j)=f (ts.drop j):=by
 rw[hj,List.drop_length]; rfl
end
def sU {P T:Type} (star:P->Bool) (M:P->T->Bool) (ps:List P) (ts:List T) (i j:Nat) (w0:World) (B N f:Nat) (pv tv sv mv:Value) (tr:List Bool) (e:Ending) (w':World):Prop:=
 ∃tr',e= .returned (.bool (dv star M (ps.drop i) (ts.drop j)))/\fW w0 B N f pv tv sv mv tr' w'/\(dv star M (ps.drop i) (ts.drop j)=false->ft star M ps ts i tr')/\ ∀q,q<i*(ts.length+1)->tr'[q]? =tr[q]?
def yn {P T:Type} (star:P->Bool) (M:P->T->Bool) (ps:List P) (ts:List T) (i:Nat) (w0:World) (B N f:Nat) (pv tv sv mv:Value):Prop:=
 ∀(ii jj:Int) (j:Nat) (w:World) (tr:List Bool),ii=i->jj=j->j<=ts.length->fW w0 B N f pv tv sv mv tr w->ft star M ps ts i tr->
  Calls Tryz.prog f #[.int .i64 ii, .int .i64 jj, .pointer (some ⟨B+1,0,none⟩), .pointer (some ⟨B+5,0,none⟩), .pointer (some ⟨B,0,none⟩), .pointer (some ⟨B+2,0,none⟩), .pointer (some ⟨B+3,0,none⟩), .pointer (some ⟨B+6,0,none⟩)] w
   (sU star M ps ts i j w0 B N f pv tv sv mv tr)
theorem dy {w0 W:World} {B:Nat} (hb:Below B w0 W) (hB:w0.heap.size=B) {a:Addr} {u:Value} (h:w0.cell? a=some u):W.cell? a=some u:=
 (hb.cell (by have:=aE h; omega)).trans h
theorem pA (ps:List bL) (ts:List Int) (S:Nat->Prop) (w0:World) (B:Nat) (pv tv:Value) (hB:w0.heap.size=B) (hp:dg S w0 pv ps) (htv:aS S w0 1 tv ts.length (ts.map (Value.int .i32)))
  (hn:ps.length<=65536) (hm:ts.length<=65536) (i j:Nat) (w:World) (tr:List Bool) (hi:i<=ps.length) (hj:j<=ts.length)
  (IH:i<ps.length->yn bL.star ex ps ts (i+1) w0 B ((ps.length+1)*(ts.length+1)) 171 pv tv (.func (.func 142) #[] #[]) (.func (.func 143) #[] #[]))
  (hst:fW w0 B ((ps.length+1)*(ts.length+1)) 171 pv tv (.func (.func 142) #[] #[]) (.func (.func 143) #[] #[]) tr w) (hinv:ft bL.star ex ps ts i tr):
  Calls Tryz.prog 171 #[.int .i64 i, .int .i64 j, .pointer (some ⟨B+1,0,none⟩), .pointer (some ⟨B+5,0,none⟩), .pointer (some ⟨B,0,none⟩), .pointer (some ⟨B+2,0,none⟩), .pointer (some ⟨B+3,0,none⟩), .pointer (some ⟨B+6,0,none⟩)] w
   (sU bL.star ex ps ts i j w0 B ((ps.length+1)*(ts.length+1)) 171 pv tv (.func (.func 142) #[] #[]) (.func (.func 143) #[] #[]) tr):=by
 obtain⟨pa,pc,rfl,hpc,hpm,hpx⟩:=hp.shape iG.len;obtain⟨_,ta,tc,rfl,htc,htm,ht0⟩:=htv;unfold maxLen at hpm htm;obtain⟨c0,c1,c2,c3,c5,c6,-,hlen,-,-⟩:=id hst;have HST:=ab hst;have HINV:=ab hinv;have HIH:=ab IH;clear IH;have HPX:=ab hpx;have HT0:=ab ht0;have HLEN:=ab hlen;have hpS:=hp;have HPS:=ab hpS;clear hst hinv hpx ht0 hlen hp hpS;obtain⟨N,hN⟩: ∃N:Nat,N=(ps.length+1)*(ts.length+1):=⟨_,rfl⟩
 have hpN:i*(ts.length+1)+j<N:=by rw[hN]; exact vD _ _ _ _ hi hj
 have hNb:N<=4295098369:=by
  have h1:(ps.length+1)*(ts.length+1)<=65537*65537:=Nat.mul_le_mul (by omega) (by omega);omega
 have hX:(i:Int)*((ts.length:Int)+1)=((i*(ts.length+1):Nat):Int):=by simp
 have hb1:0<=(i:Int)*((ts.length:Int)+1):=by rw[hX]; omega
 have hb2:(i:Int)*((ts.length:Int)+1)<=4295098369:=by rw[hX]; omega
 have hb3:(i:Int)*((ts.length:Int)+1)+(j:Int)<(N:Int):=by rw[hX]; omega
 obtain⟨b0,hq⟩: ∃b,tr[i*(ts.length+1)+j]? =some b:=⟨tr[i*(ts.length+1)+j]'(by rw[HLEN.out,<-hN]; exact hpN),by simp⟩;have HQ:=ab hq;have c4:=HST.out.cell hq;have f4:=HST.out.free (i*(ts.length+1)+j);rw[<-hN]at c5 HST HIH ⊢;have HN:=ab hN;clear hN hq HLEN hX
 cases b0 with
 | true=>
  go_enter Tryz.func171,Tryz.ntmps171
  go_wp2_with fail;go_ret;have hf:dv bL.star ex (ps.drop i) (ts.drop j)=false:=HINV.out.hit hi hj HQ.out;exact⟨tr,by rw[hf]; rfl,HST.out,fun _=>HINV.out,fun _ _=>rfl⟩
 | false=>
  have hst1:=HST.out.mark (i*(ts.length+1)+j);have HST1:=ab hst1;have HINV1:=ab (HINV.out.marked (j:=j) hj);obtain⟨d0,d1,d2,d3,d5,d6,-,-,-,-⟩:=hst1
  by_cases hin:i=ps.length
  ·have e1:((i:Int) == (ps.length:Int))=true:=by rw[hin]; simp
   have HIN:=ab hin;clear hin
   go_enter Tryz.func171,Tryz.ntmps171
   go_wp2_with fail;go_ret;have hdv:=Cd (star:=bL.star) (M:=ex) HIN.out hj;refine⟨tr.set (i*(ts.length+1)+j) true, ?_,HST1.out,fun hf=>HINV.out.down HINV1.out (fun q' _=>rfl) hf,fun q' hq'=> ?_⟩
   ·rw[hdv];exact az (by rw[Bool.eq_iff_iff]; simp; omega)
   ·rw[List.getElem?_set_ne];omega
  ·have hin':i<ps.length:=by omega
   have e1:((i:Int) == (ps.length:Int))=false:=by rw[beq_eq_false_iff_ne]; omega
   clear hin;obtain⟨it,hit⟩: ∃it,ps[i]? =some it:=⟨ps[i],by simp[hin']⟩;obtain⟨pb,po,c,rfl,hSb,⟨rv,rfl,hrv⟩,-,hcl⟩:=HPX.out i it hit;have HIT:=ab hit;have HRV:=ab hrv;have q0:=hcl 0 (by omega);have q1:=hcl 1 (by omega);have q2:=hcl 2 (by omega);have q3:=hcl 3 (by omega);simp only[Nat.add_zero,<-Nat.add_assoc,bV]at q0 q1 q2 q3;have Q0:=ab q0;have Q1:=ab q1
   have Q2:=ab q2;have Q3:=ab q3;have g0:=dy HST1.out.below hB q0;have g1:=dy HST1.out.below hB q1;have g2:=dy HST1.out.below hB q2;have g3:=dy HST1.out.below hB q3;clear hit hrv hcl q0 q1 q2 q3
   cases hs:it.star
   ·have HS:=ab hs;clear hs
    go_enter Tryz.func171,Tryz.ntmps171
    go_wp2_with fail;clear c0 c1 c2 c3 c4 c5 c6 f4
    generalize hW:w.setCell ⟨B+4,i*(ts.length+1)+j,none⟩ (.bool true)=W at *
    clear hW hb1 hb2 hb3 hpN hNb;refine aA [some 5,none,some 1] (by kernel_rfl) (by kernel_rfl) (by kernel_rfl) ?_;simp only[bz,List.take_succ_cons,List.take_zero,List.drop_succ_cons,List.drop_zero];have HST2:=ab (HST1.out.grown (Below.refl _ W).drew)
    repeat (first | (refine aD rfl ?_; simp only[Act.put,aH,aI,aJ]) | (refine aM rfl (fun K hK=> ?_); go_simp; refine hK _ ?_; clear hK K))
    refine aL ?_;clear d0 d1 d2 d3 d5 d6 g0 g1 g2 g3 HST1
    generalize W.drew=W2 at *
    refine bE rfl (fun K hK=> ?_);go_wp2_with (go_at_call 142; refine(mA it rv _).mono ?_; rintro e w3 ⟨rfl,hb3⟩; rw[HS.out]; have HST3:=ab (HST2.out.grown hb3); clear hb3 HST2)
    repeat (first | (refine aD rfl ?_; simp only[Act.put,aH,aI,aJ]) | (refine aM rfl (fun K hK=> ?_); go_simp; refine hK _ ?_; clear hK K))
    refine aL ?_;go_wp2_with fail;obtain⟨d0,d1,d2,d3,d5,d6,-,-,-,-⟩:=id HST3.out;have g0:=dy HST3.out.below hB Q0.out;have g1:=dy HST3.out.below hB Q1.out;have g2:=dy HST3.out.below hB Q2.out;have g3:=dy HST3.out.below hB Q3.out
    by_cases hjm:j<ts.length
    ·have ejm:decide ((j:Int)<(ts.length:Int))=true:=by simpa using hjm
     obtain⟨x,hx⟩: ∃x,ts[j]? =some x:=⟨ts[j],by simp[hjm]⟩;obtain⟨tb,tof,rfl,hSt,htcl⟩:=HT0.out.resolve_left (by omega);have hx3:=dy HST3.out.below hB (htcl j (.int .i32 x) (by simp[hx]));have HX:=ab hx;clear hx htcl
     cases hM:ex it x
     ·have HM:=ab hM;clear hM;have ejm2:(j:Int)<(ts.length:Int):=by omega
      refine aA [some 14,none,some 7,none,some 2] (by kernel_rfl) (by kernel_rfl) (by kernel_rfl) ?_;simp only[bz,List.take_succ_cons,List.take_zero,List.drop_succ_cons,List.drop_zero];have HST3':=ab (HST3.out.grown (Below.refl _ w3).drew)
      repeat (first | (refine aD rfl ?_; simp only[Act.put,aH,aI,aJ]) | (refine aM rfl (fun K hK=> ?_); go_simp; refine hK _ ?_; clear hK K))
      refine aL ?_;clear d0 d1 d2 d3 d5 d6 g0 g1 g2 g3 hx3;have hrv4:eH S w3.drew rv it.ranges:=aS.below HRV.out (by omega) (by have:=HST3'.out.below; rw[<-hB]at this; exact this);have HRV4:=ab hrv4;clear hrv4
      generalize w3.drew=w3d at *
      refine bE rfl (fun K hK=> ?_);go_wp2_with (go_at_call 143; refine(jz S it x rv _ HRV4.out).mono ?_; rintro e w4 ⟨rfl,hb4⟩; rw[HM.out]; have HST4:=ab (HST3'.out.grown hb4); clear hb4)
      repeat (first | (refine aD rfl ?_; simp only[Act.put,aH,aI,aJ]) | (refine aM rfl (fun K hK=> ?_); go_simp; refine hK _ ?_; clear hK K))
      refine aL ?_;refine iH rfl ?_;simp only[Act.put,aH,aI,aJ]
      repeat (first | (refine aD rfl ?_; simp only[Act.put,aH,aI,aJ]) | (refine aM rfl (fun K hK=> ?_); go_simp; refine hK _ ?_; clear hK K))
      refine aL ?_;go_wp2_with fail;go_ret;have hdv:=show dv bL.star ex (ps.drop i) (ts.drop j)=false by rw[tt HIT.out HS.out HX.out,HM.out]; rfl
      refine⟨tr.set (i*(ts.length+1)+j) true,by rw[hdv]; rfl,HST4.out,fun hf=>HINV.out.down HINV1.out (fun _ _=>rfl) hf,fun q hq=> ?_⟩;rw[List.getElem?_set_ne (by omega)]
     ·have HM:=ab hM;clear hM;have ejm2:(j:Int)<(ts.length:Int):=by omega
      refine aA [some 14,none,some 7,none,some 2] (by kernel_rfl) (by kernel_rfl) (by kernel_rfl) ?_;simp only[bz,List.take_succ_cons,List.take_zero,List.drop_succ_cons,List.drop_zero];have HST3':=ab (HST3.out.grown (Below.refl _ w3).drew)
      repeat (first | (refine aD rfl ?_; simp only[Act.put,aH,aI,aJ]) | (refine aM rfl (fun K hK=> ?_); go_simp; refine hK _ ?_; clear hK K))
      refine aL ?_;clear d0 d1 d2 d3 d5 d6 g0 g1 g2 g3 hx3;have hrv4:eH S w3.drew rv it.ranges:=aS.below HRV.out (by omega) (by have:=HST3'.out.below; rw[<-hB]at this; exact this);have HRV4:=ab hrv4;clear hrv4
      generalize w3.drew=w3d at *
      refine bE rfl (fun K hK=> ?_);go_wp2_with (go_at_call 143; refine(jz S it x rv _ HRV4.out).mono ?_; rintro e w4 ⟨rfl,hb4⟩; rw[HM.out]; have HST4:=ab (HST3'.out.grown hb4); clear hb4);have d6:=HST4.out.c6
      repeat (first | (refine aD rfl ?_; simp only[Act.put,aH,aI,aJ]) | (refine aM rfl (fun K hK=> ?_); go_simp; refine hK _ ?_; clear hK K))
      refine aL ?_;refine bE rfl (fun K hK=> ?_);go_wp2_with (go_at_call 171; refine(HIH.out hin' _ _ (j+1) w4 (tr.set (i*(ts.length+1)+j) true) (by omega) (by omega) (by omega) HST4.out HINV1.out).mono ?_; rintro e w5 ⟨tr2,rfl,hst5,hinv5,hsame5⟩; have HST5:=ab hst5; have HINV5:=ab hinv5; have HSM5:=ab hsame5; clear hst5 hinv5 hsame5)
      repeat (first | (refine aD rfl ?_; simp only[Act.put,aH,aI,aJ]) | (refine aM rfl (fun K hK=> ?_); go_simp; refine hK _ ?_; clear hK K))
      refine aL ?_;go_wp2_with fail;go_ret;have hdv:dv bL.star ex (ps.drop i) (ts.drop j)=dv bL.star ex (ps.drop (i+1)) (ts.drop (j+1)):=by rw[tt HIT.out HS.out HX.out,HM.out]; rfl
      refine⟨tr2,by rw[hdv]; rfl,HST5.out,fun hf=>HINV.out.down (HINV5.out (by rw[<-hdv]; exact hf)) (fun q hq=>HSM5.out q hq) hf,fun q hq=> ?_⟩;rw[HSM5.out q (by rw[Nat.add_mul]; omega),List.getElem?_set_ne (by omega)]
    ·have ejm:decide ((j:Int)<(ts.length:Int))=false:=by simpa using hjm
     go_quiet (fail)
     go_wp2_with fail;go_ret;have HST4:=ab (HST3.out.grown (cu (Below.refl _ w3) nq));have hdv:=show dv bL.star ex (ps.drop i) (ts.drop j)=false from yE HIT.out HS.out (by omega);refine⟨tr.set (i*(ts.length+1)+j) true,by rw[hdv]; rfl,HST4.out,fun hf=>HINV.out.down HINV1.out (fun _ _=>rfl) hf,fun q hq=> ?_⟩;rw[List.getElem?_set_ne (by omega)]
   ·have HS:=ab hs;clear hs
    go_enter Tryz.func171,Tryz.ntmps171
    go_wp2_with fail;clear c0 c1 c2 c3 c4 c5 c6 f4
    generalize hW:w.setCell ⟨B+4,i*(ts.length+1)+j,none⟩ (.bool true)=W at *
    clear hW hb1 hb2 hb3 hpN hNb;refine aA [some 5,none,some 1] (by kernel_rfl) (by kernel_rfl) (by kernel_rfl) ?_;simp only[bz,List.take_succ_cons,List.take_zero,List.drop_succ_cons,List.drop_zero];have HST2:=ab (HST1.out.grown (Below.refl _ W).drew)
    repeat (first | (refine aD rfl ?_; simp only[Act.put,aH,aI,aJ]) | (refine aM rfl (fun K hK=> ?_); go_simp; refine hK _ ?_; clear hK K))
    refine aL ?_;clear d0 d1 d2 d3 d5 d6 g0 g1 g2 g3 HST1
    generalize W.drew=W2 at *
    refine bE rfl (fun K hK=> ?_);go_wp2_with (go_at_call 142; refine(mA it rv _).mono ?_; rintro e w3 ⟨rfl,hb3⟩; rw[HS.out]; have HST3:=ab (HST2.out.grown hb3); clear hb3 HST2)
    repeat (first | (refine aD rfl ?_; simp only[Act.put,aH,aI,aJ]) | (refine aM rfl (fun K hK=> ?_); go_simp; refine hK _ ?_; clear hK K))
    refine aL ?_;go_wp2_with fail
    go_loopw [12] (fun en wr=> ∃(k:Nat) (tr':List Bool),j<=k/\k<=ts.length+1/\en= .int .i64 k/\fW w0 B N 171 (.slice (some ⟨pb,po,none⟩) ps.length pc) (.slice ta ts.length tc) (.func (.func 142) #[] #[]) (.func (.func 143) #[] #[]) tr' wr/\
      ft bL.star ex ps ts (i+1) tr'/\(∀q,q<(i+1)*(ts.length+1)->tr'[q]? =(tr.set (i*(ts.length+1)+j) true)[q]?)/\dv bL.star ex (ps.drop i) (ts.drop j)=(decide (k<=ts.length) && gL (dv bL.star ex (ps.drop (i+1))) (ts.drop k))) (fun en _=>ts.length+1-(intOf en).toNat)
    case atStart=>exact⟨j,_,Nat.le_refl _,by omega,rfl,HST3.out,HINV1.out,fun _ _=>rfl,by rw[yF HIT.out HS.out]; simp[hj]⟩
    case round=>
     obtain⟨k,tr',hjk,hk,rfl,hst4,hinv4,hsm4,hdv4⟩:=hrel;have HST4:=ab hst4;have HINV4:=ab hinv4;have HSM4:=ab hsm4;have HDV4:=ab hdv4;obtain⟨d0,d1,d2,d3,d5,d6,-,-,-,-⟩:=hst4;clear hinv4 hsm4 hdv4
     by_cases hkm:k<=ts.length
     ·cases hdvk:dv bL.star ex (ps.drop (i+1)) (ts.drop k)
      ·have HDVK:=ab hdvk;clear hdvk;go_wp2_with (go_at_call 171; refine(HIH.out hin' _ _ k wr tr' (by omega) (by omega) (by omega) HST4.out HINV4.out).mono ?_; rintro e w5 ⟨tr2,rfl,hst5,hinv5,hsame5⟩; rw[HDVK.out]; have HST5:=ab hst5; have HINV5:=ab hinv5; have HSM5:=ab hsame5; clear hst5 hinv5 hsame5)
       go_roundw
       case rel=>
        refine⟨k+1,tr2,by omega,by omega,by go_num,HST5.out,HINV5.out HDVK.out,fun q hq=>(HSM5.out q hq).trans (HSM4.out q hq), ?_⟩;rw[HDV4.out]
        by_cases hlt:k<ts.length
        ·rw[ij _ hlt,HDVK.out]; simp[hkm,show k+1<=ts.length by omega]
        ·rw[iW _ (show k=ts.length by omega),HDVK.out]; simp[show ¬k+1<=ts.length by omega]
       case measure=>simp[intOf]; omega
      ·have HDVK:=ab hdvk;clear hdvk;go_wp2_with (go_at_call 171; refine(HIH.out hin' _ _ k wr tr' (by omega) (by omega) (by omega) HST4.out HINV4.out).mono ?_; rintro e w5 ⟨tr2,rfl,hst5,hinv5,hsame5⟩; rw[HDVK.out]; have HST5:=ab hst5; have HINV5:=ab hinv5; have HSM5:=ab hsame5; clear hst5 hinv5 hsame5);go_ret;have hdv:dv bL.star ex (ps.drop i) (ts.drop j)=true:=by
        rw[HDV4.out]
        by_cases hlt:k<ts.length
        ·rw[ij _ hlt,HDVK.out]; simp[hkm]
        ·rw[iW _ (show k=ts.length by omega),HDVK.out]; simp[hkm]
       refine⟨tr2,by rw[hdv]; rfl,HST5.out,(fun hf=>by rw[hdv]at hf; cases hf),fun q hq=> ?_⟩;rw[HSM5.out q (by rw[Nat.add_mul]; omega),HSM4.out q (by rw[Nat.add_mul]; omega),List.getElem?_set_ne (by omega)]
     ·go_wp2_with fail;go_ret;have hdv:dv bL.star ex (ps.drop i) (ts.drop j)=false:=by rw[HDV4.out]; simp[hkm]
      refine⟨tr',by rw[hdv]; rfl,HST4.out,fun hf=>HINV.out.down HINV4.out HSM4.out hf,fun q hq=> ?_⟩;rw[HSM4.out q (by rw[Nat.add_mul]; omega),List.getElem?_set_ne (by omega)]
theorem Fw (ps:List bL) (ts:List Int) (S:Nat->Prop) (w0:World) (B:Nat) (pv tv:Value) (hB:w0.heap.size=B) (hp:dg S w0 pv ps) (htv:aS S w0 1 tv ts.length (ts.map (Value.int .i32)))
  (hn:ps.length<=65536) (hm:ts.length<=65536): ∀(d i:Nat),ps.length-i=d->i<=ps.length->yn bL.star ex ps ts i w0 B ((ps.length+1)*(ts.length+1)) 171 pv tv (.func (.func 142) #[] #[]) (.func (.func 143) #[] #[])
 | 0,i,hd,hi=>by
  intro ii jj j w tr h1 h2 hj hst hinv;subst h1 h2;exact pA ps ts S w0 B pv tv hB hp htv hn hm i j w tr hi hj (fun h=>by omega) hst hinv
 | d+1,i,hd,hi=>by
  intro ii jj j w tr h1 h2 hj hst hinv;subst h1 h2;exact pA ps ts S w0 B pv tv hB hp htv hn hm i j w tr hi hj (fun h=>Fw ps ts S w0 B pv tv hB hp htv hn hm d (i+1) (by omega) (by omega)) hst hinv
theorem yl (n:Nat):lA [Value.bool false] n=(List.replicate n false).map Value.bool:=by
 induction n with
 | zero=>rfl
 | succ n ih=>rw[eT,ih,List.replicate_succ]; rfl
theorem Es (w:World) (os:List Obj): ∀(k:Nat) (o:Obj),os[k]? =some o->(os.foldl World.alloc w).heap[w.heap.size+k]? =some o:=by
 induction os generalizing w with
 | nil=>intro k o h; simp at h
 | cons p os ih=>
  intro k o h
  cases k with
  | zero=>
   simp at h; subst h;have hb: ∀(l:List Obj) (v:World),Below v.heap.size v (l.foldl World.alloc v):=by
    intro l
    induction l with
    | nil=>intro v; exact Below.refl _ _
    | cons q l ih2=>intro v; exact ak ((Below.refl _ _).alloc (Nat.le_refl _) q) (ih2 (v.alloc q))
   rw[Nat.add_zero,List.foldl_cons,(hb os (w.alloc p)).block _ (by simp)];exact heap_alloc_new w p
  | succ k=>
   have:=ih (w.alloc p) k o (by simpa using h);rw[List.foldl_cons,show w.heap.size+(k+1)=(w.alloc p).heap.size+k by simp; omega];exact this
theorem tf (l:List Obj): ∀v:World,Below v.heap.size v (l.foldl World.alloc v):=by
 induction l with
 | nil=>intro v; exact Below.refl _ _
 | cons q l ih2=>intro v; exact ak ((Below.refl _ _).alloc (Nat.le_refl _) q) (ih2 (v.alloc q))
theorem vT (l:List Obj): ∀v:World,(l.foldl World.alloc v).heap.size=v.heap.size+l.length:=by
 induction l with
 | nil=>intro v; rfl
 | cons q l ih2=>intro v; rw[List.foldl_cons,ih2]; simp; omega
theorem nH (w:World) (pv tv sv mv:Value) (N f t0 t1 t2 t3 t5 t6:Nat):
  fW w w.heap.size N f pv tv sv mv (List.replicate N false) (((((((w.alloc (.cells #[pv] t0)).alloc (.cells #[tv] t1)).alloc (.cells #[sv] t2)).alloc (.cells #[mv] t3)).alloc (.cells (made [.bool false] N) 4)).alloc (.cells #[.slice (some ⟨w.heap.size+4,0,none⟩) N N] t5)).alloc (.cells #[yG f w.heap.size] t6)):=by
 have e:(((((((w.alloc (.cells #[pv] t0)).alloc (.cells #[tv] t1)).alloc (.cells #[sv] t2)).alloc (.cells #[mv] t3)).alloc (.cells (made [.bool false] N) 4)).alloc (.cells #[.slice (some ⟨w.heap.size+4,0,none⟩) N N] t5)).alloc (.cells #[yG f w.heap.size] t6))=
  [Obj.cells #[pv] t0, .cells #[tv] t1, .cells #[sv] t2, .cells #[mv] t3, .cells (made [.bool false] N) 4, .cells #[.slice (some ⟨w.heap.size+4,0,none⟩) N N] t5, .cells #[yG f w.heap.size] t6].foldl World.alloc w:=rfl
 rw[e];have H:=Es w [Obj.cells #[pv] t0, .cells #[tv] t1, .cells #[sv] t2, .cells #[mv] t3, .cells (made [.bool false] N) 4, .cells #[.slice (some ⟨w.heap.size+4,0,none⟩) N N] t5, .cells #[yG f w.heap.size] t6];refine⟨?_, ?_, ?_, ?_, ?_, ?_, ?_,by simp,by rw[vT]; simp,tf _ _⟩
 ·exact(ah (j:=0) (show _=some (Obj.cells #[pv] t0 (0,0))from H 0 _ rfl)).trans rfl
 ·rw[ah (H 1 _ rfl)]; rfl
 ·rw[ah (H 2 _ rfl)]; rfl
 ·rw[ah (H 3 _ rfl)]; rfl
 ·rw[ah (H 5 _ rfl)]; rfl
 ·rw[ah (H 6 _ rfl)]; rfl
 ·rw[H 4 _ rfl,made,yl]
theorem uy (ps:List bL) (ts:List Int) (S:Nat->Prop) (w:World) (pv tv:Value) (hp:dg S w pv ps) (htv:aS S w 1 tv ts.length (ts.map (Value.int .i32))) (hn:ps.length<=65536) (hm:ts.length<=65536):
  Calls Tryz.prog 141 #[pv,tv, .func (.func 142) #[] #[], .func (.func 143) #[] #[]] w fun e w'=>e= .returned (.bool (dv bL.star ex ps ts))/\Below w.heap.size w w':=by
 obtain⟨pa,pc,rfl,-,-,-⟩:=hp.shape iG.len;obtain⟨_,ta,tc,rfl,-⟩:=id htv;have HF:=ab (Fw ps ts S w w.heap.size _ _ rfl hp htv hn hm ps.length 0 rfl (Nat.zero_le _));clear hp htv;have hN:(ps.length+1)*(ts.length+1)<=65537*65537:=Nat.mul_le_mul (by omega) (by omega);have hX:((ps.length:Int)+1)*((ts.length:Int)+1)=(((ps.length+1)*(ts.length+1):Nat):Int):=by simp
 have hb1:0<=((ps.length:Int)+1)*((ts.length:Int)+1):=by rw[hX]; omega
 have hb2:((ps.length:Int)+1)*((ts.length:Int)+1)<=4295098369:=by rw[hX]; omega
 have hmk:=mI (P:=Tryz.prog) (t:=203) (e:=4) (z:= .bool false) ((ps.length+1)*(ts.length+1)) [.bool false] Tryz.underlying203 (bytes:=1) (sz:=1) (by kernel_rfl) rfl rfl (by omega) (by omega) (by omega);rw[<-hX]at hmk;clear hX hN
 go_enter Tryz.func141,Tryz.ntmps141
 go_wp2_with fail;refine(HF.out 0 0 0 _ (List.replicate ((ps.length+1)*(ts.length+1)) false) rfl rfl (Nat.zero_le _) (nH w _ _ _ _ _ _ _ _ _ _ _ _) ?_).mono ?_
 ·intro i' j' _ _ _ h;rw[List.getElem?_replicate]at h
  split at h<;> simp at h
 ·rintro e w1 ⟨tr',rfl,hst,-,-⟩;go_wp2_with fail;go_ret;exact⟨rfl,hst.below⟩
theorem AG {w:World} {x:ByteArray} {cap:Nat} (hc:(bt (bl x)).length<=cap) (hm:cap<=maxLen) (zs:List Value):
  aS (fun _=>True) (w.alloc (.cells (((bt (bl x)).map (Value.int .i32))++zs).toArray 21)).drew 1 (.slice (some ⟨w.heap.size,0,none⟩) (bt (bl x)).length cap) (bt (bl x)).length ((bt (bl x)).map (Value.int .i32)):=by
 refine⟨by simp,_,cap,rfl,hc,hm, .inr ⟨w.heap.size,0,rfl,trivial,fun j u hj=> ?_⟩⟩;have h1:=heap_alloc_new w (.cells (((bt (bl x)).map (Value.int .i32))++zs).toArray 21);have h2:(w.alloc (.cells (((bt (bl x)).map (Value.int .i32))++zs).toArray 21)).drew.heap[w.heap.size]? =some (.cells (((bt (bl x)).map (Value.int .i32))++zs).toArray 21 (0,0)):=h1;rw[Nat.zero_add,ah h2,List.getElem?_toArray,List.getElem?_append_left (List.getElem?_eq_some_iff.1 hj).1]
 exact hj
theorem nZ (S:Nat->Prop) (c:aU) (v:Value) (x:ByteArray) (w:World) (hv:dg S w v c.items) (hn:c.items.length<=65536) (hx:x.size<=65536):
  Calls Tryz.prog 116 #[.agg #[.bool c.dbl,v], .string x] w fun e w'=>e= .returned (.bool (yy c (bl x)))/\Below w.heap.size w w':=by
 obtain⟨av,cv,rfl,-,-,-⟩:=hv.shape iG.len;have hrl:=eL (bl x);rw[<-ay]at hrl;have HV:=ab hv;clear hv;have hcv:=fun w=>sy (P:=Tryz.prog) (src:=9) (dst:=198) (e:=21) x Tryz.underlying9 Tryz.underlying198 Tryz.underlying21 (by omega) w
 go_enter Tryz.func116,Tryz.ntmps116
 go_wp2_with fail;clear hcv;have hsz:w.heap.size+1=(w.alloc (.cells #[.bool c.dbl, .slice av c.items.length cv] 184)).heap.size:=by simp
 have hba:Below w.heap.size w (w.alloc (.cells #[.bool c.dbl, .slice av c.items.length cv] 184)):=(Below.refl _ _).alloc (Nat.le_refl _) _;rw[hsz]
 generalize w.alloc (.cells #[.bool c.dbl, .slice av c.items.length cv] 184)=wa at *
 have hcg:=grownCap_ge wa (bt (bl x)).length 0 21;have hcm:=grownCap_le_maxLen wa (bt (bl x)).length 0 21 (by unfold maxLen; omega);have hrow:=AG (w:=wa) hcg hcm (List.replicate (grownCap wa (bt (bl x)).length 0 21-(bt (bl x)).length) (Value.int .i32 0));have hbb:Below w.heap.size w (wa.alloc (.cells (((bt (bl x)).map (Value.int .i32))++List.replicate (grownCap wa (bt (bl x)).length 0 21-(bt (bl x)).length) (Value.int .i32 0)).toArray 21)).drew:=(hba.alloc (by omega) _).drew
 generalize grownCap wa (bt (bl x)).length 0 21=cp at *
 generalize (wa.alloc (.cells (((bt (bl x)).map (Value.int .i32))++List.replicate (cp-(bt (bl x)).length) (Value.int .i32 0)).toArray 21)).drew=wb at *
 have hit:dg (fun _=>True) wb (.slice av c.items.length cv) c.items:=dg.move HV.out (fun k hk _=>⟨trivial,hbb.block k hk⟩);refine(uy c.items (bt (bl x)) (fun _=>True) wb _ _ hit hrow hn (by omega)).mono ?_;rintro e w1 ⟨rfl,hb1⟩;have HB1:=ab hb1;clear hb1;go_wp2_with fail;go_ret;exact⟨rfl,ak hbb HB1.out⟩
def dI (c:aU) (x:ByteArray):Bool:=yy c (bl x)
theorem lc (S:Nat->Prop) (c:aU) (v:Value) (x:ByteArray) (w:World) (hv:dg S w v c.items) (hn:c.items.length<=65536) (hx:x.size<=65536):
  Calls Tryz.prog 116 #[.agg #[.bool c.dbl,v], .string x] w fun e w'=>e= .returned (.bool (dI c x))/\Below w.heap.size w w':=nZ S c v x w hv hn hx
theorem pB (ps:List aU) (ts:List ByteArray) (S:Nat->Prop) (w0:World) (B:Nat) (pv tv:Value) (hB:w0.heap.size=B) (hp:dN S w0 pv ps) (htv:aS S w0 1 tv ts.length (ts.map Value.string))
  (hn:ps.length<=65536) (hm:ts.length<=65536) (hps: ∀c∈ps,c.items.length<=65536) (hts: ∀x∈ts,x.size<=65536) (i j:Nat) (w:World) (tr:List Bool) (hi:i<=ps.length) (hj:j<=ts.length)
  (IH:i<ps.length->yn aU.dbl dI ps ts (i+1) w0 B ((ps.length+1)*(ts.length+1)) 140 pv tv (.func (.func 115) #[] #[]) (.func (.func 116) #[] #[]))
  (hst:fW w0 B ((ps.length+1)*(ts.length+1)) 140 pv tv (.func (.func 115) #[] #[]) (.func (.func 116) #[] #[]) tr w) (hinv:ft aU.dbl dI ps ts i tr):
  Calls Tryz.prog 140 #[.int .i64 i, .int .i64 j, .pointer (some ⟨B+1,0,none⟩), .pointer (some ⟨B+5,0,none⟩), .pointer (some ⟨B,0,none⟩), .pointer (some ⟨B+2,0,none⟩), .pointer (some ⟨B+3,0,none⟩), .pointer (some ⟨B+6,0,none⟩)] w
   (sU aU.dbl dI ps ts i j w0 B ((ps.length+1)*(ts.length+1)) 140 pv tv (.func (.func 115) #[] #[]) (.func (.func 116) #[] #[]) tr):=by
 obtain⟨pa,pc,rfl,hpc,hpm,hpx⟩:=hp.shape fV.len;obtain⟨_,ta,tc,rfl,htc,htm,ht0⟩:=htv;unfold maxLen at hpm htm;obtain⟨c0,c1,c2,c3,c5,c6,-,hlen,-,-⟩:=id hst;have HST:=ab hst;have HINV:=ab hinv;have HIH:=ab IH;clear IH;have HPX:=ab hpx;have HT0:=ab ht0;have HLEN:=ab hlen;have hpS:=hp;have HPS:=ab hpS;have HPZ:=ab hps;have HTZ:=ab hts;clear hps hts
 clear hst hinv hpx ht0 hlen hp hpS;obtain⟨N,hN⟩: ∃N:Nat,N=(ps.length+1)*(ts.length+1):=⟨_,rfl⟩;have hpN:i*(ts.length+1)+j<N:=by rw[hN]; exact vD _ _ _ _ hi hj
 have hNb:N<=4295098369:=by
  have h1:(ps.length+1)*(ts.length+1)<=65537*65537:=Nat.mul_le_mul (by omega) (by omega);omega
 have hX:(i:Int)*((ts.length:Int)+1)=((i*(ts.length+1):Nat):Int):=by simp
 have hb1:0<=(i:Int)*((ts.length:Int)+1):=by rw[hX]; omega
 have hb2:(i:Int)*((ts.length:Int)+1)<=4295098369:=by rw[hX]; omega
 have hb3:(i:Int)*((ts.length:Int)+1)+(j:Int)<(N:Int):=by rw[hX]; omega
 obtain⟨b0,hq⟩: ∃b,tr[i*(ts.length+1)+j]? =some b:=⟨tr[i*(ts.length+1)+j]'(by rw[HLEN.out,<-hN]; exact hpN),by simp⟩;have HQ:=ab hq;have c4:=HST.out.cell hq;have f4:=HST.out.free (i*(ts.length+1)+j);rw[<-hN]at c5 HST HIH ⊢;have HN:=ab hN;clear hN hq HLEN hX
 cases b0 with
 | true=>
  go_enter Tryz.func140,Tryz.ntmps140
  go_wp2_with fail;go_ret;have hf:dv aU.dbl dI (ps.drop i) (ts.drop j)=false:=HINV.out.hit hi hj HQ.out;exact⟨tr,by rw[hf]; rfl,HST.out,fun _=>HINV.out,fun _ _=>rfl⟩
 | false=>
  have hst1:=HST.out.mark (i*(ts.length+1)+j);have HST1:=ab hst1;have HINV1:=ab (HINV.out.marked (j:=j) hj);obtain⟨d0,d1,d2,d3,d5,d6,-,-,-,-⟩:=hst1
  by_cases hin:i=ps.length
  ·have e1:((i:Int) == (ps.length:Int))=true:=by rw[hin]; simp
   have HIN:=ab hin;clear hin
   go_enter Tryz.func140,Tryz.ntmps140
   go_wp2_with fail;go_ret;have hdv:=Cd (star:=aU.dbl) (M:=dI) HIN.out hj;refine⟨tr.set (i*(ts.length+1)+j) true, ?_,HST1.out,fun hf=>HINV.out.down HINV1.out (fun q' _=>rfl) hf,fun q' hq'=> ?_⟩
   ·rw[hdv];exact az (by rw[Bool.eq_iff_iff]; simp; omega)
   ·rw[List.getElem?_set_ne];omega
  ·have hin':i<ps.length:=by omega
   have e1:((i:Int) == (ps.length:Int))=false:=by rw[beq_eq_false_iff_ne]; omega
   clear hin;obtain⟨it,hit⟩: ∃it,ps[i]? =some it:=⟨ps[i],by simp[hin']⟩;obtain⟨pb,po,c,rfl,hSb,⟨rv,rfl,hrv⟩,-,hcl⟩:=HPX.out i it hit;have HIT:=ab hit;have HRV:=ab hrv;have q0:=hcl 0 (by omega);have q1:=hcl 1 (by omega);simp only[Nat.add_zero,<-Nat.add_assoc,bV]at q0 q1;have Q0:=ab q0;have Q1:=ab q1;have g0:=dy HST1.out.below hB q0;have g1:=dy HST1.out.below hB q1
   clear hit hrv hcl q0 q1
   cases hs:it.dbl
   ·have HS:=ab hs;clear hs
    go_enter Tryz.func140,Tryz.ntmps140
    go_wp2_with fail;clear c0 c1 c2 c3 c4 c5 c6 f4
    generalize hW:w.setCell ⟨B+4,i*(ts.length+1)+j,none⟩ (.bool true)=W at *
    clear hW hb1 hb2 hb3 hpN hNb;refine aA [some 5,none,some 1] (by kernel_rfl) (by kernel_rfl) (by kernel_rfl) ?_;simp only[bz,List.take_succ_cons,List.take_zero,List.drop_succ_cons,List.drop_zero];have HST2:=ab (HST1.out.grown (Below.refl _ W).drew)
    repeat (first | (refine aD rfl ?_; simp only[Act.put,aH,aI,aJ]) | (refine aM rfl (fun K hK=> ?_); go_simp; refine hK _ ?_; clear hK K))
    refine aL ?_;clear d0 d1 d2 d3 d5 d6 g0 g1 HST1
    generalize W.drew=W2 at *
    refine bE rfl (fun K hK=> ?_);go_wp2_with (go_at_call 115; refine(nF it rv _).mono ?_; rintro e w3 ⟨rfl,hb3⟩; rw[HS.out]; have HST3:=ab (HST2.out.grown hb3); clear hb3 HST2)
    repeat (first | (refine aD rfl ?_; simp only[Act.put,aH,aI,aJ]) | (refine aM rfl (fun K hK=> ?_); go_simp; refine hK _ ?_; clear hK K))
    refine aL ?_;go_wp2_with fail;obtain⟨d0,d1,d2,d3,d5,d6,-,-,-,-⟩:=id HST3.out;have g0:=dy HST3.out.below hB Q0.out;have g1:=dy HST3.out.below hB Q1.out
    by_cases hjm:j<ts.length
    ·have ejm:decide ((j:Int)<(ts.length:Int))=true:=by simpa using hjm
     obtain⟨x,hx⟩: ∃x,ts[j]? =some x:=⟨ts[j],by simp[hjm]⟩;obtain⟨tb,tof,rfl,hSt,htcl⟩:=HT0.out.resolve_left (by omega);have hx3:=dy HST3.out.below hB (htcl j (.string x) (by simp[hx]));have HX:=ab hx;clear hx htcl
     cases hM:dI it x
     ·have HM:=ab hM;clear hM;have ejm2:(j:Int)<(ts.length:Int):=by omega
      refine aA [some 14,none,some 7,none,some 2] (by kernel_rfl) (by kernel_rfl) (by kernel_rfl) ?_;simp only[bz,List.take_succ_cons,List.take_zero,List.drop_succ_cons,List.drop_zero];have HST3':=ab (HST3.out.grown (Below.refl _ w3).drew)
      repeat (first | (refine aD rfl ?_; simp only[Act.put,aH,aI,aJ]) | (refine aM rfl (fun K hK=> ?_); go_simp; refine hK _ ?_; clear hK K))
      refine aL ?_;clear d0 d1 d2 d3 d5 d6 g0 g1 hx3;have hrv4:dg S w3.drew rv it.items:=dg.move HRV.out (fun k hk h=>⟨h,HST3'.out.below.block k (by omega)⟩);have HRV4:=ab hrv4;clear hrv4
      generalize w3.drew=w3d at *
      refine bE rfl (fun K hK=> ?_);go_wp2_with (go_at_call 116; refine(lc S it rv x _ HRV4.out (HPZ.out it (List.mem_of_getElem? HIT.out)) (HTZ.out x (List.mem_of_getElem? HX.out))).mono ?_; rintro e w4 ⟨rfl,hb4⟩; rw[HM.out]; have HST4:=ab (HST3'.out.grown hb4); clear hb4)
      repeat (first | (refine aD rfl ?_; simp only[Act.put,aH,aI,aJ]) | (refine aM rfl (fun K hK=> ?_); go_simp; refine hK _ ?_; clear hK K))
      refine aL ?_;refine iH rfl ?_;simp only[Act.put,aH,aI,aJ]
      repeat (first | (refine aD rfl ?_; simp only[Act.put,aH,aI,aJ]) | (refine aM rfl (fun K hK=> ?_); go_simp; refine hK _ ?_; clear hK K))
      refine aL ?_;go_wp2_with fail;go_ret;have hdv:=show dv aU.dbl dI (ps.drop i) (ts.drop j)=false by rw[tt HIT.out HS.out HX.out,HM.out]; rfl
      refine⟨tr.set (i*(ts.length+1)+j) true,by rw[hdv]; rfl,HST4.out,fun hf=>HINV.out.down HINV1.out (fun _ _=>rfl) hf,fun q hq=> ?_⟩;rw[List.getElem?_set_ne (by omega)]
     ·have HM:=ab hM;clear hM;have ejm2:(j:Int)<(ts.length:Int):=by omega
      refine aA [some 14,none,some 7,none,some 2] (by kernel_rfl) (by kernel_rfl) (by kernel_rfl) ?_;simp only[bz,List.take_succ_cons,List.take_zero,List.drop_succ_cons,List.drop_zero];have HST3':=ab (HST3.out.grown (Below.refl _ w3).drew)
      repeat (first | (refine aD rfl ?_; simp only[Act.put,aH,aI,aJ]) | (refine aM rfl (fun K hK=> ?_); go_simp; refine hK _ ?_; clear hK K))
      refine aL ?_;clear d0 d1 d2 d3 d5 d6 g0 g1 hx3;have hrv4:dg S w3.drew rv it.items:=dg.move HRV.out (fun k hk h=>⟨h,HST3'.out.below.block k (by omega)⟩);have HRV4:=ab hrv4;clear hrv4
      generalize w3.drew=w3d at *
      refine bE rfl (fun K hK=> ?_);go_wp2_with (go_at_call 116; refine(lc S it rv x _ HRV4.out (HPZ.out it (List.mem_of_getElem? HIT.out)) (HTZ.out x (List.mem_of_getElem? HX.out))).mono ?_; rintro e w4 ⟨rfl,hb4⟩; rw[HM.out]; have HST4:=ab (HST3'.out.grown hb4); clear hb4);have d6:=HST4.out.c6
      repeat (first | (refine aD rfl ?_; simp only[Act.put,aH,aI,aJ]) | (refine aM rfl (fun K hK=> ?_); go_simp; refine hK _ ?_; clear hK K))
      refine aL ?_;refine bE rfl (fun K hK=> ?_);go_wp2_with (go_at_call 140; refine(HIH.out hin' _ _ (j+1) w4 (tr.set (i*(ts.length+1)+j) true) (by omega) (by omega) (by omega) HST4.out HINV1.out).mono ?_; rintro e w5 ⟨tr2,rfl,hst5,hinv5,hsame5⟩; have HST5:=ab hst5; have HINV5:=ab hinv5; have HSM5:=ab hsame5; clear hst5 hinv5 hsame5)
      repeat (first | (refine aD rfl ?_; simp only[Act.put,aH,aI,aJ]) | (refine aM rfl (fun K hK=> ?_); go_simp; refine hK _ ?_; clear hK K))
      refine aL ?_;go_wp2_with fail;go_ret;have hdv:dv aU.dbl dI (ps.drop i) (ts.drop j)=dv aU.dbl dI (ps.drop (i+1)) (ts.drop (j+1)):=by rw[tt HIT.out HS.out HX.out,HM.out]; rfl
      refine⟨tr2,by rw[hdv]; rfl,HST5.out,fun hf=>HINV.out.down (HINV5.out (by rw[<-hdv]; exact hf)) (fun q hq=>HSM5.out q hq) hf,fun q hq=> ?_⟩;rw[HSM5.out q (by rw[Nat.add_mul]; omega),List.getElem?_set_ne (by omega)]
    ·have ejm:decide ((j:Int)<(ts.length:Int))=false:=by simpa using hjm
     go_quiet (fail)
     go_wp2_with fail;go_ret;have HST4:=ab (HST3.out.grown (cu (Below.refl _ w3) nq));have hdv:=show dv aU.dbl dI (ps.drop i) (ts.drop j)=false from yE HIT.out HS.out (by omega);refine⟨tr.set (i*(ts.length+1)+j) true,by rw[hdv]; rfl,HST4.out,fun hf=>HINV.out.down HINV1.out (fun _ _=>rfl) hf,fun q hq=> ?_⟩;rw[List.getElem?_set_ne (by omega)]
   ·have HS:=ab hs;clear hs
    go_enter Tryz.func140,Tryz.ntmps140
    go_wp2_with fail;clear c0 c1 c2 c3 c4 c5 c6 f4
    generalize hW:w.setCell ⟨B+4,i*(ts.length+1)+j,none⟩ (.bool true)=W at *
    clear hW hb1 hb2 hb3 hpN hNb;refine aA [some 5,none,some 1] (by kernel_rfl) (by kernel_rfl) (by kernel_rfl) ?_;simp only[bz,List.take_succ_cons,List.take_zero,List.drop_succ_cons,List.drop_zero];have HST2:=ab (HST1.out.grown (Below.refl _ W).drew)
    repeat (first | (refine aD rfl ?_; simp only[Act.put,aH,aI,aJ]) | (refine aM rfl (fun K hK=> ?_); go_simp; refine hK _ ?_; clear hK K))
    refine aL ?_;clear d0 d1 d2 d3 d5 d6 g0 g1 HST1
    generalize W.drew=W2 at *
    refine bE rfl (fun K hK=> ?_);go_wp2_with (go_at_call 115; refine(nF it rv _).mono ?_; rintro e w3 ⟨rfl,hb3⟩; rw[HS.out]; have HST3:=ab (HST2.out.grown hb3); clear hb3 HST2)
    repeat (first | (refine aD rfl ?_; simp only[Act.put,aH,aI,aJ]) | (refine aM rfl (fun K hK=> ?_); go_simp; refine hK _ ?_; clear hK K))
    refine aL ?_;go_wp2_with fail
    go_loopw [12] (fun en wr=> ∃(k:Nat) (tr':List Bool),j<=k/\k<=ts.length+1/\en= .int .i64 k/\fW w0 B N 140 (.slice (some ⟨pb,po,none⟩) ps.length pc) (.slice ta ts.length tc) (.func (.func 115) #[] #[]) (.func (.func 116) #[] #[]) tr' wr/\
      ft aU.dbl dI ps ts (i+1) tr'/\(∀q,q<(i+1)*(ts.length+1)->tr'[q]? =(tr.set (i*(ts.length+1)+j) true)[q]?)/\dv aU.dbl dI (ps.drop i) (ts.drop j)=(decide (k<=ts.length) && gL (dv aU.dbl dI (ps.drop (i+1))) (ts.drop k))) (fun en _=>ts.length+1-(intOf en).toNat)
    case atStart=>exact⟨j,_,Nat.le_refl _,by omega,rfl,HST3.out,HINV1.out,fun _ _=>rfl,by rw[yF HIT.out HS.out]; simp[hj]⟩
    case round=>
     obtain⟨k,tr',hjk,hk,rfl,hst4,hinv4,hsm4,hdv4⟩:=hrel;have HST4:=ab hst4;have HINV4:=ab hinv4;have HSM4:=ab hsm4;have HDV4:=ab hdv4;obtain⟨d0,d1,d2,d3,d5,d6,-,-,-,-⟩:=hst4;clear hinv4 hsm4 hdv4
     by_cases hkm:k<=ts.length
     ·cases hdvk:dv aU.dbl dI (ps.drop (i+1)) (ts.drop k)
      ·have HDVK:=ab hdvk;clear hdvk;go_wp2_with (go_at_call 140; refine(HIH.out hin' _ _ k wr tr' (by omega) (by omega) (by omega) HST4.out HINV4.out).mono ?_; rintro e w5 ⟨tr2,rfl,hst5,hinv5,hsame5⟩; rw[HDVK.out]; have HST5:=ab hst5; have HINV5:=ab hinv5; have HSM5:=ab hsame5; clear hst5 hinv5 hsame5)
       go_roundw
       case rel=>
        refine⟨k+1,tr2,by omega,by omega,by go_num,HST5.out,HINV5.out HDVK.out,fun q hq=>(HSM5.out q hq).trans (HSM4.out q hq), ?_⟩;rw[HDV4.out]
        by_cases hlt:k<ts.length
        ·rw[ij _ hlt,HDVK.out]; simp[hkm,show k+1<=ts.length by omega]
        ·rw[iW _ (show k=ts.length by omega),HDVK.out]; simp[show ¬k+1<=ts.length by omega]
       case measure=>simp[intOf]; omega
      ·have HDVK:=ab hdvk;clear hdvk;go_wp2_with (go_at_call 140; refine(HIH.out hin' _ _ k wr tr' (by omega) (by omega) (by omega) HST4.out HINV4.out).mono ?_; rintro e w5 ⟨tr2,rfl,hst5,hinv5,hsame5⟩; rw[HDVK.out]; have HST5:=ab hst5; have HINV5:=ab hinv5; have HSM5:=ab hsame5; clear hst5 hinv5 hsame5);go_ret;have hdv:dv aU.dbl dI (ps.drop i) (ts.drop j)=true:=by
        rw[HDV4.out]
        by_cases hlt:k<ts.length
        ·rw[ij _ hlt,HDVK.out]; simp[hkm]
        ·rw[iW _ (show k=ts.length by omega),HDVK.out]; simp[hkm]
       refine⟨tr2,by rw[hdv]; rfl,HST5.out,(fun hf=>by rw[hdv]at hf; cases hf),fun q hq=> ?_⟩;rw[HSM5.out q (by rw[Nat.add_mul]; omega),HSM4.out q (by rw[Nat.add_mul]; omega),List.getElem?_set_ne (by omega)]
     ·go_wp2_with fail;go_ret;have hdv:dv aU.dbl dI (ps.drop i) (ts.drop j)=false:=by rw[HDV4.out]; simp[hkm]
      refine⟨tr',by rw[hdv]; rfl,HST4.out,fun hf=>HINV.out.down HINV4.out HSM4.out hf,fun q hq=> ?_⟩;rw[HSM4.out q (by rw[Nat.add_mul]; omega),List.getElem?_set_ne (by omega)]
theorem Fx (ps:List aU) (ts:List ByteArray) (S:Nat->Prop) (w0:World) (B:Nat) (pv tv:Value) (hB:w0.heap.size=B) (hp:dN S w0 pv ps) (htv:aS S w0 1 tv ts.length (ts.map Value.string))
  (hn:ps.length<=65536) (hm:ts.length<=65536) (hps: ∀c∈ps,c.items.length<=65536) (hts: ∀x∈ts,x.size<=65536): ∀(d i:Nat),ps.length-i=d->i<=ps.length->yn aU.dbl dI ps ts i w0 B ((ps.length+1)*(ts.length+1)) 140 pv tv (.func (.func 115) #[] #[]) (.func (.func 116) #[] #[])
 | 0,i,hd,hi=>by
  intro ii jj j w tr h1 h2 hj hst hinv;subst h1 h2;exact pB ps ts S w0 B pv tv hB hp htv hn hm hps hts i j w tr hi hj (fun h=>by omega) hst hinv
 | d+1,i,hd,hi=>by
  intro ii jj j w tr h1 h2 hj hst hinv;subst h1 h2;exact pB ps ts S w0 B pv tv hB hp htv hn hm hps hts i j w tr hi hj (fun h=>Fx ps ts S w0 B pv tv hB hp htv hn hm hps hts d (i+1) (by omega) (by omega)) hst hinv
theorem uz (ps:List aU) (ts:List ByteArray) (S:Nat->Prop) (w:World) (pv tv:Value) (hp:dN S w pv ps) (htv:aS S w 1 tv ts.length (ts.map Value.string)) (hn:ps.length<=65536) (hm:ts.length<=65536) (hps: ∀c∈ps,c.items.length<=65536) (hts: ∀x∈ts,x.size<=65536):
  Calls Tryz.prog 114 #[pv,tv, .func (.func 115) #[] #[], .func (.func 116) #[] #[]] w fun e w'=>e= .returned (.bool (dv aU.dbl dI ps ts))/\Below w.heap.size w w':=by
 obtain⟨pa,pc,rfl,-,-,-⟩:=hp.shape fV.len;obtain⟨_,ta,tc,rfl,-⟩:=id htv;have HF:=ab (Fx ps ts S w w.heap.size _ _ rfl hp htv hn hm hps hts ps.length 0 rfl (Nat.zero_le _));clear hp htv hps hts;have hN:(ps.length+1)*(ts.length+1)<=65537*65537:=Nat.mul_le_mul (by omega) (by omega);have hX:((ps.length:Int)+1)*((ts.length:Int)+1)=(((ps.length+1)*(ts.length+1):Nat):Int):=by simp
 have hb1:0<=((ps.length:Int)+1)*((ts.length:Int)+1):=by rw[hX]; omega
 have hb2:((ps.length:Int)+1)*((ts.length:Int)+1)<=4295098369:=by rw[hX]; omega
 have hmk:=mI (P:=Tryz.prog) (t:=203) (e:=4) (z:= .bool false) ((ps.length+1)*(ts.length+1)) [.bool false] Tryz.underlying203 (bytes:=1) (sz:=1) (by kernel_rfl) rfl rfl (by omega) (by omega) (by omega);rw[<-hX]at hmk;clear hX hN
 go_enter Tryz.func114,Tryz.ntmps114
 go_wp2_with fail;refine(HF.out 0 0 0 _ (List.replicate ((ps.length+1)*(ts.length+1)) false) rfl rfl (Nat.zero_le _) (nH w _ _ _ _ _ _ _ _ _ _ _ _) ?_).mono ?_
 ·intro i' j' _ _ _ h;rw[List.getElem?_replicate]at h
  split at h<;> simp at h
 ·rintro e w1 ⟨tr',rfl,hst,-,-⟩;go_wp2_with fail;go_ret;exact⟨rfl,hst.below⟩
theorem Ce {P T U:Type} (star:P->Bool) (m:P->T->Bool) (f:U->T): ∀(ps:List P) (us:List U),dv star (fun p u=>m p (f u)) ps us=dv star m ps (us.map f)
 | [],us=>by cases us<;> simp[dv]
 | p::ps,us=>by
  have ih:=Ce star m f ps;unfold dv
  split
  ·induction us with
   | nil=>simp[gL,ih]
   | cons u us ih2=>simp only[gL,List.map_cons,ih,ih2]
  ·cases us with
   | nil=>simp[uS]
   | cons u us=>simp[uS,ih]
theorem Cf (cs:List aU) (xs:List ByteArray):dv aU.dbl dI cs xs=iy cs (xs.map bl):=Ce aU.dbl yy bl cs xs
theorem dL (cs:List aU) (xs:List ByteArray) (S:Nat->Prop) (w:World) (pv tv:Value) (hp:dN S w pv cs) (htv:dH S w tv xs) (hn:cs.length<=65536) (hm:xs.length<=65536) (hps: ∀c∈cs,c.items.length<=65536) (hts: ∀x∈xs,x.size<=65536):
  Calls Tryz.prog 75 #[pv,tv] w fun e w'=>e= .returned (.bool (iy cs (xs.map bl)))/\Below w.heap.size w w':=by
 have H:=ab (uz cs xs S w pv tv hp htv hn hm hps hts);clear hp htv hps hts
 go_enter Tryz.func75,Tryz.ntmps75
 go_wp2_with fail;refine H.out.mono ?_;rintro e w1 ⟨rfl,hb⟩;go_wp2_with fail;go_ret;exact⟨az (Cf cs xs),hb⟩
theorem kj {l:List UInt8} {cs:List aU} (h:iP l=some cs):cs.length<=16/\(∀c∈cs,c.items.length<=512)/\l.length<=512:=by
 unfold iP at h
 split at h
 ·simp at h
 ·rename_i h1
  split at h
  ·simp at h
  ·rename_i h2;have h3:=oZ h;have h5:l.length<=512:=by omega
   refine⟨by omega,mg h (fun p hp=> ?_),h5⟩;have:=gz 47 l p hp; omega
theorem wu {l:List UInt8} (h:bJ l=true):l.length<=512/\(aF 47 l).length<=16:=by
 simp only[bJ,Bool.and_eq_true,decide_eq_true_eq]at h; exact⟨h.1.1,h.1.2⟩
theorem xD {xs:List ByteArray} {l:List UInt8} (h:bJ l=true) (hx:xs.map bl=aF 47 l):xs.length<=16/\ ∀x∈xs,x.size<=512:=by
 have h1:=wu h;refine⟨by have:(xs.map bl).length=_:=congrArg _ hx; rw[List.length_map]at this; omega,fun x hm=> ?_⟩;have:=gz 47 l (bl x) (by rw[<-hx]; exact List.mem_map.2 ⟨x,hm,rfl⟩);rw[ay]; omega
theorem dN.below {S:Nat->Prop} {w w':World} {v:Value} {cs:List aU} (h:dN S w v cs) (hb:Below w.heap.size w w'):dN (fun _=>True) w' v cs:=h.move (fun k hk _=>⟨trivial,hb.block k hk⟩)
def sx (r:bd):Value:= .agg #[.string ⟨r.pat.toArray⟩, .bool r.keep, .bool r.dir, .bool r.rooted]
theorem cV (s p:ByteArray) (b:Bool) (w:World) (h:Lib.hasPrefix (bl s) (bl p)=b):
  Calls Tryz.prog 71 #[.string s, .string p] w fun e w'=>e= .returned (.bool b)/\w=w':=by rw[<-h]; exact qK s p w
theorem fY (s:ByteArray) (c:UInt8) (b:Bool) (w:World) (h:(bl s).contains c=b):
  Calls Tryz.prog 111 #[.string s, .string ⟨#[c]⟩] w fun e w'=>e= .returned (.bool b)/\w=w':=by rw[<-h]; exact mi s c w
theorem ee (p:ByteArray) (k d r:Bool) (w:World) (he:jE w) (hp:p.size<=9223372036854775807):
  Calls Tryz.prog 74 #[.agg #[.string p, .bool k, .bool d, .bool r]] w (wF (bo ⟨bl p,k,d,r⟩) w):=by
 have HE:=ab he;clear he;have hb0:Below w.heap.size w (w.alloc (.cells #[.string p, .bool k, .bool d, .bool r] 141)):=(Below.refl _ _).alloc (Nat.le_refl _) _;have HB0:=ab hb0;clear hb0
 cases h1:Lib.hasPrefix (bl p) [33]
 ·have H1:=ab h1;clear h1
  cases h2:Lib.hasPrefix (bl p) [35]
  ·have H2:=ab h2;clear h2
   cases h3:(bl p).contains 47 && !r
   ·have HC:Hid (bo ⟨bl p,k,d,r⟩=iP (bl p)):=ab (by unfold bo; simp only[H1.out,H2.out,h3,Bool.or_self,Bool.false_eq_true,if_false]);have h3':(bl p).contains 47=true->r=true:=by intro h; rw[h]at h3; simpa using h3
    have H3:=ab h3';clear h3 h3'
    go_enter Tryz.func74,Tryz.ntmps74
    go_wp2_with fail;refine(cV p ⟨#[33]⟩ false _ H1.out).mono ?_;rintro e w' ⟨rfl,rfl⟩;go_wp2_with fail;refine(cV p ⟨#[35]⟩ false _ H2.out).mono ?_;rintro e w' ⟨rfl,rfl⟩;go_wp2_with fail
    cases h4:(bl p).contains 47
    ·have H4:=ab h4;clear h4;refine(fY p 47 false _ H4.out).mono ?_;rintro e w' ⟨rfl,rfl⟩;go_wp2_with fail
     cases hpat:iP (bl p)with
     | none=>
      have HP:=ab hpat
      clear hpat
      refine(eq p _ (HE.out.below HB0.out) hp).mono ?_;rw[HP.out];rintro e w1 ⟨rfl,hb1⟩;have HB1:=ab hb1;clear hb1;go_wp2_with fail
      go_ret2
      rw[HC.out,HP.out];exact⟨rfl,ak HB0.out HB1.out⟩
     | some cs=>
      have HP:=ab hpat
      clear hpat
      refine(eq p _ (HE.out.below HB0.out) hp).mono ?_;rw[HP.out];rintro e w1 ⟨v,rfl,hv1,hb1⟩;have HV1:=ab hv1;have HB1:=ab hb1;clear hb1 hv1;go_wp2_with fail
      go_ret2
      rw[HC.out,HP.out];exact⟨v,rfl,HV1.out.move (fun k _ hk=>⟨by simp at hk; omega,rfl⟩),ak HB0.out HB1.out⟩
    ·have H4:=ab h4;obtain rfl:r=true:=H3.out h4;clear h4;refine(fY p 47 true _ H4.out).mono ?_;rintro e w' ⟨rfl,rfl⟩;go_wp2_with fail
     cases hpat:iP (bl p)with
     | none=>
      have HP:=ab hpat
      clear hpat
      refine(eq p _ (HE.out.below HB0.out) hp).mono ?_;rw[HP.out];rintro e w1 ⟨rfl,hb1⟩;have HB1:=ab hb1;clear hb1;go_wp2_with fail
      go_ret2
      rw[HC.out,HP.out];exact⟨rfl,ak HB0.out HB1.out⟩
     | some cs=>
      have HP:=ab hpat
      clear hpat
      refine(eq p _ (HE.out.below HB0.out) hp).mono ?_;rw[HP.out];rintro e w1 ⟨v,rfl,hv1,hb1⟩;have HV1:=ab hv1;have HB1:=ab hb1;clear hb1 hv1;go_wp2_with fail
      go_ret2
      rw[HC.out,HP.out];exact⟨v,rfl,HV1.out.move (fun k _ hk=>⟨by simp at hk; omega,rfl⟩),ak HB0.out HB1.out⟩
   ·have HC:Hid (bo ⟨bl p,k,d,r⟩=none):=ab (by unfold bo; simp only[H1.out,H2.out,h3,Bool.or_self,Bool.false_eq_true,if_false,if_true]);rw[Bool.and_eq_true]at h3;obtain⟨h4,h5⟩:=h3;obtain rfl:r=false:=by simpa using h5
    have H4:=ab h4;clear h4 h5
    go_enter Tryz.func74,Tryz.ntmps74
    go_wp2_with fail;refine(cV p ⟨#[33]⟩ false _ H1.out).mono ?_;rintro e w' ⟨rfl,rfl⟩;go_wp2_with fail;refine(cV p ⟨#[35]⟩ false _ H2.out).mono ?_;rintro e w' ⟨rfl,rfl⟩;go_wp2_with fail;refine(fY p 47 true _ H4.out).mono ?_;rintro e w' ⟨rfl,rfl⟩;go_wp2_with fail
    go_ret2
    rw[HC.out];exact⟨rfl,HB0.out⟩
  ·have H2:=ab h2;clear h2;have HC:Hid (bo ⟨bl p,k,d,r⟩=none):=ab (by unfold bo; simp only[H1.out,H2.out,Bool.or_true,if_true])
   go_enter Tryz.func74,Tryz.ntmps74
   go_wp2_with fail;refine(cV p ⟨#[33]⟩ false _ H1.out).mono ?_;rintro e w' ⟨rfl,rfl⟩;go_wp2_with fail;refine(cV p ⟨#[35]⟩ true _ H2.out).mono ?_;rintro e w' ⟨rfl,rfl⟩;go_wp2_with fail
   go_ret2
   rw[HC.out];exact⟨rfl,HB0.out⟩
 ·have H1:=ab h1;clear h1;have HC:Hid (bo ⟨bl p,k,d,r⟩=none):=ab (by unfold bo; simp only[H1.out,Bool.true_or,if_true])
  go_enter Tryz.func74,Tryz.ntmps74
  go_wp2_with fail;refine(cV p ⟨#[33]⟩ true _ H1.out).mono ?_;rintro e w' ⟨rfl,rfl⟩;go_wp2_with fail
  go_ret2
  rw[HC.out];exact⟨rfl,HB0.out⟩
theorem mf (r:bd) (w:World) (he:jE w) (hp:r.pat.length<=9223372036854775807):Calls Tryz.prog 74 #[sx r] w (wF (bo r) w):=by
 have:=ee ⟨r.pat.toArray⟩ r.keep r.dir r.rooted w he (by rw[ay,lY]; exact hp);rw[lY]at this;exact this
def kq (r:bd):List Value:=[.string ⟨r.pat.toArray⟩, .bool r.keep, .bool r.dir, .bool r.rooted]
def ri (c:List Value) (r:bd):Prop:=c=kq r
theorem ri.len (c:List Value) (r:bd) (h:ri c r):c.length=4:=by rw[h]; rfl
def bW (S:Nat->Prop) (w:World) (v:Value) (rs:List bd):Prop:=aY S w 4 ri v rs
theorem bW.below {S:Nat->Prop} {w w':World} {v:Value} {rs:List bd} (h:bW S w v rs) (hb:Below w.heap.size w w'):bW S w' v rs:=aY.below h (by omega) hb (fun _ _ _ h=>h)
theorem bW.cells {S:Nat->Prop} {w:World} {v:Value} {rs:List bd} (h:bW S w v rs):
  ∃a cap,v= .slice a rs.length cap/\rs.length<=cap/\cap<=maxLen/\ ∀(k:Nat) r,rs[k]? =some r-> ∃b o,a=some ⟨b,o,none⟩/\w.cell? ⟨b,o+k*4,none⟩=some (.string ⟨r.pat.toArray⟩)/\
   w.cell? ⟨b,o+k*4+1,none⟩=some (.bool r.keep)/\w.cell? ⟨b,o+k*4+2,none⟩=some (.bool r.dir)/\w.cell? ⟨b,o+k*4+3,none⟩=some (.bool r.rooted):=by
 obtain⟨a,cap,hv,h1,h2,h3⟩:=aY.shape h ri.len;refine⟨a,cap,hv,h1,h2,fun k r hk=> ?_⟩;obtain⟨b,o,c,ha,_,hc,_,hj⟩:=h3 k r hk;rw[ri]at hc;subst hc;have j0:=hj 0 (by omega);have j1:=hj 1 (by omega);have j2:=hj 2 (by omega);have j3:=hj 3 (by omega);exact⟨b,o,ha,j0,j1,j2,j3⟩
theorem ns {S:Nat->Prop} {w:World} {a:Option Addr} {cap n:Nat} {xs:List ByteArray} (h:dH S w (.slice a xs.length cap) xs) (hn:n<=xs.length):dH S w (.slice a n cap) (xs.take n):=by
 obtain⟨_,a',cap',hv,h1,h2,h0⟩:=h
 cases hv
 have hl:(xs.take n).length=n:=by simp; omega
 refine⟨by simp,a,cap,by rw[hl],by omega,h2, ?_⟩
 rcases h0 with h0 | ⟨b,o,ha,hb,hc⟩
 ·left; omega
 ·right
  refine⟨b,o,ha,hb,fun j u hj=>hc j u ?_⟩;rw[List.map_take]at hj;rw[List.getElem?_take]at hj
  split at hj
  ·exact hj
  ·simp at hj
theorem nr {S:Nat->Prop} {w:World} {b o cap n:Nat} {xs:List ByteArray} (h:dH S w (.slice (some ⟨b,o,none⟩) xs.length cap) xs) (hn:n<xs.length) (m:Nat) (hm:n+m<=xs.length):
  dH S w (.slice (some ⟨b,o+n,none⟩) m (cap-n)) ((xs.take (n+m)).drop n):=by
 obtain⟨_,a',cap',hv,h1,h2,h0⟩:=h
 cases hv
 have hl:((xs.take (n+m)).drop n).length=m:=by simp; omega
 refine⟨by simp,_,_,by rw[hl],by omega,by omega, ?_⟩
 rcases h0 with h0 | ⟨b',o',ha,hb,hc⟩
 ·omega
 ·cases ha
  right
  refine⟨b,o+n,rfl,hb,fun j u hj=> ?_⟩;have:=hc (n+j) u (by
   rw[List.map_drop,List.map_take,List.getElem?_drop,List.getElem?_take]at hj
   split at hj
   ·exact hj
   ·simp at hj)
  rw[Nat.add_assoc]; exact this
theorem lR {S:Nat->Prop} {w:World} {a:Option Addr} {cap:Nat} {xs:List ByteArray} (h:dH S w (.slice a xs.length cap) xs) (hn:0<xs.length): ∃b o,a=some ⟨b,o,none⟩:=by
 obtain⟨_,a',cap',hv,h1,h2,h0⟩:=h
 cases hv
 rcases h0 with h0 | ⟨b',o',ha,hb,hc⟩
 ·omega
 ·exact⟨b',o',ha⟩
def sW (S:Nat->Prop) (w:World) (c:List Value) (cs:List aU):Prop:= ∃v,c=[v]/\dN S w v cs
theorem sW.len {S:Nat->Prop} {w:World} (c:List Value) (cs:List aU) (h:sW S w c cs):c.length=1:=by obtain⟨v,rfl,_⟩:=h; rfl
theorem sW.move {S T:Nat->Prop} {w w':World} {c:List Value} {cs:List aU} (h:sW S w c cs) (hs: ∀k,k<w.heap.size->S k->T k/\w'.heap[k]? =w.heap[k]?):sW T w' c cs:=by
 obtain⟨v,rfl,hr⟩:=h;exact⟨v,rfl,hr.move hs⟩
structure eP (w : World) (cb n k : Nat) (us : List (List aU)) (wr : World) : Prop where
 box: ∃done,bB (sW (cb< ·) wr) done us/\wr.heap[cb]? =some (.cells (done++lA [.slice none 0 0] (n-k)).toArray 147 (0,0))
 below:Below cb w wr
 lt:cb<wr.heap.size
 len:us.length=k
theorem eP.grown {w:World} {cb n k:Nat} {us:List (List aU)} {wr w':World} (h:eP w cb n k us wr) (hb:Below wr.heap.size wr w'):eP w cb n k us w':=by
 obtain⟨⟨done,hr,hbx⟩,hbl,hlt,hl⟩:=h;exact⟨⟨done,hr.mono fun c x _ hc=>hc.move fun k hk h2=>⟨h2,hb.block k hk⟩,by rw[hb.block cb hlt]; exact hbx⟩,hbl.trans (hb.mono (by omega)),Nat.lt_of_lt_of_le hlt hb.size,hl⟩
theorem eP.cell {w:World} {cb n k:Nat} {us:List (List aU)} {wr:World} (h:eP w cb n k us wr) (hk:k<n):wr.cell? ⟨cb,k,none⟩=some (.slice none 0 0)/\wr.frozen? ⟨cb,k,none⟩=false:=by
 obtain⟨⟨done,hr,hbx⟩,hbl,hlt,hl⟩:=h;have hdl:=hr.len sW.len;obtain⟨m,hm⟩: ∃m,n-k=m+1:=⟨n-k-1,by omega⟩;rw[hm,eT]at hbx;refine⟨?_,am hbx⟩;rw[ah hbx,List.getElem?_toArray,List.getElem?_append_right (by omega),show k-done.length=0 by omega]; rfl
theorem eP.put {w:World} {cb n k:Nat} {us:List (List aU)} {cs:List aU} {wr:World} {v:Value} (h:eP w cb n k us wr) (hk:k<n) (hv:dN (cb< ·) wr v cs):eP w cb n (k+1) (us++[cs]) (wr.setCell ⟨cb,k,none⟩ v):=by
 obtain⟨⟨done,hr,hbx⟩,hbl,hlt,hl⟩:=h;have hdl:=hr.len sW.len;obtain⟨m,hm⟩: ∃m,n-k=m+1:=⟨n-k-1,by omega⟩;rw[hm,eT]at hbx;refine⟨⟨done++[v], ?_, ?_⟩,hbl.setCell (by simp) _,by simp[World.setCell]; exact hlt,by simp[hl]⟩
 ·refine bB.snoc (hr.mono fun c x _ hc=>hc.move fun j hj h2=>⟨h2,Below.heap_setCell _ _ _ _ (by simp; omega)⟩) ?_;exact⟨_,rfl,hv.move fun j hj h2=>⟨h2,Below.heap_setCell _ _ _ _ (by simp; omega)⟩⟩
 ·simp only[World.setCell,Array.getElem?_modify,if_true,hbx,Option.map_some];rw[show n-(k+1)=m by omega];simp only[List.setIfInBounds_toArray,Option.some.injEq,Obj.cells.injEq,and_true];rw[show k=done.length by omega];simp
theorem eP.get {w:World} {cb n k:Nat} {us:List (List aU)} {wr:World} (h:eP w cb n k us wr) {i:Nat} {cs:List aU} (hi:us[i]? =some cs): ∃v,wr.cell? ⟨cb,i,none⟩=some v/\dN (cb< ·) wr v cs:=by
 obtain⟨⟨done,hr,hbx⟩,hbl,hlt,hl⟩:=h;obtain⟨c,⟨v,rfl,hv⟩,hj⟩:=hr.get sW.len hi;have h0:=hj 0 (by omega);simp only[Nat.mul_one,Nat.add_zero,List.getElem?_cons_zero]at h0;refine⟨v, ?_,hv⟩;rw[ah hbx,List.getElem?_toArray,List.getElem?_append_left (List.getElem?_eq_some_iff.1 h0).1];exact h0
theorem jv : ∀(rs:List bd) (r:bd),bh (rs++[r])=match bh rs with | none=>none | some us=>match bo r with | none=>none | some cs=>some (us++[(r,cs)])
 | [],r=>by simp only[List.nil_append,bh]; cases bo r<;> simp
 | q::rs,r=>by
  simp only[List.cons_append,bh];rw[jv rs r]
  cases bo q<;> simp
  cases bh rs<;> simp
  cases bo r<;> simp
theorem oa (rs qs:List bd) (h:bh rs=none):bh (rs++qs)=none:=by
 induction rs with
 | nil=>simp[bh]at h
 | cons r rs ih=>
  simp only[List.cons_append,bh]at h ⊢
  cases hp:bo r with
  | none=>rfl
  | some c=>
   rw[hp]at h;simp only at h
   cases hps:bh rs with
   | none=>simp[ih hps]
   | some cs=>rw[hps]at h; simp at h
theorem eZ : ∀ {rs:List bd} {us:List (bd×List aU)},bh rs=some us-> ∀u∈us,bo u.1=some u.2
 | [],us,h=>by simp[bh]at h; subst h; simp
 | r::rs,us,h=>by
  unfold bh at h
  split at h
  ·simp at h
  ·rename_i cs e
   split at h
   ·simp at h
   ·rename_i u2 e2;simp at h; subst h;intro u hu
    rcases List.mem_cons.1 hu with rfl | hu
    ·exact e
    ·exact eZ e2 u hu
theorem eY : ∀ {rs:List bd} {us:List (bd×List aU)},bh rs=some us->us.map Prod.fst=rs
 | [],us,h=>by simp[bh]at h; subst h; rfl
 | r::rs,us,h=>by
  unfold bh at h
  split at h
  ·simp at h
  ·split at h
   ·simp at h
   ·rename_i u2 e2;simp at h; subst h;simp[eY e2]
theorem iZ {r:bd} {cs:List aU} (h:bo r=some cs):iP r.pat=some cs:=by
 unfold bo at h
 split at h
 ·simp at h
 ·split at h
  ·simp at h
  ·exact h
def GI (o:Bool×Int):Value:= .tuple #[.bool o.1, .int .i64 o.2]
theorem pD {dir:Bool} {parts:List (List UInt8)} {n k:Nat} {us:List (bd×List aU)} {u:bd×List aU} (b:Bool) (h:us[k]? =some u):
  fy dir parts n (us.drop k) b=fy dir parts n (us.drop (k+1)) (if fj dir u.1 u.2 parts n then !u.1.keep else b):=by
 obtain⟨hk,rfl⟩:=List.getElem?_eq_some_iff.1 h;rw[List.drop_eq_getElem_cons hk,fy]
def Bz (dir:Bool) (parts:List (List UInt8)) (us:List (bd×List aU)) (m:Nat) (ig:Bool):Prop:=
 (ig=false->cM dir parts us parts.length 1=cM dir parts us (parts.length-m) (m+1))/\(ig=true->cM dir parts us parts.length 1=true)
theorem Fy {dir:Bool} {xs:List ByteArray} {us:List (bd×List aU)} {m:Nat} (h:Bz dir (xs.map bl) us m true):cM dir (xs.map bl) us xs.length 1=true:=by
 have:=h.2 rfl;rw[List.length_map]at this; exact this
theorem kr (dir:Bool) (r:bd) (cs:List aU) (parts:List (List UInt8)) (n:Nat) (d:Bool) (hd:(dir || decide (n<parts.length))=d):fj dir r cs parts n=((d || !r.dir) && iy cs (if r.rooted then parts.take n else(parts.take n).drop (n-1))):=by
 unfold fj; rw[hd]
def jt (dir:Bool) (parts:List (List UInt8)) (us:List (bd×List aU)) (m k:Nat) (b:Bool):Prop:=
 fy dir parts (m+1) us false=fy dir parts (m+1) (us.drop k) b
theorem iM {dir:Bool} {parts:List (List UInt8)} {us:List (bd×List aU)} {m k:Nat} {b:Bool} {r:bd} {cs:List aU} (h:jt dir parts us m k b) (hu:us[k]? =some (r,cs)) (hh:fj dir r cs parts (m+1)=false):jt dir parts us m (k+1) b:=by
 unfold jt at *;rw[h,pD b hu,hh]; rfl
theorem kI {dir:Bool} {parts:List (List UInt8)} {us:List (bd×List aU)} {m k:Nat} {b:Bool} {r:bd} {cs:List aU} (h:jt dir parts us m k b) (hu:us[k]? =some (r,cs)) (hh:fj dir r cs parts (m+1)=true):jt dir parts us m (k+1) (!r.keep):=by
 unfold jt at *;rw[h,pD b hu,hh]; rfl
theorem uV (rs:List bd) (S:Nat->Prop) (v:Value) (s:ByteArray) (dir:Bool) (w:World) (he:jE w) (hv:bW S w v rs) (hp: ∀r∈rs,r.pat.length<=9223372036854775807):
  Calls Tryz.prog 40 #[v, .string s, .bool dir] w fun e w'=>e= .returned (GI (dJ rs (bl s) dir))/\Below w.heap.size w w':=by
 have HE:=ab he;have HV:=ab hv;have HP:=ab hp;obtain⟨a,cap,rfl,hc,hcm,-⟩:=hv.cells;clear he hv hp;unfold maxLen at hcm
 go_enter Tryz.func40,Tryz.ntmps40
 go_wp2_with fail;refine(nV s w HE.out).mono ?_;rintro e w1 (⟨hval,tv,xs,rfl,hxs,htv,hb1⟩ | ⟨hval,rfl,hb1⟩)
 ·obtain⟨hx1,hx2⟩:=xD hval hxs;obtain⟨ta,tc,rfl,htc1,htc2,-⟩:=htv.shape;have HB1:=ab hb1;have HTV:=ab htv;have HXS:=ab hxs;have HVAL:=ab hval;have HX2:=ab hx2;clear hb1 htv hxs hval hx2;unfold maxLen at htc2
  by_cases h256:rs.length<=256
  ·have hmk:=mI (P:=Tryz.prog) (t:=146) (e:=147) (z:= .slice none 0 0) rs.length [.slice none 0 0] Tryz.underlying146 (bytes:=24) (sz:=1) (by kernel_rfl) rfl rfl (by omega) (by omega) (by omega);go_wp2_with fail;clear hmk
   go_loopw [37] (fun i wr=> ∃(k:Nat) (us:List (bd×List aU)),k<=rs.length/\i= .int .i64 k/\eP w1 w1.heap.size rs.length k (us.map Prod.snd) wr/\bh (rs.take k)=some us) (fun i _=>rs.length-(intOf i).toNat)
   case atStart=>
    refine⟨0,[],Nat.zero_le _,rfl,⟨⟨[],rfl, ?_⟩,(Below.refl _ _).alloc (Nat.le_refl _) _,by simp,rfl⟩,by simp[bh]⟩;have:=heap_alloc_new w1 (.cells (made [.slice none 0 0] rs.length) 147)
    simpa [made]using this
   case round=>
    obtain⟨k,us,hk,rfl,hI,hcomp⟩:=hrel;have HI:=ab hI;have HC:=ab hcomp;clear hI hcomp;have hBW:Below w1.heap.size w1 wr:=HI.out.below;have HBW:=ab hBW;clear hBW
    by_cases hlt:k<rs.length
    ·obtain⟨r,hr⟩: ∃r,rs[k]? =some r:=⟨rs[k],by simp[hlt]⟩;obtain⟨_,_,hv',_,_,hcells⟩:=(bW.below HV.out (ak HB1.out HBW.out)).cells
     cases hv'
     obtain⟨b,o,rfl,c0,c1,c2,c3⟩:=hcells k r hr;have hrp:=HP.out r (List.mem_of_getElem? hr);have HR:=ab hr;clear hr hcells;have hwb:Below wr.heap.size wr (wr.alloc (.cells #[.string ⟨r.pat.toArray⟩, .bool r.keep, .bool r.dir, .bool r.rooted] 141)):=(Below.refl _ _).alloc (Nat.le_refl _) _;have HWB:=ab hwb;clear hwb;have hsn:bh (rs.take (k+1))=match bo r with | none=>none | some cs=>some (us++[(r,cs)]):=by
      have e1:rs.take (k+1)=rs.take k++[r]:=by rw[List.take_add_one]; simp[HR.out]
      rw[e1,jv,HC.out]; try rfl
     have HSN:=ab hsn;clear hsn;go_wp2_with fail;have hE2:jE (wr.alloc (.cells #[.string ⟨r.pat.toArray⟩, .bool r.keep, .bool r.dir, .bool r.rooted] 141)):=HE.out.below (ak (ak HB1.out HBW.out) HWB.out)
     cases hcs:bo r with
     | none=>
      have HCS:=ab hcs;clear hcs;refine(mf r _ hE2 hrp).mono ?_;rw[HCS.out];rintro e w3 ⟨rfl,hb3⟩;have hb3':Below wr.heap.size wr w3:=ak HWB.out hb3;have HB3:=ab hb3';clear hb3 hb3' hE2;obtain⟨d0,d1⟩:=(HI.out.grown HB3.out).cell hlt;go_wp2_with fail
      go_ret2
      refine⟨?_,ak HB1.out ((HBW.out.trans (HB3.out.mono HBW.out.size)).setCell (by simp) _)⟩;have hnone:bh rs=none:=by
       rw[<-List.take_append_drop (k+1) rs];exact oa _ _ (by rw[HSN.out,HCS.out])
      rw[dJ,if_neg (by rw[HVAL.out]; simp; omega),hnone]; rfl
     | some cs=>
      have HCS:=ab hcs;clear hcs;refine(mf r _ hE2 hrp).mono ?_;rw[HCS.out];rintro e w3 ⟨pv,rfl,hv3,hb3⟩;have hb3':Below wr.heap.size wr w3:=ak HWB.out hb3;have HB3:=ab hb3';have HI3:=ab (HI.out.grown hb3');have hcblt:=HI.out.lt;have HV3:=ab (dN.move (T:=(w1.heap.size< ·)) (w':=w3) hv3 (fun j hj h2=>⟨by simp at h2; omega,rfl⟩));obtain⟨av,cv,rfl,hnv,hmv,-⟩:=hv3.shape fV.len
      clear hb3 hb3' hE2 hv3;obtain⟨d0,d1⟩:=HI3.out.cell hlt;go_wp2_with fail
      go_roundw
      case rel=>
       refine⟨k+1,us++[(r,cs)],by omega,by go_num, ?_,by rw[HSN.out,HCS.out]⟩;have:=HI3.out.put hlt HV3.out
       simpa using this
      case measure=>simp[intOf]; omega
    ·obtain rfl:k=rs.length:=by omega
     have hcomp:bh rs=some us:=by rw[<-HC.out,List.take_length]
     have HCA:=ab hcomp;clear hcomp;have hul:us.length=rs.length:=by have:=HI.out.len; rw[List.length_map]at this; exact this
     have hparts:0<xs.length:=by
      have:=lP 47 (bl s); rw[<-HXS.out,List.length_map]at this; omega
     have hfin:dJ rs (bl s) dir=(cM dir (xs.map bl) us xs.length 1,0):=by
      rw[dJ,if_neg (by rw[HVAL.out]; simp; omega),HCA.out,<-HXS.out,List.length_map]
     have HFIN:=ab hfin;clear hfin;have HUL:=ab hul;clear hul;go_wp2_with fail
     go_loopw [14,15] (fun g n wr2=> ∃(m:Nat) (ig:Bool),m<=xs.length/\g= .bool ig/\n= .int .i64 ((m:Int)+1)/\eP w1 w1.heap.size rs.length rs.length (us.map Prod.snd) wr2/\
       Bz dir (xs.map bl) us m ig) (fun _ n _=>xs.length+1-(intOf n).toNat)
     case atStart=>exact⟨0,false,Nat.zero_le _,rfl,rfl,HI.out,fun _=>rfl,fun h=>by cases h⟩
     case round=>
      clear HI HBW;obtain⟨m,ig,hm,rfl,rfl,hI2,hf⟩:=hrel;have HI:=ab hI2;have HF:=ab hf;clear hI2 hf
      cases ig
      ·by_cases hlt:m<xs.length
       ·have e1:decide ((m:Int)+1<=(xs.length:Int))=true:=by simp; omega
        have hstep:cM dir (xs.map bl) us (xs.length-m) (m+1)=if fy dir (xs.map bl) (m+1) us false then true else cM dir (xs.map bl) us (xs.length-(m+1)) (m+1+1):=by
         rw[show xs.length-m=(xs.length-(m+1))+1 by omega,cM]
        have HSTEP:=ab hstep;clear hstep
        cases dir
        ·by_cases hml:m+1<xs.length
         ·have hml2:decide ((m:Int)+1<(xs.length:Int))=true:=by simp; omega
          have HD:=ab (show(false || decide (m+1<(xs.map bl).length))=true by simp[hml]);go_wp2_with fail
          go_loopw [14,72] (fun g i wr3=> ∃(k:Nat) (b:Bool),k<=rs.length/\g= .bool b/\i= .int .i64 k/\eP w1 w1.heap.size rs.length rs.length (us.map Prod.snd) wr3/\jt false (xs.map bl) us m k b) (fun _ i _=>rs.length-(intOf i).toNat)
          case atStart=>exact⟨0,false,Nat.zero_le _,rfl,rfl,HI.out,rfl⟩
          case round=>
           clear HI;obtain⟨k,b,hk,rfl,rfl,hI2,hin⟩:=hrel;have HI:=ab hI2;have HIN:=ab hin;clear hI2 hin
           by_cases hkl:k<rs.length
           ·obtain⟨r,hr⟩: ∃r,rs[k]? =some r:=⟨rs[k],by simp[hkl]⟩;obtain⟨cs,hu⟩: ∃cs,us[k]? =some (r,cs):=by
             have h1:=eY HCA.out;have hk2:k<us.length:=by rw[HUL.out]; exact hkl
             have h2:(us.map Prod.fst)[k]? =some r:=by rw[h1]; exact hr
             rw[List.getElem?_map,List.getElem?_eq_getElem hk2]at h2;refine⟨us[k].2, ?_⟩;rw[List.getElem?_eq_getElem hk2];simp only[Option.map_some,Option.some.injEq]at h2;rw[<-h2]
            obtain⟨hc1,hc2,-⟩:=kj (iZ (eZ HCA.out _ (List.mem_of_getElem? hu)));obtain⟨pv,hpc,hpv⟩:=HI.out.get (i:=k) (cs:=cs) (by rw[List.getElem?_map,hu]; rfl);obtain⟨pa,pcap,rfl,-,-,-⟩:=hpv.shape fV.len;have hbig:Below w.heap.size w wr:=ak HB1.out HI.out.below;obtain⟨_,_,hv',_,_,hcells⟩:=(bW.below HV.out hbig).cells
            cases hv'
            obtain⟨b0,o0,rfl,c0,c1,c2,c3⟩:=hcells k r hr;have hst:dH (fun _=>True) wr (.slice ta xs.length tc) xs:=aS.weak (aS.below HTV.out (by omega) HI.out.below) (fun _ _=>trivial);obtain⟨tb,tof,rfl⟩:=lR hst hparts;have HST:=ab hst;have HU:=ab hu;have HC2:=ab hc2;have HPV:=ab hpv;have HH:=ab (kr false r cs (xs.map bl) (m+1) true HD.out)
            obtain⟨rp,rk,rd,rr⟩:=r;simp only at c0 c1 c2 c3;clear hr hu hc2 hcells hbig hpv hst;have hwb:Below wr.heap.size wr (wr.alloc (.cells #[.string ⟨rp.toArray⟩, .bool rk, .bool rd, .bool rr] 141)):=(Below.refl _ _).alloc (Nat.le_refl _) _;have HWB:=ab hwb;have hpc2:=hwb.cell (aE hpc);rw[hpc]at hpc2;have HST2:=ab (show dH (fun _=>True) (wr.alloc (.cells #[.string ⟨rp.toArray⟩, .bool rk, .bool rd, .bool rr] 141)) _ xs from aS.below HST.out (by omega) hwb)
            clear hwb;have k4: ∀w4:World,Below (wr.alloc (.cells #[.string ⟨rp.toArray⟩, .bool rk, .bool rd, .bool rr] 141)).heap.size (wr.alloc (.cells #[.string ⟨rp.toArray⟩, .bool rk, .bool rd, .bool rr] 141)) w4->w4.cell? ⟨wr.heap.size,1,none⟩=some (.bool rk):=fun w4 hb4=>(hb4.cell (p:=⟨wr.heap.size,1,none⟩) (by simp)).trans (by simp)
            have K4:=ab k4;clear k4
            cases rr
            ·cases hmb:iy cs (((xs.take (m+1)).drop m).map bl)
             all_goals (
              have HMB:=ab hmb;clear hmb
              cases rd
              all_goals (
               go_wp2_with (go_at_call 75; refine(dL cs ((xs.take (m+1)).drop m) (fun _=>True) _ _ _ (HPV.out.below HWB.out) (nr HST2.out hlt 1 (by omega)) (by omega) (by simp; omega) (fun c hc=>by have:=HC2.out c hc; omega) (fun x hx=>by have:=HX2.out x (List.mem_of_mem_take (List.mem_of_mem_drop hx)); omega)).mono ?_; rintro e w4 ⟨rfl,hb4⟩; rw[HMB.out]; have c4:=K4.out _ hb4; have HB4:=ab hb4; clear hb4)
               go_roundw
               case rel=>exact⟨k+1,_,by omega,rfl,by go_num,HI.out.grown (by first | exact ak HWB.out HB4.out | exact HWB.out),by first | exact iM HIN.out HU.out (HH.out.trans (by simp[<-List.map_take,<-List.map_drop,HMB.out])) | exact kI HIN.out HU.out (HH.out.trans (by simp[<-List.map_take,<-List.map_drop,HMB.out]))⟩
               case measure=>simp[intOf]; omega))
            ·cases hmb:iy cs ((xs.take (m+1)).map bl)
             all_goals (
              have HMB:=ab hmb;clear hmb
              cases rd
              all_goals (
               go_wp2_with (go_at_call 75; refine(dL cs (xs.take (m+1)) (fun _=>True) _ _ _ (HPV.out.below HWB.out) (ns HST2.out (by omega)) (by omega) (by simp; omega) (fun c hc=>by have:=HC2.out c hc; omega) (fun x hx=>by have:=HX2.out x (List.mem_of_mem_take hx); omega)).mono ?_; rintro e w4 ⟨rfl,hb4⟩; rw[HMB.out]; have c4:=K4.out _ hb4; have HB4:=ab hb4; clear hb4)
               go_roundw
               case rel=>exact⟨k+1,_,by omega,rfl,by go_num,HI.out.grown (by first | exact ak HWB.out HB4.out | exact HWB.out),by first | exact iM HIN.out HU.out (HH.out.trans (by simp[<-List.map_take,HMB.out])) | exact kI HIN.out HU.out (HH.out.trans (by simp[<-List.map_take,HMB.out]))⟩
               case measure=>simp[intOf]; omega))
           ·obtain rfl:k=rs.length:=by omega
            have hat:fy false (xs.map bl) (m+1) us false=b:=by
             have:=HIN.out;unfold jt at this;rw[this,<-HUL.out,List.drop_length]; rfl
            have HAT:=ab hat
            clear hat
            go_wp2_with fail
            go_roundw
            case rel=>
             refine⟨m+1,b,by omega,rfl,by go_num,HI.out,fun hb=> ?_,fun hb=> ?_⟩
             ·have:=HF.out.1 rfl;rw[this,List.length_map,HSTEP.out,HAT.out,hb]; rfl
             ·have:=HF.out.1 rfl;rw[this,List.length_map,HSTEP.out,HAT.out,hb]; rfl
            case measure=>simp[intOf]; omega
         ·have hml2:decide ((m:Int)+1<(xs.length:Int))=false:=by simp; omega
          have HD:=ab (show(false || decide (m+1<(xs.map bl).length))=false by simp[hml]);go_wp2_with fail
          go_loopw [14,72] (fun g i wr3=> ∃(k:Nat) (b:Bool),k<=rs.length/\g= .bool b/\i= .int .i64 k/\eP w1 w1.heap.size rs.length rs.length (us.map Prod.snd) wr3/\jt false (xs.map bl) us m k b) (fun _ i _=>rs.length-(intOf i).toNat)
          case atStart=>exact⟨0,false,Nat.zero_le _,rfl,rfl,HI.out,rfl⟩
          case round=>
           clear HI;obtain⟨k,b,hk,rfl,rfl,hI2,hin⟩:=hrel;have HI:=ab hI2;have HIN:=ab hin;clear hI2 hin
           by_cases hkl:k<rs.length
           ·obtain⟨r,hr⟩: ∃r,rs[k]? =some r:=⟨rs[k],by simp[hkl]⟩;obtain⟨cs,hu⟩: ∃cs,us[k]? =some (r,cs):=by
             have h1:=eY HCA.out;have hk2:k<us.length:=by rw[HUL.out]; exact hkl
             have h2:(us.map Prod.fst)[k]? =some r:=by rw[h1]; exact hr
             rw[List.getElem?_map,List.getElem?_eq_getElem hk2]at h2;refine⟨us[k].2, ?_⟩;rw[List.getElem?_eq_getElem hk2];simp only[Option.map_some,Option.some.injEq]at h2;rw[<-h2]
            obtain⟨hc1,hc2,-⟩:=kj (iZ (eZ HCA.out _ (List.mem_of_getElem? hu)));obtain⟨pv,hpc,hpv⟩:=HI.out.get (i:=k) (cs:=cs) (by rw[List.getElem?_map,hu]; rfl);obtain⟨pa,pcap,rfl,-,-,-⟩:=hpv.shape fV.len;have hbig:Below w.heap.size w wr:=ak HB1.out HI.out.below;obtain⟨_,_,hv',_,_,hcells⟩:=(bW.below HV.out hbig).cells
            cases hv'
            obtain⟨b0,o0,rfl,c0,c1,c2,c3⟩:=hcells k r hr;have hst:dH (fun _=>True) wr (.slice ta xs.length tc) xs:=aS.weak (aS.below HTV.out (by omega) HI.out.below) (fun _ _=>trivial);obtain⟨tb,tof,rfl⟩:=lR hst hparts;have HST:=ab hst;have HU:=ab hu;have HC2:=ab hc2;have HPV:=ab hpv;have HH:=ab (kr false r cs (xs.map bl) (m+1) false HD.out)
            obtain⟨rp,rk,rd,rr⟩:=r;simp only at c0 c1 c2 c3;clear hr hu hc2 hcells hbig hpv hst;have hwb:Below wr.heap.size wr (wr.alloc (.cells #[.string ⟨rp.toArray⟩, .bool rk, .bool rd, .bool rr] 141)):=(Below.refl _ _).alloc (Nat.le_refl _) _;have HWB:=ab hwb;have hpc2:=hwb.cell (aE hpc);rw[hpc]at hpc2;have HST2:=ab (show dH (fun _=>True) (wr.alloc (.cells #[.string ⟨rp.toArray⟩, .bool rk, .bool rd, .bool rr] 141)) _ xs from aS.below HST.out (by omega) hwb)
            clear hwb;have k4: ∀w4:World,Below (wr.alloc (.cells #[.string ⟨rp.toArray⟩, .bool rk, .bool rd, .bool rr] 141)).heap.size (wr.alloc (.cells #[.string ⟨rp.toArray⟩, .bool rk, .bool rd, .bool rr] 141)) w4->w4.cell? ⟨wr.heap.size,1,none⟩=some (.bool rk):=fun w4 hb4=>(hb4.cell (p:=⟨wr.heap.size,1,none⟩) (by simp)).trans (by simp)
            have K4:=ab k4;clear k4
            cases rr
            ·cases hmb:iy cs (((xs.take (m+1)).drop m).map bl)
             all_goals (
              have HMB:=ab hmb;clear hmb
              cases rd
              all_goals (
               go_wp2_with (go_at_call 75; refine(dL cs ((xs.take (m+1)).drop m) (fun _=>True) _ _ _ (HPV.out.below HWB.out) (nr HST2.out hlt 1 (by omega)) (by omega) (by simp; omega) (fun c hc=>by have:=HC2.out c hc; omega) (fun x hx=>by have:=HX2.out x (List.mem_of_mem_take (List.mem_of_mem_drop hx)); omega)).mono ?_; rintro e w4 ⟨rfl,hb4⟩; rw[HMB.out]; have c4:=K4.out _ hb4; have HB4:=ab hb4; clear hb4)
               go_roundw
               case rel=>exact⟨k+1,_,by omega,rfl,by go_num,HI.out.grown (by first | exact ak HWB.out HB4.out | exact HWB.out),by first | exact iM HIN.out HU.out (HH.out.trans (by simp[<-List.map_take,<-List.map_drop,HMB.out])) | exact kI HIN.out HU.out (HH.out.trans (by simp[<-List.map_take,<-List.map_drop,HMB.out]))⟩
               case measure=>simp[intOf]; omega))
            ·cases hmb:iy cs ((xs.take (m+1)).map bl)
             all_goals (
              have HMB:=ab hmb;clear hmb
              cases rd
              all_goals (
               go_wp2_with (go_at_call 75; refine(dL cs (xs.take (m+1)) (fun _=>True) _ _ _ (HPV.out.below HWB.out) (ns HST2.out (by omega)) (by omega) (by simp; omega) (fun c hc=>by have:=HC2.out c hc; omega) (fun x hx=>by have:=HX2.out x (List.mem_of_mem_take hx); omega)).mono ?_; rintro e w4 ⟨rfl,hb4⟩; rw[HMB.out]; have c4:=K4.out _ hb4; have HB4:=ab hb4; clear hb4)
               go_roundw
               case rel=>exact⟨k+1,_,by omega,rfl,by go_num,HI.out.grown (by first | exact ak HWB.out HB4.out | exact HWB.out),by first | exact iM HIN.out HU.out (HH.out.trans (by simp[<-List.map_take,HMB.out])) | exact kI HIN.out HU.out (HH.out.trans (by simp[<-List.map_take,HMB.out]))⟩
               case measure=>simp[intOf]; omega))
           ·obtain rfl:k=rs.length:=by omega
            have hat:fy false (xs.map bl) (m+1) us false=b:=by
             have:=HIN.out;unfold jt at this;rw[this,<-HUL.out,List.drop_length]; rfl
            have HAT:=ab hat
            clear hat
            go_wp2_with fail
            go_roundw
            case rel=>
             refine⟨m+1,b,by omega,rfl,by go_num,HI.out,fun hb=> ?_,fun hb=> ?_⟩
             ·have:=HF.out.1 rfl;rw[this,List.length_map,HSTEP.out,HAT.out,hb]; rfl
             ·have:=HF.out.1 rfl;rw[this,List.length_map,HSTEP.out,HAT.out,hb]; rfl
            case measure=>simp[intOf]; omega
        ·have HD:=ab (show(true || decide (m+1<(xs.map bl).length))=true by simp);go_wp2_with fail
         go_loopw [14,72] (fun g i wr3=> ∃(k:Nat) (b:Bool),k<=rs.length/\g= .bool b/\i= .int .i64 k/\eP w1 w1.heap.size rs.length rs.length (us.map Prod.snd) wr3/\jt true (xs.map bl) us m k b) (fun _ i _=>rs.length-(intOf i).toNat)
         case atStart=>exact⟨0,false,Nat.zero_le _,rfl,rfl,HI.out,rfl⟩
         case round=>
          clear HI;obtain⟨k,b,hk,rfl,rfl,hI2,hin⟩:=hrel;have HI:=ab hI2;have HIN:=ab hin;clear hI2 hin
          by_cases hkl:k<rs.length
          ·obtain⟨r,hr⟩: ∃r,rs[k]? =some r:=⟨rs[k],by simp[hkl]⟩;obtain⟨cs,hu⟩: ∃cs,us[k]? =some (r,cs):=by
            have h1:=eY HCA.out;have hk2:k<us.length:=by rw[HUL.out]; exact hkl
            have h2:(us.map Prod.fst)[k]? =some r:=by rw[h1]; exact hr
            rw[List.getElem?_map,List.getElem?_eq_getElem hk2]at h2;refine⟨us[k].2, ?_⟩;rw[List.getElem?_eq_getElem hk2];simp only[Option.map_some,Option.some.injEq]at h2;rw[<-h2]
           obtain⟨hc1,hc2,-⟩:=kj (iZ (eZ HCA.out _ (List.mem_of_getElem? hu)));obtain⟨pv,hpc,hpv⟩:=HI.out.get (i:=k) (cs:=cs) (by rw[List.getElem?_map,hu]; rfl);obtain⟨pa,pcap,rfl,-,-,-⟩:=hpv.shape fV.len;have hbig:Below w.heap.size w wr:=ak HB1.out HI.out.below;obtain⟨_,_,hv',_,_,hcells⟩:=(bW.below HV.out hbig).cells
           cases hv'
           obtain⟨b0,o0,rfl,c0,c1,c2,c3⟩:=hcells k r hr;have hst:dH (fun _=>True) wr (.slice ta xs.length tc) xs:=aS.weak (aS.below HTV.out (by omega) HI.out.below) (fun _ _=>trivial);obtain⟨tb,tof,rfl⟩:=lR hst hparts;have HST:=ab hst;have HU:=ab hu;have HC2:=ab hc2;have HPV:=ab hpv;have HH:=ab (kr true r cs (xs.map bl) (m+1) true HD.out)
           obtain⟨rp,rk,rd,rr⟩:=r;simp only at c0 c1 c2 c3;clear hr hu hc2 hcells hbig hpv hst;have hwb:Below wr.heap.size wr (wr.alloc (.cells #[.string ⟨rp.toArray⟩, .bool rk, .bool rd, .bool rr] 141)):=(Below.refl _ _).alloc (Nat.le_refl _) _;have HWB:=ab hwb;have hpc2:=hwb.cell (aE hpc);rw[hpc]at hpc2;have HST2:=ab (show dH (fun _=>True) (wr.alloc (.cells #[.string ⟨rp.toArray⟩, .bool rk, .bool rd, .bool rr] 141)) _ xs from aS.below HST.out (by omega) hwb)
           clear hwb;have k4: ∀w4:World,Below (wr.alloc (.cells #[.string ⟨rp.toArray⟩, .bool rk, .bool rd, .bool rr] 141)).heap.size (wr.alloc (.cells #[.string ⟨rp.toArray⟩, .bool rk, .bool rd, .bool rr] 141)) w4->w4.cell? ⟨wr.heap.size,1,none⟩=some (.bool rk):=fun w4 hb4=>(hb4.cell (p:=⟨wr.heap.size,1,none⟩) (by simp)).trans (by simp)
           have K4:=ab k4;clear k4
           cases rr
           ·cases hmb:iy cs (((xs.take (m+1)).drop m).map bl)
            all_goals (
             have HMB:=ab hmb;clear hmb
             cases rd
             all_goals (
              go_wp2_with (go_at_call 75; refine(dL cs ((xs.take (m+1)).drop m) (fun _=>True) _ _ _ (HPV.out.below HWB.out) (nr HST2.out hlt 1 (by omega)) (by omega) (by simp; omega) (fun c hc=>by have:=HC2.out c hc; omega) (fun x hx=>by have:=HX2.out x (List.mem_of_mem_take (List.mem_of_mem_drop hx)); omega)).mono ?_; rintro e w4 ⟨rfl,hb4⟩; rw[HMB.out]; have c4:=K4.out _ hb4; have HB4:=ab hb4; clear hb4)
              go_roundw
              case rel=>exact⟨k+1,_,by omega,rfl,by go_num,HI.out.grown (by first | exact ak HWB.out HB4.out | exact HWB.out),by first | exact iM HIN.out HU.out (HH.out.trans (by simp[<-List.map_take,<-List.map_drop,HMB.out])) | exact kI HIN.out HU.out (HH.out.trans (by simp[<-List.map_take,<-List.map_drop,HMB.out]))⟩
              case measure=>simp[intOf]; omega))
           ·cases hmb:iy cs ((xs.take (m+1)).map bl)
            all_goals (
             have HMB:=ab hmb;clear hmb
             cases rd
             all_goals (
              go_wp2_with (go_at_call 75; refine(dL cs (xs.take (m+1)) (fun _=>True) _ _ _ (HPV.out.below HWB.out) (ns HST2.out (by omega)) (by omega) (by simp; omega) (fun c hc=>by have:=HC2.out c hc; omega) (fun x hx=>by have:=HX2.out x (List.mem_of_mem_take hx); omega)).mono ?_; rintro e w4 ⟨rfl,hb4⟩; rw[HMB.out]; have c4:=K4.out _ hb4; have HB4:=ab hb4; clear hb4)
              go_roundw
              case rel=>exact⟨k+1,_,by omega,rfl,by go_num,HI.out.grown (by first | exact ak HWB.out HB4.out | exact HWB.out),by first | exact iM HIN.out HU.out (HH.out.trans (by simp[<-List.map_take,HMB.out])) | exact kI HIN.out HU.out (HH.out.trans (by simp[<-List.map_take,HMB.out]))⟩
              case measure=>simp[intOf]; omega))
          ·obtain rfl:k=rs.length:=by omega
           have hat:fy true (xs.map bl) (m+1) us false=b:=by
            have:=HIN.out;unfold jt at this;rw[this,<-HUL.out,List.drop_length]; rfl
           have HAT:=ab hat
           clear hat
           go_wp2_with fail
           go_roundw
           case rel=>
            refine⟨m+1,b,by omega,rfl,by go_num,HI.out,fun hb=> ?_,fun hb=> ?_⟩
            ·have:=HF.out.1 rfl;rw[this,List.length_map,HSTEP.out,HAT.out,hb]; rfl
            ·have:=HF.out.1 rfl;rw[this,List.length_map,HSTEP.out,HAT.out,hb]; rfl
           case measure=>simp[intOf]; omega
       ·have e1:decide ((m:Int)+1<=(xs.length:Int))=false:=by simp; omega
        go_wp2_with fail
        go_ret2
        refine⟨?_,ak HB1.out HI.out.below⟩;have:=HF.out.1 rfl;rw[List.length_map,show xs.length-m=0 by omega]at this;rw[HFIN.out,this]; rfl
      ·by_cases hlt:m<xs.length
       ·have e1:decide ((m:Int)+1<=(xs.length:Int))=true:=by simp; omega
        go_wp2_with fail
        go_ret2
        exact⟨by rw[HFIN.out,Fy HF.out]; rfl,ak HB1.out HI.out.below⟩
       ·have e1:decide ((m:Int)+1<=(xs.length:Int))=false:=by simp; omega
        go_wp2_with fail
        go_ret2
        exact⟨by rw[HFIN.out,Fy HF.out]; rfl,ak HB1.out HI.out.below⟩
  ·have h256':256<rs.length:=by omega
   go_wp2_with fail
   go_ret2
   exact⟨by rw[dJ,if_pos (.inr h256')]; rfl,HB1.out⟩
 ·have HB1:=ab hb1;have HVAL:=ab hval;clear hb1 hval;go_wp2_with fail
  go_ret2
  exact⟨by rw[dJ,if_pos (.inl HVAL.out)]; rfl,HB1.out⟩
def wA :Value:= .agg #[.string ⟨#[]⟩, .bool false, .bool false, .bool false]
def fK (o:Option bd):Value:=match o with
 | some r=> .tuple #[sx r, .bool true]
 | none=> .tuple #[wA, .bool false]
def GE (s p:ByteArray) (w:World) (e:Ending) (w':World):Prop:= ∃s1 b,e= .returned (.tuple #[.string s1, .bool b])/\bl s1=Lib.trimPrefix (bl s) (bl p)/\b=Lib.hasPrefix (bl s) (bl p)/\w=w'
def GF (s p:ByteArray) (w:World) (e:Ending) (w':World):Prop:= ∃s1 b,e= .returned (.tuple #[.string s1, .bool b])/\bl s1=Lib.trimSuffix (bl s) (bl p)/\b=Lib.hasSuffix (bl s) (bl p)/\w=w'
theorem ml (s p:ByteArray) (w:World):Calls Tryz.prog 109 #[.string s, .string p] w (GE s p w):=
 (qG s p w).mono fun _ _ ⟨he,hw⟩=>⟨_,_,he,lY _,rfl,hw⟩
theorem tk (s p:ByteArray) (w:World) (hs:s.size<=9223372036854775807):Calls Tryz.prog 110 #[.string s, .string p] w (GF s p w):=
 (qH s p w hs).mono fun _ _ ⟨he,hw⟩=>⟨_,_,he,lY _,rfl,hw⟩
theorem kx (l p:List UInt8):(Lib.trimPrefix l p).length<=l.length:=by
 unfold Lib.trimPrefix; split<;> simp
theorem qt (l p:List UInt8):(Lib.trimSuffix l p).length<=l.length:=by
 unfold Lib.trimSuffix; split<;> simp<;> omega
theorem lu (s:ByteArray) (w:World) (he:jE w) (hs:s.size<=65536):
  Calls Tryz.prog 72 #[.string s] w fun e w'=>e= .returned (fK (cF (bl s)))/\Below w.heap.size w w':=by
 have HE:=ab he;clear he
 go_enter Tryz.func72,Tryz.ntmps72
 go_wp2_with fail;refine(ml s ⟨#[33]⟩ _).mono ?_;rintro e w' ⟨s1,b1,rfl,h1,h1',rfl⟩;have H1:=ab h1;have H1':=ab h1';have hl1:s1.size<=65536:=by have:=kx (bl s) (bl ⟨#[33]⟩); rw[<-h1,<-ay,<-ay]at this; omega
 clear h1 h1';go_wp2_with fail;refine(ml s1 ⟨#[47]⟩ _).mono ?_;rintro e w' ⟨s2,b2,rfl,h2,h2',rfl⟩;have H2:=ab h2;have H2':=ab h2';have hl2:s2.size<=65536:=by have:=kx (bl s1) (bl ⟨#[47]⟩); rw[<-h2,<-ay,<-ay]at this; omega
 clear h2 h2';go_wp2_with fail;refine(tk s2 ⟨#[47]⟩ _ (by omega)).mono ?_;rintro e w' ⟨s3,b3,rfl,h3,h3',rfl⟩;have H3:=ab h3;have H3':=ab h3';have hl3:s3.size<=65536:=by have:=qt (bl s2) (bl ⟨#[47]⟩); rw[<-h3,<-ay,<-ay]at this; omega
 clear h3 h3';have hru:sw (bl s)=⟨bl s3,b1,b3,b2 || (bl s3).contains 47⟩:=by
  rw[H3.out,H1'.out,H3'.out,H2'.out,H2.out,H1.out]; rfl
 cases b2
 ·rw[Bool.false_or]at hru
  cases hct:(bl s3).contains 47
  ·have HCT:=ab hct;rw[hct]at hru;have HRU:=ab hru;clear hct hru;go_wp2_with fail;refine(fY s3 47 false _ HCT.out).mono ?_;rintro e w' ⟨rfl,rfl⟩;go_wp2_with fail;have hcp:bo (sw (bl s))=bo ⟨bl s3,b1,b3,false⟩:=by rw[HRU.out]
   have HCP:=ab hcp;clear hcp;have hb0:Below w.heap.size w ((w.alloc (.cells #[.string ⟨#[]⟩, .bool false, .bool false, .bool false] 141)).alloc (.cells #[.string s3, .bool b1, .bool b3, .bool false] 141)):=((Below.refl _ _).alloc (Nat.le_refl _) _).alloc (by simp) _;have HB0:=ab hb0;clear hb0
   cases hcs:bo ⟨bl s3,b1,b3,false⟩with
   | none=>
    have HCS:=ab hcs;clear hcs;refine(ee s3 b1 b3 false _ (HE.out.below HB0.out) (by omega)).mono ?_;rw[HCS.out];rintro e w3 ⟨rfl,hb3⟩;have hres:w3.heap[w.heap.size]? =some (.cells #[.string ⟨#[]⟩, .bool false, .bool false, .bool false] 141 (0,0)):=by
     rw[hb3.block _ (by simp; omega),Below.heap_alloc _ _ _ (by simp)]; exact heap_alloc_new w _
    have hb3':=ak HB0.out hb3;have HB3:=ab hb3';clear hb3 hb3';have r0:w3.cell? ⟨w.heap.size,0,none⟩=some (.string ⟨#[]⟩):=by rw[ah hres]; rfl
    have r1:w3.cell? ⟨w.heap.size,1,none⟩=some (.bool false):=by rw[ah hres]; rfl
    have r2:w3.cell? ⟨w.heap.size,2,none⟩=some (.bool false):=by rw[ah hres]; rfl
    have r3:w3.cell? ⟨w.heap.size,3,none⟩=some (.bool false):=by rw[ah hres]; rfl
    have f0:w3.frozen? ⟨w.heap.size,0,none⟩=false:=am hres;have f1:w3.frozen? ⟨w.heap.size,1,none⟩=false:=am hres;have f2:w3.frozen? ⟨w.heap.size,2,none⟩=false:=am hres;have f3:w3.frozen? ⟨w.heap.size,3,none⟩=false:=am hres;have HR:=ab hres;clear hres;go_wp2_with fail;obtain⟨W,hW⟩: ∃W,W=((((w3.setCell ⟨w.heap.size,0,none⟩ (.string ⟨#[]⟩)).setCell ⟨w.heap.size,1,none⟩ (.bool false)).setCell ⟨w.heap.size,2,none⟩ (.bool false)).setCell ⟨w.heap.size,3,none⟩ (.bool false)):=⟨_,rfl⟩
    rw[<-hW];have h4:=kt HR.out (.string ⟨#[]⟩) (.bool false) (.bool false) (.bool false);rw[<-hW]at h4;obtain⟨h41,h42⟩:=h4;have m0:W.cell? ⟨w.heap.size,0,none⟩=some (.string ⟨#[]⟩):=by rw[ah h41]; rfl
    have m1:W.cell? ⟨w.heap.size,1,none⟩=some (.bool false):=by rw[ah h41]; rfl
    have m2:W.cell? ⟨w.heap.size,2,none⟩=some (.bool false):=by rw[ah h41]; rfl
    have m3:W.cell? ⟨w.heap.size,3,none⟩=some (.bool false):=by rw[ah h41]; rfl
    clear hW;refine bodyPost_ret (v:= .tuple #[.agg #[.string ⟨#[]⟩, .bool false, .bool false, .bool false], .bool false]) (by simp[results,Tryz.results72,go_sem,m0,m1,m2,m3]) rfl ?_;refine⟨?_,HB3.out.grown h42 HB3.out.size (fun k hk=>by cases hk; exact Nat.le_refl _)⟩;rw[cF,HCP.out,HCS.out]; rfl
   | some cs=>
    have HCS:=ab hcs;clear hcs;refine(ee s3 b1 b3 false _ (HE.out.below HB0.out) (by omega)).mono ?_;rw[HCS.out];rintro e w3 ⟨pv,rfl,hpv,hb3⟩;clear hpv;have hres:w3.heap[w.heap.size]? =some (.cells #[.string ⟨#[]⟩, .bool false, .bool false, .bool false] 141 (0,0)):=by
     rw[hb3.block _ (by simp; omega),Below.heap_alloc _ _ _ (by simp)]; exact heap_alloc_new w _
    have hbox:w3.heap[w.heap.size+1]? =some (.cells #[.string s3, .bool b1, .bool b3, .bool false] 141 (0,0)):=by
     rw[hb3.block _ (by simp)];have:=heap_alloc_new (w.alloc (.cells #[.string ⟨#[]⟩, .bool false, .bool false, .bool false] 141)) (.cells #[.string s3, .bool b1, .bool b3, .bool false] 141)
     simpa using this
    have n0:w3.cell? ⟨w.heap.size+1,0,none⟩=some (.string s3):=by rw[ah hbox]; rfl
    have n1:w3.cell? ⟨w.heap.size+1,1,none⟩=some (.bool b1):=by rw[ah hbox]; rfl
    have n2:w3.cell? ⟨w.heap.size+1,2,none⟩=some (.bool b3):=by rw[ah hbox]; rfl
    have n3:w3.cell? ⟨w.heap.size+1,3,none⟩=some (.bool false):=by rw[ah hbox]; rfl
    clear hbox;have hb3':=ak HB0.out hb3;have HB3:=ab hb3';clear hb3 hb3';have r0:w3.cell? ⟨w.heap.size,0,none⟩=some (.string ⟨#[]⟩):=by rw[ah hres]; rfl
    have r1:w3.cell? ⟨w.heap.size,1,none⟩=some (.bool false):=by rw[ah hres]; rfl
    have r2:w3.cell? ⟨w.heap.size,2,none⟩=some (.bool false):=by rw[ah hres]; rfl
    have r3:w3.cell? ⟨w.heap.size,3,none⟩=some (.bool false):=by rw[ah hres]; rfl
    have f0:w3.frozen? ⟨w.heap.size,0,none⟩=false:=am hres;have f1:w3.frozen? ⟨w.heap.size,1,none⟩=false:=am hres;have f2:w3.frozen? ⟨w.heap.size,2,none⟩=false:=am hres;have f3:w3.frozen? ⟨w.heap.size,3,none⟩=false:=am hres;have HR:=ab hres;clear hres;go_wp2_with fail;obtain⟨W,hW⟩: ∃W,W=((((w3.setCell ⟨w.heap.size,0,none⟩ (.string s3)).setCell ⟨w.heap.size,1,none⟩ (.bool b1)).setCell ⟨w.heap.size,2,none⟩ (.bool b3)).setCell ⟨w.heap.size,3,none⟩ (.bool false)):=⟨_,rfl⟩
    rw[<-hW];have h4:=kt HR.out (.string s3) (.bool b1) (.bool b3) (.bool false);rw[<-hW]at h4;obtain⟨h41,h42⟩:=h4;have m0:W.cell? ⟨w.heap.size,0,none⟩=some (.string s3):=by rw[ah h41]; rfl
    have m1:W.cell? ⟨w.heap.size,1,none⟩=some (.bool b1):=by rw[ah h41]; rfl
    have m2:W.cell? ⟨w.heap.size,2,none⟩=some (.bool b3):=by rw[ah h41]; rfl
    have m3:W.cell? ⟨w.heap.size,3,none⟩=some (.bool false):=by rw[ah h41]; rfl
    clear hW;refine bodyPost_ret (v:= .tuple #[.agg #[.string s3, .bool b1, .bool b3, .bool false], .bool true]) (by simp[results,Tryz.results72,go_sem,m0,m1,m2,m3]) rfl ?_;refine⟨?_,HB3.out.grown h42 HB3.out.size (fun k hk=>by cases hk; exact Nat.le_refl _)⟩;rw[cF,HCP.out,HCS.out];simp only[Option.isSome_some,if_true,HRU.out,fK,sx,lr]
  ·have HCT:=ab hct;rw[hct]at hru;have HRU:=ab hru;clear hct hru;go_wp2_with fail;refine(fY s3 47 true _ HCT.out).mono ?_;rintro e w' ⟨rfl,rfl⟩;go_wp2_with fail;have hcp:bo (sw (bl s))=bo ⟨bl s3,b1,b3,true⟩:=by rw[HRU.out]
   have HCP:=ab hcp;clear hcp;have hb0:Below w.heap.size w ((w.alloc (.cells #[.string ⟨#[]⟩, .bool false, .bool false, .bool false] 141)).alloc (.cells #[.string s3, .bool b1, .bool b3, .bool true] 141)):=((Below.refl _ _).alloc (Nat.le_refl _) _).alloc (by simp) _;have HB0:=ab hb0;clear hb0
   cases hcs:bo ⟨bl s3,b1,b3,true⟩with
   | none=>
    have HCS:=ab hcs;clear hcs;refine(ee s3 b1 b3 true _ (HE.out.below HB0.out) (by omega)).mono ?_;rw[HCS.out];rintro e w3 ⟨rfl,hb3⟩;have hres:w3.heap[w.heap.size]? =some (.cells #[.string ⟨#[]⟩, .bool false, .bool false, .bool false] 141 (0,0)):=by
     rw[hb3.block _ (by simp; omega),Below.heap_alloc _ _ _ (by simp)]; exact heap_alloc_new w _
    have hb3':=ak HB0.out hb3;have HB3:=ab hb3';clear hb3 hb3';have r0:w3.cell? ⟨w.heap.size,0,none⟩=some (.string ⟨#[]⟩):=by rw[ah hres]; rfl
    have r1:w3.cell? ⟨w.heap.size,1,none⟩=some (.bool false):=by rw[ah hres]; rfl
    have r2:w3.cell? ⟨w.heap.size,2,none⟩=some (.bool false):=by rw[ah hres]; rfl
    have r3:w3.cell? ⟨w.heap.size,3,none⟩=some (.bool false):=by rw[ah hres]; rfl
    have f0:w3.frozen? ⟨w.heap.size,0,none⟩=false:=am hres;have f1:w3.frozen? ⟨w.heap.size,1,none⟩=false:=am hres;have f2:w3.frozen? ⟨w.heap.size,2,none⟩=false:=am hres;have f3:w3.frozen? ⟨w.heap.size,3,none⟩=false:=am hres;have HR:=ab hres;clear hres;go_wp2_with fail;obtain⟨W,hW⟩: ∃W,W=((((w3.setCell ⟨w.heap.size,0,none⟩ (.string ⟨#[]⟩)).setCell ⟨w.heap.size,1,none⟩ (.bool false)).setCell ⟨w.heap.size,2,none⟩ (.bool false)).setCell ⟨w.heap.size,3,none⟩ (.bool false)):=⟨_,rfl⟩
    rw[<-hW];have h4:=kt HR.out (.string ⟨#[]⟩) (.bool false) (.bool false) (.bool false);rw[<-hW]at h4;obtain⟨h41,h42⟩:=h4;have m0:W.cell? ⟨w.heap.size,0,none⟩=some (.string ⟨#[]⟩):=by rw[ah h41]; rfl
    have m1:W.cell? ⟨w.heap.size,1,none⟩=some (.bool false):=by rw[ah h41]; rfl
    have m2:W.cell? ⟨w.heap.size,2,none⟩=some (.bool false):=by rw[ah h41]; rfl
    have m3:W.cell? ⟨w.heap.size,3,none⟩=some (.bool false):=by rw[ah h41]; rfl
    clear hW;refine bodyPost_ret (v:= .tuple #[.agg #[.string ⟨#[]⟩, .bool false, .bool false, .bool false], .bool false]) (by simp[results,Tryz.results72,go_sem,m0,m1,m2,m3]) rfl ?_;refine⟨?_,HB3.out.grown h42 HB3.out.size (fun k hk=>by cases hk; exact Nat.le_refl _)⟩;rw[cF,HCP.out,HCS.out]; rfl
   | some cs=>
    have HCS:=ab hcs;clear hcs;refine(ee s3 b1 b3 true _ (HE.out.below HB0.out) (by omega)).mono ?_;rw[HCS.out];rintro e w3 ⟨pv,rfl,hpv,hb3⟩;clear hpv;have hres:w3.heap[w.heap.size]? =some (.cells #[.string ⟨#[]⟩, .bool false, .bool false, .bool false] 141 (0,0)):=by
     rw[hb3.block _ (by simp; omega),Below.heap_alloc _ _ _ (by simp)]; exact heap_alloc_new w _
    have hbox:w3.heap[w.heap.size+1]? =some (.cells #[.string s3, .bool b1, .bool b3, .bool true] 141 (0,0)):=by
     rw[hb3.block _ (by simp)];have:=heap_alloc_new (w.alloc (.cells #[.string ⟨#[]⟩, .bool false, .bool false, .bool false] 141)) (.cells #[.string s3, .bool b1, .bool b3, .bool true] 141)
     simpa using this
    have n0:w3.cell? ⟨w.heap.size+1,0,none⟩=some (.string s3):=by rw[ah hbox]; rfl
    have n1:w3.cell? ⟨w.heap.size+1,1,none⟩=some (.bool b1):=by rw[ah hbox]; rfl
    have n2:w3.cell? ⟨w.heap.size+1,2,none⟩=some (.bool b3):=by rw[ah hbox]; rfl
    have n3:w3.cell? ⟨w.heap.size+1,3,none⟩=some (.bool true):=by rw[ah hbox]; rfl
    clear hbox;have hb3':=ak HB0.out hb3;have HB3:=ab hb3';clear hb3 hb3';have r0:w3.cell? ⟨w.heap.size,0,none⟩=some (.string ⟨#[]⟩):=by rw[ah hres]; rfl
    have r1:w3.cell? ⟨w.heap.size,1,none⟩=some (.bool false):=by rw[ah hres]; rfl
    have r2:w3.cell? ⟨w.heap.size,2,none⟩=some (.bool false):=by rw[ah hres]; rfl
    have r3:w3.cell? ⟨w.heap.size,3,none⟩=some (.bool false):=by rw[ah hres]; rfl
    have f0:w3.frozen? ⟨w.heap.size,0,none⟩=false:=am hres;have f1:w3.frozen? ⟨w.heap.size,1,none⟩=false:=am hres;have f2:w3.frozen? ⟨w.heap.size,2,none⟩=false:=am hres;have f3:w3.frozen? ⟨w.heap.size,3,none⟩=false:=am hres;have HR:=ab hres;clear hres;go_wp2_with fail;obtain⟨W,hW⟩: ∃W,W=((((w3.setCell ⟨w.heap.size,0,none⟩ (.string s3)).setCell ⟨w.heap.size,1,none⟩ (.bool b1)).setCell ⟨w.heap.size,2,none⟩ (.bool b3)).setCell ⟨w.heap.size,3,none⟩ (.bool true)):=⟨_,rfl⟩
    rw[<-hW];have h4:=kt HR.out (.string s3) (.bool b1) (.bool b3) (.bool true);rw[<-hW]at h4;obtain⟨h41,h42⟩:=h4;have m0:W.cell? ⟨w.heap.size,0,none⟩=some (.string s3):=by rw[ah h41]; rfl
    have m1:W.cell? ⟨w.heap.size,1,none⟩=some (.bool b1):=by rw[ah h41]; rfl
    have m2:W.cell? ⟨w.heap.size,2,none⟩=some (.bool b3):=by rw[ah h41]; rfl
    have m3:W.cell? ⟨w.heap.size,3,none⟩=some (.bool true):=by rw[ah h41]; rfl
    clear hW;refine bodyPost_ret (v:= .tuple #[.agg #[.string s3, .bool b1, .bool b3, .bool true], .bool true]) (by simp[results,Tryz.results72,go_sem,m0,m1,m2,m3]) rfl ?_;refine⟨?_,HB3.out.grown h42 HB3.out.size (fun k hk=>by cases hk; exact Nat.le_refl _)⟩;rw[cF,HCP.out,HCS.out];simp only[Option.isSome_some,if_true,HRU.out,fK,sx,lr]
 ·rw[Bool.true_or]at hru;have HRU:=ab hru;clear hru;go_wp2_with fail;have hcp:bo (sw (bl s))=bo ⟨bl s3,b1,b3,true⟩:=by rw[HRU.out]
  have HCP:=ab hcp;clear hcp;have hb0:Below w.heap.size w ((w.alloc (.cells #[.string ⟨#[]⟩, .bool false, .bool false, .bool false] 141)).alloc (.cells #[.string s3, .bool b1, .bool b3, .bool true] 141)):=((Below.refl _ _).alloc (Nat.le_refl _) _).alloc (by simp) _;have HB0:=ab hb0;clear hb0
  cases hcs:bo ⟨bl s3,b1,b3,true⟩with
  | none=>
   have HCS:=ab hcs;clear hcs;refine(ee s3 b1 b3 true _ (HE.out.below HB0.out) (by omega)).mono ?_;rw[HCS.out];rintro e w3 ⟨rfl,hb3⟩;have hres:w3.heap[w.heap.size]? =some (.cells #[.string ⟨#[]⟩, .bool false, .bool false, .bool false] 141 (0,0)):=by
    rw[hb3.block _ (by simp; omega),Below.heap_alloc _ _ _ (by simp)]; exact heap_alloc_new w _
   have hb3':=ak HB0.out hb3;have HB3:=ab hb3';clear hb3 hb3';have r0:w3.cell? ⟨w.heap.size,0,none⟩=some (.string ⟨#[]⟩):=by rw[ah hres]; rfl
   have r1:w3.cell? ⟨w.heap.size,1,none⟩=some (.bool false):=by rw[ah hres]; rfl
   have r2:w3.cell? ⟨w.heap.size,2,none⟩=some (.bool false):=by rw[ah hres]; rfl
   have r3:w3.cell? ⟨w.heap.size,3,none⟩=some (.bool false):=by rw[ah hres]; rfl
   have f0:w3.frozen? ⟨w.heap.size,0,none⟩=false:=am hres;have f1:w3.frozen? ⟨w.heap.size,1,none⟩=false:=am hres;have f2:w3.frozen? ⟨w.heap.size,2,none⟩=false:=am hres;have f3:w3.frozen? ⟨w.heap.size,3,none⟩=false:=am hres;have HR:=ab hres;clear hres;go_wp2_with fail;obtain⟨W,hW⟩: ∃W,W=((((w3.setCell ⟨w.heap.size,0,none⟩ (.string ⟨#[]⟩)).setCell ⟨w.heap.size,1,none⟩ (.bool false)).setCell ⟨w.heap.size,2,none⟩ (.bool false)).setCell ⟨w.heap.size,3,none⟩ (.bool false)):=⟨_,rfl⟩
   rw[<-hW];have h4:=kt HR.out (.string ⟨#[]⟩) (.bool false) (.bool false) (.bool false);rw[<-hW]at h4;obtain⟨h41,h42⟩:=h4;have m0:W.cell? ⟨w.heap.size,0,none⟩=some (.string ⟨#[]⟩):=by rw[ah h41]; rfl
   have m1:W.cell? ⟨w.heap.size,1,none⟩=some (.bool false):=by rw[ah h41]; rfl
   have m2:W.cell? ⟨w.heap.size,2,none⟩=some (.bool false):=by rw[ah h41]; rfl
   have m3:W.cell? ⟨w.heap.size,3,none⟩=some (.bool false):=by rw[ah h41]; rfl
   clear hW;refine bodyPost_ret (v:= .tuple #[.agg #[.string ⟨#[]⟩, .bool false, .bool false, .bool false], .bool false]) (by simp[results,Tryz.results72,go_sem,m0,m1,m2,m3]) rfl ?_;refine⟨?_,HB3.out.grown h42 HB3.out.size (fun k hk=>by cases hk; exact Nat.le_refl _)⟩;rw[cF,HCP.out,HCS.out]; rfl
  | some cs=>
   have HCS:=ab hcs;clear hcs;refine(ee s3 b1 b3 true _ (HE.out.below HB0.out) (by omega)).mono ?_;rw[HCS.out];rintro e w3 ⟨pv,rfl,hpv,hb3⟩;clear hpv;have hres:w3.heap[w.heap.size]? =some (.cells #[.string ⟨#[]⟩, .bool false, .bool false, .bool false] 141 (0,0)):=by
    rw[hb3.block _ (by simp; omega),Below.heap_alloc _ _ _ (by simp)]; exact heap_alloc_new w _
   have hbox:w3.heap[w.heap.size+1]? =some (.cells #[.string s3, .bool b1, .bool b3, .bool true] 141 (0,0)):=by
    rw[hb3.block _ (by simp)];have:=heap_alloc_new (w.alloc (.cells #[.string ⟨#[]⟩, .bool false, .bool false, .bool false] 141)) (.cells #[.string s3, .bool b1, .bool b3, .bool true] 141)
    simpa using this
   have n0:w3.cell? ⟨w.heap.size+1,0,none⟩=some (.string s3):=by rw[ah hbox]; rfl
   have n1:w3.cell? ⟨w.heap.size+1,1,none⟩=some (.bool b1):=by rw[ah hbox]; rfl
   have n2:w3.cell? ⟨w.heap.size+1,2,none⟩=some (.bool b3):=by rw[ah hbox]; rfl
   have n3:w3.cell? ⟨w.heap.size+1,3,none⟩=some (.bool true):=by rw[ah hbox]; rfl
   clear hbox;have hb3':=ak HB0.out hb3;have HB3:=ab hb3';clear hb3 hb3';have r0:w3.cell? ⟨w.heap.size,0,none⟩=some (.string ⟨#[]⟩):=by rw[ah hres]; rfl
   have r1:w3.cell? ⟨w.heap.size,1,none⟩=some (.bool false):=by rw[ah hres]; rfl
   have r2:w3.cell? ⟨w.heap.size,2,none⟩=some (.bool false):=by rw[ah hres]; rfl
   have r3:w3.cell? ⟨w.heap.size,3,none⟩=some (.bool false):=by rw[ah hres]; rfl
   have f0:w3.frozen? ⟨w.heap.size,0,none⟩=false:=am hres;have f1:w3.frozen? ⟨w.heap.size,1,none⟩=false:=am hres;have f2:w3.frozen? ⟨w.heap.size,2,none⟩=false:=am hres;have f3:w3.frozen? ⟨w.heap.size,3,none⟩=false:=am hres;have HR:=ab hres;clear hres;go_wp2_with fail;obtain⟨W,hW⟩: ∃W,W=((((w3.setCell ⟨w.heap.size,0,none⟩ (.string s3)).setCell ⟨w.heap.size,1,none⟩ (.bool b1)).setCell ⟨w.heap.size,2,none⟩ (.bool b3)).setCell ⟨w.heap.size,3,none⟩ (.bool true)):=⟨_,rfl⟩
   rw[<-hW];have h4:=kt HR.out (.string s3) (.bool b1) (.bool b3) (.bool true);rw[<-hW]at h4;obtain⟨h41,h42⟩:=h4;have m0:W.cell? ⟨w.heap.size,0,none⟩=some (.string s3):=by rw[ah h41]; rfl
   have m1:W.cell? ⟨w.heap.size,1,none⟩=some (.bool b1):=by rw[ah h41]; rfl
   have m2:W.cell? ⟨w.heap.size,2,none⟩=some (.bool b3):=by rw[ah h41]; rfl
   have m3:W.cell? ⟨w.heap.size,3,none⟩=some (.bool true):=by rw[ah h41]; rfl
   clear hW;refine bodyPost_ret (v:= .tuple #[.agg #[.string s3, .bool b1, .bool b3, .bool true], .bool true]) (by simp[results,Tryz.results72,go_sem,m0,m1,m2,m3]) rfl ?_;refine⟨?_,HB3.out.grown h42 HB3.out.size (fun k hk=>by cases hk; exact Nat.le_refl _)⟩;rw[cF,HCP.out,HCS.out];simp only[Option.isSome_some,if_true,HRU.out,fK,sx,lr]
theorem qd : ∀rs:List bd,bB ri (rs.flatMap kq) rs
 | []=>rfl
 | r::rs=>⟨kq r,rs.flatMap kq,by rw[List.flatMap_cons],rfl,qd rs⟩
theorem Tryz.appRules :cY Tryz.prog 86 141 4 24:=cY.mk' (z:= .agg #[.string ByteArray.empty, .bool false, .bool false, .bool false]) Tryz.underlying86 (by kernel_rfl) rfl (by decide) (by decide)
theorem qY {w:World} {base:Nat} {v:Value} {rs:List bd} (h:w.ownsRow base 141 4 v rs.length (rs.flatMap kq)):bW (base<= ·) w v rs:=
 ⟨rs.flatMap kq,(bp h).weak (fun _ hk=>hk.1),qd rs⟩
theorem vq {w w':World} {base:Nat} {e:TypeId} {sz:Nat} {v:Value} {n:Nat} {xs:List Value} (h:w.ownsRow base e sz v n xs) (hb:Below w.heap.size w w'):w'.ownsRow base e sz v n xs:=
 h.kept (grownBy.of_below (r:=none) hb) (by cases v.ownBlock<;> simp)
theorem wI (w:World) (o:Obj):(w.alloc o).heap.size=w.heap.size+1:=by simp
def BB (o:List bd×Int×Int) (w:World) (e:Ending) (w':World):Prop:=
 ∃v,e= .returned (.tuple #[v, .int .i64 o.2.1, .int .i64 o.2.2])/\bW (w.heap.size<= ·) w' v o.1/\Below w.heap.size w w'
theorem nk {S:Nat->Prop} {w:World} :bW S w (.slice none 0 0) []:=aY.nil
theorem pP {ls:List (List UInt8)} {k:Nat} {acc:List bd} {l:List UInt8} (h:ls[k]? =some l) (hl:l=[]\/Lib.hasPrefix l [35]=true):dn (ls.drop k) k acc=dn (ls.drop (k+1)) (k+1) acc:=by
 obtain⟨hk,rfl⟩:=List.getElem?_eq_some_iff.1 h;rw[List.drop_eq_getElem_cons hk,dn,if_pos hl]
theorem sj {ls:List (List UInt8)} {k:Nat} {acc:List bd} {l:List UInt8} (h:ls[k]? =some l) (h1:l≠[]) (h2:Lib.hasPrefix l [35]=false) (hp:cF l=none):dn (ls.drop k) k acc=([],(k:Int)+1,3):=by
 obtain⟨hk,rfl⟩:=List.getElem?_eq_some_iff.1 h;rw[List.drop_eq_getElem_cons hk,dn,if_neg (by rw[h2]; simp[h1]),hp]
theorem pO {ls:List (List UInt8)} {k:Nat} {acc:List bd} {l:List UInt8} {r:bd} (h:ls[k]? =some l) (h1:l≠[]) (h2:Lib.hasPrefix l [35]=false) (hp:cF l=some r) (ha:acc.length=256):dn (ls.drop k) k acc=([],(k:Int)+1,2):=by
 obtain⟨hk,rfl⟩:=List.getElem?_eq_some_iff.1 h;rw[List.drop_eq_getElem_cons hk,dn,if_neg (by rw[h2]; simp[h1]),hp];simp[ha]
theorem Ah {ls:List (List UInt8)} {k:Nat} {acc:List bd} {l:List UInt8} {r:bd} (h:ls[k]? =some l) (h1:l≠[]) (h2:Lib.hasPrefix l [35]=false) (hp:cF l=some r) (ha: ¬acc.length=256):dn (ls.drop k) k acc=dn (ls.drop (k+1)) (k+1) (acc++[r]):=by
 obtain⟨hk,rfl⟩:=List.getElem?_eq_some_iff.1 h;rw[List.drop_eq_getElem_cons hk,dn,if_neg (by rw[h2]; simp[h1]),hp];simp[ha]
theorem Ai (s:ByteArray) (w:World) (he:jE w):Calls Tryz.prog 37 #[.string s] w (BB (cI (bl s)) w):=by
 have HE:=ab he;clear he
 by_cases h6:s.size<=65536
 ·have hpe:cI (bl s)=dn (aF 10 (bl s)) 0 []:=by unfold cI; rw[if_neg (by rw[<-ay]; omega)]
  have HPE:=ab hpe;clear hpe
  go_enter Tryz.func37,Tryz.ntmps37
  go_wp2_with fail;refine(no s 10 w HE.out (by omega)).mono ?_;rintro e w' ⟨xs,hx,rfl,rfl⟩;have hxl:xs.length<=65537:=by
   have h1:(aF 10 (bl s)).length=xs.length:=by rw[<-hx]; simp
   have h2:=dY 10 (bl s);rw[<-ay]at h2;omega
  have HX:=ab hx;clear hx;go_wp2_with fail
  go_loopw [5,16] (fun v i wr=> ∃(k:Nat) (rs:List bd),k<=xs.length/\rs.length<=256/\i= .int .i64 k/\wr.ownsRow (w.heap.size+1) 141 4 v rs.length (rs.flatMap kq)/\
    Below (w.heap.size+1) (w.alloc (.cells (xs.map Value.string).toArray 9)) wr/\dn (aF 10 (bl s)) 0 []=dn ((xs.map bl).drop k) k rs) (fun _ i _=>xs.length-(intOf i).toNat)
  case atStart=>exact⟨0,[],Nat.zero_le _,Nat.zero_le _,rfl,World.ownsRow_nil _ _ _ _,Below.refl _ _,by rw[HX.out]; rfl⟩
  case round=>
   obtain⟨k,rs,hk,hrs,rfl,hown,hb,hc⟩:=hrel;have HC:=ab hc;have HB:=ab hb;have HO:=ab hown;have hsz:w.heap.size+1<=wr.heap.size:=by have:=hb.size; simpa using this
   have hbw:Below w.heap.size w wr:=ak ((Below.refl _ _).alloc (Nat.le_refl _) _) (by simpa using hb);have HBW:=ab hbw;obtain⟨av,cv,rfl,hnv,hmv⟩:=au hown;clear hbw
   by_cases hlt:k<xs.length
   ·obtain⟨x,hx⟩: ∃x,xs[k]? =some x:=⟨xs[k],by simp[hlt]⟩;have hcell:wr.cell? ⟨w.heap.size,k,none⟩=some (.string x):=(hb.cell (p:=⟨w.heap.size,k,none⟩) (by simp)).trans (mG (tD hx));have hxs:x.size<=65536:=by have:=kQ HX.out hx; omega
    have HK:=ab hx;clear hx hb hc hown;have HP:=ab (show(xs.map bl)[k]? =some (bl x) by simp[HK.out])
    by_cases h0:bl x=[]
    ·have e0:x.toList.isEmpty=true:=by rw[bD,h0]; rfl
     have H0:=ab h0;clear h0;go_wp2_with fail
     go_roundw
     case rel=>exact⟨k+1,rs,by omega,hrs,by go_num,HO.out,HB.out,by rw[HC.out]; exact pP HP.out (.inl H0.out)⟩
     case measure=>simp[intOf]; omega
    ·have e0:x.toList.isEmpty=false:=by rw[bD]; simpa using h0
     have H0:=ab h0;clear h0
     cases hh:Lib.hasPrefix (bl x) [35]
     ·have HH:=ab hh;clear hh;go_wp2_with fail;refine(cV x ⟨#[35]⟩ false _ HH.out).mono ?_;rintro e w' ⟨rfl,rfl⟩;go_wp2_with fail
      cases hpl:cF (bl x)with
      | none=>
       have HPL:=ab hpl;clear hpl;refine(lu x wr (HE.out.below HBW.out) hxs).mono ?_;rw[HPL.out];rintro e w2 ⟨rfl,hb2⟩;have HB2:=ab hb2;clear hb2;simp only[fK,wA];go_wp2_with fail
       go_ret3
       refine⟨.slice none 0 0, ?_, ?_,ak (ak HBW.out HB2.out) ((Below.refl _ _).alloc (Nat.le_refl _) _)⟩
       ·rw[HPE.out,HC.out,sj HP.out H0.out HH.out HPL.out]; rfl
       ·rw[HPE.out,HC.out,sj HP.out H0.out HH.out HPL.out]; exact nk
      | some r=>
       have HPL:=ab hpl;clear hpl;refine(lu x wr (HE.out.below HBW.out) hxs).mono ?_;rw[HPL.out];rintro e w2 ⟨rfl,hb2⟩;have HB2:=ab hb2;have hsz2:=hb2.size;clear hb2;obtain⟨rp,rk,rd,rr⟩:=r;simp only[fK,sx]
       by_cases hfull:rs.length=256
       ·have ef:((rs.length:Int) == 256)=true:=by rw[hfull]; rfl
        have HF:=ab hfull;clear hfull;go_wp2_with fail
        go_ret3
        refine⟨.slice none 0 0, ?_, ?_,ak (ak HBW.out HB2.out) ((Below.refl _ _).alloc (Nat.le_refl _) _)⟩
        ·rw[HPE.out,HC.out,pO HP.out H0.out HH.out HPL.out HF.out]; rfl
        ·rw[HPE.out,HC.out,pO HP.out H0.out HH.out HPL.out HF.out]; exact nk
       ·have ef:((rs.length:Int) == 256)=false:=by rw[beq_eq_false_iff_ne]; omega
        have HF:=ab hfull;have hlt2:rs.length<256:=by omega
        clear hfull;have HO2:=ab (show World.ownsRow (w2.alloc (.cells #[.string ⟨rp.toArray⟩, .bool rk, .bool rd, .bool rr] 141)) (w.heap.size+1) 141 4 (.slice av rs.length cv) rs.length (rs.flatMap kq)from(vq HO.out HB2.out).alloc _);go_wp2_with (at_builtin; go_must (refine dB Tryz.appRules rfl _ _ rfl (w.heap.size+1) (.slice av rs.length cv) rs.length (rs.flatMap kq) rfl (w2.alloc (.cells #[.string ⟨rp.toArray⟩, .bool rk, .bool rd, .bool rr] 141)) (kq ⟨rp,rk,rd,rr⟩) _ (by rw[wI]; rfl) rfl (by simp[kq]; exact⟨rfl,rfl,rfl,rfl⟩) HO2.out (by omega) (by simp; omega) ?_); intro v' w3 hown1 hgrow1 _)
        have HO1:=ab hown1;have HG1:=ab hgrow1;clear hown1 hgrow1;go_wp2_with fail
        go_roundw
        case rel=>
         refine⟨k+1,rs++[⟨rp,rk,rd,rr⟩],by omega,by simp; omega,by go_num, ?_, ?_,by rw[HC.out]; exact Ah HP.out H0.out HH.out HPL.out HF.out⟩
         ·have:=HO1.out; simpa using this
         ·exact aZ (((HB.out.trans (HB2.out.mono hsz)).alloc (by omega) _)) HO2.out HG1.out (Nat.le_refl _) (by simp; omega)
        case measure=>simp[intOf]; omega
     ·have HH:=ab hh;clear hh;go_wp2_with fail;refine(cV x ⟨#[35]⟩ true _ HH.out).mono ?_;rintro e w' ⟨rfl,rfl⟩;go_wp2_with fail
      go_roundw
      case rel=>exact⟨k+1,rs,by omega,hrs,by go_num,HO.out,HB.out,by rw[HC.out]; exact pP HP.out (.inr HH.out)⟩
      case measure=>simp[intOf]; omega
   ·clear hb hc hown;go_wp2_with fail
    go_ret3
    have hfin:cI (bl s)=(rs,0,0):=by
     rw[HPE.out,HC.out,List.drop_eq_nil_of_le (by simp; omega)]; rfl
    refine⟨.slice av rs.length cv,by rw[hfin]; rfl, ?_,HBW.out⟩;rw[hfin];exact aY.mono (qY HO.out) (by omega) (fun k _ hk=>by omega) (fun _ _ _ h=>h)
 ·have hpe:cI (bl s)=([],0,2):=by unfold cI; rw[if_pos (by rw[<-ay]; omega)]
  have HPE:=ab hpe;clear hpe
  go_enter Tryz.func37,Tryz.ntmps37
  go_wp2_with fail
  go_ret3
  exact⟨.slice none 0 0,by rw[HPE.out]; rfl,by rw[HPE.out]; exact nk,Below.refl _ _⟩
open Go Go.RowKit Go.Maps
section
variable {w : World} {b : Nat} {a0 a1 a2 a3 a4 a5 x0 x1 x2 x3 x4 x5 : Value}
theorem Gz (h:w.heap[b]? =some (.cells #[a0,a1,a2,a3,a4,a5] 54 (0,0))):
  ((((((w.setCell ⟨b,0,none⟩ x0).setCell ⟨b,1,none⟩ x1).setCell ⟨b,2,none⟩ x2).setCell ⟨b,3,none⟩ x3).setCell ⟨b,4,none⟩ x4).setCell ⟨b,5,none⟩ x5).heap[b]? =some (.cells #[x0,x1,x2,x3,x4,x5] 54 (0,0)):=by
 have h0:=oq (k:=0) h x0;have h1:=oq (k:=1) h0 x1;have h2:=oq (k:=2) h1 x2;have h3:=oq (k:=3) h2 x3;have h4:=oq (k:=4) h3 x4;have h5:=oq (k:=5) h4 x5
 simpa using h5
theorem EW {a:Act} {e7:Value} (h:w.heap[b]? =some (.cells #[x0,x1,x2,x3,x4,x5] 54 (0,0)))
  (h10:a.tmps[10]? =some (.pointer (some ⟨b,0,none⟩))) (h11:a.tmps[11]? =some e7):(results Tryz.f20 a.tmps).run Tryz.prog w= .ok (.tuple #[.agg #[x0,x1,x2,x3,x4,x5],e7]) w:=by
 have m0:=ai (k:=0) h;have m1:=ai (k:=1) h;have m2:=ai (k:=2) h;have m3:=ai (k:=3) h;have m4:=ai (k:=4) h;have m5:=ai (k:=5) h;simp only[eE]at m0 m1 m2 m3 m4 m5;simp[results,Tryz.results20,go_sem,h10,h11,m0,m1,m2,m3,m4,m5]
theorem kS {a:Act} {e7:Value} {Q:Ending->World->Prop} (h:w.heap[b]? =some (.cells #[a0,a1,a2,a3,a4,a5] 54 (0,0)))
  (h10:a.tmps[10]? =some (.pointer (some ⟨b,0,none⟩))) (h11:a.tmps[11]? =some e7) (hd:a.defers=[])
  (hQ:Q (.returned (.tuple #[.agg #[x0,x1,x2,x3,x4,x5],e7])) ((((((w.setCell ⟨b,0,none⟩ x0).setCell ⟨b,1,none⟩ x1).setCell ⟨b,2,none⟩ x2).setCell ⟨b,3,none⟩ x3).setCell ⟨b,4,none⟩ x4).setCell ⟨b,5,none⟩ x5)):
  bodyPost Tryz.prog Tryz.f20 Q Exit.ret a ((((((w.setCell ⟨b,0,none⟩ x0).setCell ⟨b,1,none⟩ x1).setCell ⟨b,2,none⟩ x2).setCell ⟨b,3,none⟩ x3).setCell ⟨b,4,none⟩ x4).setCell ⟨b,5,none⟩ x5):=bodyPost_ret (EW (Gz h) h10 h11) hd hQ
theorem xx {k:Nat} (hk:k≠b):((((((w.setCell ⟨b,0,none⟩ x0).setCell ⟨b,1,none⟩ x1).setCell ⟨b,2,none⟩ x2).setCell ⟨b,3,none⟩ x3).setCell ⟨b,4,none⟩ x4).setCell ⟨b,5,none⟩ x5).heap[k]? =w.heap[k]? :=by
 rw[Below.heap_setCell _ _ _ _ (by exact hk),Below.heap_setCell _ _ _ _ (by exact hk),Below.heap_setCell _ _ _ _ (by exact hk),Below.heap_setCell _ _ _ _ (by exact hk),Below.heap_setCell _ _ _ _ (by exact hk),Below.heap_setCell _ _ _ _ (by exact hk)]
theorem mS {B:Nat} {u:World} (hb:Below B u w) (hB:B<=b) (hz:B<=w.heap.size):Below B u ((((((w.setCell ⟨b,0,none⟩ x0).setCell ⟨b,1,none⟩ x1).setCell ⟨b,2,none⟩ x2).setCell ⟨b,3,none⟩ x3).setCell ⟨b,4,none⟩ x4).setCell ⟨b,5,none⟩ x5):=by
 have hk: ∀(i:Nat),(some b)=some i->B<=i:=fun i e=>by cases e; exact hB
 have g: ∀ {v:World} (k:Nat) (x:Value),B<=v.heap.size->Below B u v->Below B u (v.setCell ⟨b,k,none⟩ x)/\B<=(v.setCell ⟨b,k,none⟩ x).heap.size:=fun k x hz h=>⟨h.grown (aG _ _ _ _) hz hk,Nat.le_trans hz (aG _ b k x).size⟩
 obtain⟨c0,z0⟩:=g 0 x0 hz hb;obtain⟨c1,z1⟩:=g 1 x1 z0 c0;obtain⟨c2,z2⟩:=g 2 x2 z1 c1;obtain⟨c3,z3⟩:=g 3 x3 z2 c2;obtain⟨c4,z4⟩:=g 4 x4 z3 c3;exact(g 5 x5 z4 c4).1
end
def Fs :Value:= .agg #[.int .i64 0, .slice none 0 0, .slice none 0 0, .slice none 0 0, .int .i64 0, .int .i64 0]
def lV (res:Except Int BE) (w:World) (e:Ending) (w':World):Prop:=Below w.heap.size w w'/\match res with
 | .error x=>e= .returned (.tuple #[Fs, .int .i64 x])/\x≠0
 | .ok r=> ∃fv cv nv,e= .returned (.tuple #[.agg #[.int .i64 r.idx.tm,fv,cv,nv, .int .i64 (r.read:Int), .int .i64 (r.kept:Int)], .int .i64 0])/\bQ w' w.heap.size fv r.idx.files/\w'.ownsRow w.heap.size 60 2 cv r.chg.length (gt r.chg)/\cZ w.heap.size nv r.news w'
theorem dM (S:Nat->Prop) (x:cA) (fv:Value) (b:Bool) (w:World) (hx:aT S w fv x.files) (henv:jE w) (h:cR x=b):Calls Tryz.prog 12 #[dQ fv x.tm] w fun e w'=>e= .returned (.bool b)/\Below w.heap.size w w':=by
 rw[<-h]; exact tO S x fv w hx henv
theorem xo (rs:List bd) (S:Nat->Prop) (v:Value) (s:ByteArray) (dir ig:Bool) (w:World) (he:jE w) (hv:bW S w v rs) (hp: ∀r∈rs,r.pat.length<=9223372036854775807) (h:dJ rs (bl s) dir=(ig,0)):
  Calls Tryz.prog 40 #[v, .string s, .bool dir] w fun e w'=>e= .returned (.tuple #[.bool ig, .int .i64 0])/\Below w.heap.size w w':=by
 have:=uV rs S v s dir w he hv hp;rw[h]at this;exact this
theorem Db {S:Nat->Prop} {w:World} {v:Value} {rs:List bd} (h:bW S w v rs):bW (· <w.heap.size) w v rs:=by
 obtain⟨cells,h1,h2⟩:=h;exact⟨cells,aS.mono h1 (fun k hk _=>hk) (by omega),h2⟩
theorem Dc {S T:Nat->Prop} {w:World} {v:Value} {rs:List bd} (h:bW S w v rs) (hs: ∀k,S k->T k):bW T w v rs:=by
 obtain⟨cells,h1,h2⟩:=h;exact⟨cells,h1.weak hs,h2⟩
theorem qi {prev:cA} {tm:Int} {tree:List bG} {rules:List UInt8} {c:eU} (h: ¬(cR prev=true/\prev.tm<=tm/\fq c=true)):fm prev tm tree rules c= .error 1:=by unfold fm; rw[if_neg h]
theorem xP {prev:cA} {tm:Int} {tree:List bG} {rules:List UInt8} {c:eU} {rs:List bd} {n x:Int} (h:cR prev=true/\prev.tm<=tm/\fq c=true) (hp:cI rules=(rs,n,x)) (hx: ¬x=0):fm prev tm tree rules c= .error x:=by
 unfold fm; rw[if_pos h,hp,if_neg hx]
theorem AP {prev:cA} {tm x:Int} {tree:List bG} {rules:List UInt8} {c:eU} {rs:List bd} {n:Int} (h:cR prev=true/\prev.tm<=tm/\fq c=true) (hp:cI rules=(rs,n,0)) (hx:cD tree=x) (h0: ¬x=0):fm prev tm tree rules c= .error x:=by
 unfold fm; rw[if_pos h,hp,if_pos rfl,hx,if_neg h0]
theorem EV {prev:cA} {tm:Int} {tree:List bG} {rules:List UInt8} {c:eU} {rs:List bd} {n:Int} {s:kX} (h:cR prev=true/\prev.tm<=tm/\fq c=true) (hp:cI rules=(rs,n,0)) (hx:cD tree=0) (hs:s=dS prev.tm prev.files c (dw rs tree)):fm prev tm tree rules c= .ok ⟨⟨tm,s.files⟩,qE prev.files s.files,s.news,s.read,s.kept⟩:=by
 unfold fm; rw[if_pos h,hp,if_pos rfl,if_pos hx,hs]
theorem Ew {x:cA} (h:cR x=true):x.files.length<=4096:=by
 unfold cR at h;simp only[Bool.and_eq_true,decide_eq_true_eq]at h;exact h.1.1.2
theorem Dj {tm:Int} {prev:List aw} {c:eU} (hc:fq c=true) {K:List bG} (hv: ∀e∈K,cC e=true):(dS tm prev c K).news.length<=K.length*1048576:=by
 show(List.foldl bO (rD prev,[]) _).2.length<=_
 refine Nat.le_trans (CX _ _) ?_;simp only[List.length_nil,Nat.zero_add];have key: ∀(L:List bG),(∀e∈L,cC e=true/\e.kind=1)->(L.flatMap fun e=>cE c e.data).length<=L.length*1048576:=by
  intro L
  induction L with
  | nil=>simp
  | cons e L ih=>
   intro h;rw[List.flatMap_cons,List.length_append,List.length_cons];have h1:=ih fun x hx=>h x (by simp[hx])
   have h2:=Ca hc e.data;have h3:=(mu (h e (by simp)).1).1 (h e (by simp)).2;omega
 refine Nat.le_trans (key _ fun e he=> ?_) (Nat.mul_le_mul_right _ (List.length_filter_le _ _));rw[List.mem_filter]at he;refine⟨hv e he.1, ?_⟩;have:=he.2;unfold sq at this;rw[Bool.and_eq_true]at this;exact of_decide_eq_true this.1
theorem bW.old {base:Nat} {w w':World} {v:Value} {rs:List bd} (h:bW (· <base) w v rs) (hb:Below base w w'):bW (· <base) w' v rs:=by
 obtain⟨cells,h1,h2⟩:=h;exact⟨cells,aS.same h1 (fun k hk=>hb.block k hk),h2⟩
theorem CM {S:Nat->Prop} {w:World} {v:Value} {l:List bm} (h:aP S w v l):aP (· <w.heap.size) w v l:=by
 obtain⟨cells,h1,h2⟩:=h;exact⟨cells,aS.mono h1 (fun k hk _=>hk) (by omega),h2⟩
theorem Cq {S:Nat->Prop} {w:World} {v:Value} {l:List aw} (h:aT S w v l):aT (· <w.heap.size) w v l:=by
 obtain⟨cells,h1,h2⟩:=h;exact⟨cells,aS.mono h1 (fun k hk _=>hk) (by omega),h2.mono fun c x _ ⟨u,e1,e2,e3⟩=>⟨u,e1,CM e2,e3⟩⟩
theorem CO {S T:Nat->Prop} {w:World} {v:Value} {l:List bm} (h:aP S w v l) (hs: ∀k,S k->T k):aP T w v l:=by
 obtain⟨cells,h1,h2⟩:=h;exact⟨cells,h1.weak hs,h2⟩
theorem Cr {S T:Nat->Prop} {w:World} {v:Value} {l:List aw} (h:aT S w v l) (hs: ∀k,S k->T k):aT T w v l:=by
 obtain⟨cells,h1,h2⟩:=h;exact⟨cells,h1.weak hs,h2.mono fun c x _ ⟨u,e1,e2,e3⟩=>⟨u,e1,CO e2 hs,e3⟩⟩
theorem Em {S:Nat->Prop} {w:World} {v:Value} {l:List bG} (h:cl S w v l):cl (· <w.heap.size) w v l:=by
 obtain⟨cells,h1,h2⟩:=h;exact⟨cells,aS.mono h1 (fun k hk _=>hk) (by omega),h2.mono fun c x _ ⟨u,e1,e2,e3⟩=>⟨u,e1,aS.mono e2 (fun k hk _=>hk) (by omega),e3⟩⟩
theorem En {S T:Nat->Prop} {w:World} {v:Value} {l:List bG} (h:cl S w v l) (hs: ∀k,S k->T k):cl T w v l:=by
 obtain⟨cells,h1,h2⟩:=h;exact⟨cells,h1.weak hs,h2.mono fun c x _ ⟨u,e1,e2,e3⟩=>⟨u,e1,e2.weak hs,e3⟩⟩
theorem Cn {base:Nat} {w w':World} {v:Value} {l:List bG} (h:cl (· <base) w v l) (hb:Below base w w'):cl (· <base) w' v l:=by
 obtain⟨cells,h1,h2⟩:=h;refine⟨cells,aS.same h1 (fun k hk=>hb.block k hk),h2.mono fun c x _ ⟨u,e1,e2,e3⟩=>⟨u,e1,aS.same e2 (fun k hk=>hb.block k hk),e3⟩⟩
theorem qh (S T:Nat->Prop) (prev:cA) (fv tv:Value) (tm:Int) (tree:List bG) (rules:ByteArray) (c:eU) (w:World) (hf:aT S w fv prev.files) (ht:cl T w tv tree) (he:jF w) (hs:c.seed<18446744073709551616) (hpl: ∀f∈prev.files,f.parts.length<=1048576):
  Calls Tryz.prog 20 #[dQ fv prev.tm, .int .i64 tm,tv, .string rules,iw c] w (lV (fm prev tm tree (bl rules) c) w):=by
 obtain⟨fa,fc,rfl,hfc,hfm,-⟩:=aY.shape hf dT.len;obtain⟨ta,tc,rfl,htc,htm,-⟩:=aY.shape ht lB.len;unfold maxLen at htm;have HF:=ab hf;have HT:=ab ht;have HE:=ab he;have HPL:=ab hpl;clear hf ht he hpl;obtain⟨fl,hfl⟩: ∃fl,fl=prev.files.length:=⟨_,rfl⟩;rw[<-hfl]at HF hfc ⊢;have HFL:=ab hfl;obtain⟨tl,htl⟩: ∃tl,tl=tree.length:=⟨_,rfl⟩;rw[<-htl]at HT htc ⊢
 have HTL:=ab htl;clear hfl htl;obtain⟨W,hW⟩: ∃W,W=((w.alloc (.cells #[.int .i64 prev.tm, .slice fa fl fc] 24)).alloc (.cells #[.int .i64 c.mn, .int .i64 c.mx, .int .i64 c.win, .int .i64 c.bits, .int .u64 (c.seed:Int)] 48)).alloc (.cells #[.int .i64 0, .slice none 0 0, .slice none 0 0, .slice none 0 0, .int .i64 0, .int .i64 0] 54):=⟨_,rfl⟩;have HBW:=ab (show Below w.heap.size w W by rw[hW]; exact(((Below.refl _ _).alloc (Nat.le_refl _) _).alloc (by simp) _).alloc (by simp; omega) _)
 have HX:=ab (show W.heap[w.heap.size]? =some (.cells #[.int .i64 prev.tm, .slice fa fl fc] 24 (0,0)) by rw[hW]; exact jQ (jQ (heap_alloc_new w _) _) _);have HC:=ab (show W.heap[w.heap.size+1]? =some (.cells #[.int .i64 c.mn, .int .i64 c.mx, .int .i64 c.win, .int .i64 c.bits, .int .u64 (c.seed:Int)] 48 (0,0)) by rw[hW]; exact jQ (heap_alloc2_new w _ _) _);have HR:=ab (show W.heap[w.heap.size+1+1]? =some (.cells #[.int .i64 0, .slice none 0 0, .slice none 0 0, .slice none 0 0, .int .i64 0, .int .i64 0] 54 (0,0)) by
  rw[hW];have h:=heap_alloc_new ((w.alloc (.cells #[.int .i64 prev.tm, .slice fa fl fc] 24)).alloc (.cells #[.int .i64 c.mn, .int .i64 c.mx, .int .i64 c.win, .int .i64 c.bits, .int .u64 (c.seed:Int)] 48)) (.cells #[.int .i64 0, .slice none 0 0, .slice none 0 0, .slice none 0 0, .int .i64 0, .int .i64 0] 54);have e2:((w.alloc (.cells #[.int .i64 prev.tm, .slice fa fl fc] 24)).alloc (.cells #[.int .i64 c.mn, .int .i64 c.mx, .int .i64 c.win, .int .i64 c.bits, .int .u64 (c.seed:Int)] 48)).heap.size=w.heap.size+1+1:=by simp
  rw[e2]at h;exact h)
 have HSZ:=ab (show W.heap.size=w.heap.size+3 by rw[hW]; simp);unfold dQ iw
 go_enter Tryz.func20,Tryz.ntmps20
 go_upto_region 1 with fail
 change Code.wp _ _ _ _ (((w.alloc (.cells #[.int .i64 prev.tm, .slice fa fl fc] 24)).alloc (.cells #[.int .i64 c.mn, .int .i64 c.mx, .int .i64 c.win, .int .i64 c.bits, .int .u64 (c.seed:Int)] 48)).alloc (.cells #[.int .i64 0, .slice none 0 0, .slice none 0 0, .slice none 0 0, .int .i64 0, .int .i64 0] 54))
 rw[<-hW];clear hW;have HFW:=ab (show aT S W (.slice fa fl fc) prev.files from HF.out.below HBW.out);have HEW:=ab (HE.out.below HBW.out);have x0:=ai (k:=0) HX.out;have x1:=ai (k:=1) HX.out;simp only[List.getElem?_toArray,bV]at x0 x1
 cases hvx:cR prev with
 | false=>
  have HBAD:=ab (show fm prev tm tree (bl rules) c= .error 1 from qi (fun h=>by rw[hvx]at h; cases h.1));have HVX:=ab hvx;clear hvx
  go_upto_region 2 with(go_at_call 12; refine(dM S prev (.slice fa fl fc) false W HFW.out HEW.out.env HVX.out).mono ?_; rintro e w1 ⟨rfl,hb1⟩; have HB1:=ab hb1; clear hb1)
  have HR1:=ab ((HB1.out.block _ (lt_of_block HR.out)).trans HR.out);have z0:=ai (k:=0) HR1.out;have z1:=ai (k:=1) HR1.out;have z2:=ai (k:=2) HR1.out;have z3:=ai (k:=3) HR1.out;have z4:=ai (k:=4) HR1.out;have z5:=ai (k:=5) HR1.out;simp only[List.getElem?_toArray,bV]at z0 z1 z2 z3 z4 z5;have g0:=aO (k:=0) HR1.out;have g1:=aO (k:=1) HR1.out
  have g2:=aO (k:=2) HR1.out;have g3:=aO (k:=3) HR1.out;have g4:=aO (k:=4) HR1.out;have g5:=aO (k:=5) HR1.out;go_wp2_with fail;refine kS HR1.out rfl rfl rfl ?_;refine⟨mS (HBW.out.trans (HB1.out.mono (by have:=HSZ.out; omega))) (by omega) (by have:=HB1.out.size; have:=HSZ.out; omega), ?_⟩;rw[HBAD.out];exact⟨rfl,by decide⟩
 | true=>
  have HVX:=ab hvx;clear hvx
  by_cases hlt:tm<prev.tm
  ·have HBAD:=ab (show fm prev tm tree (bl rules) c= .error 1 from qi (fun h=>by omega))
   go_upto_region 2 with(go_at_call 12; refine(dM S prev (.slice fa fl fc) true W HFW.out HEW.out.env HVX.out).mono ?_; rintro e w1 ⟨rfl,hb1⟩; have HB1:=ab hb1; have y0:=(hb1.cell (p:=⟨w.heap.size,0,none⟩) (aE x0)).trans x0; clear hb1)
   have HR1:=ab ((HB1.out.block _ (lt_of_block HR.out)).trans HR.out);have z0:=ai (k:=0) HR1.out;have z1:=ai (k:=1) HR1.out;have z2:=ai (k:=2) HR1.out;have z3:=ai (k:=3) HR1.out;have z4:=ai (k:=4) HR1.out;have z5:=ai (k:=5) HR1.out;simp only[List.getElem?_toArray,bV]at z0 z1 z2 z3 z4 z5;have g0:=aO (k:=0) HR1.out;have g1:=aO (k:=1) HR1.out
   have g2:=aO (k:=2) HR1.out;have g3:=aO (k:=3) HR1.out;have g4:=aO (k:=4) HR1.out;have g5:=aO (k:=5) HR1.out;go_wp2_with fail;refine kS HR1.out rfl rfl rfl ?_;refine⟨mS (HBW.out.trans (HB1.out.mono (by have:=HSZ.out; omega))) (by omega) (by have:=HB1.out.size; have:=HSZ.out; omega), ?_⟩;rw[HBAD.out];exact⟨rfl,by decide⟩
  ·cases hvc:fq c with
   | false=>
    have HBAD:=ab (show fm prev tm tree (bl rules) c= .error 1 from qi (fun h=>by rw[hvc]at h; cases h.2.2));have HVC:=ab hvc;clear hvc
    go_upto_region 2 with(first | (go_at_call 12; refine(dM S prev (.slice fa fl fc) true W HFW.out HEW.out.env HVX.out).mono ?_; rintro e w1 ⟨rfl,hb1⟩; have HB1:=ab hb1; have y0:=(hb1.cell (p:=⟨w.heap.size,0,none⟩) (aE x0)).trans x0; have HC1:=ab ((hb1.block _ (lt_of_block HC.out)).trans HC.out); have c0:=ai (k:=0) HC1.out; have c1:=ai (k:=1) HC1.out; have c2:=ai (k:=2) HC1.out; have c3:=ai (k:=3) HC1.out; have c4:=ai (k:=4) HC1.out; simp only[List.getElem?_toArray,bV]at c0 c1 c2 c3 c4; clear hb1) | (go_at_call 36; refine(ik c false _ HVC.out).mono ?_; rintro e w2 ⟨rfl,hb2⟩; have HB2:=ab hb2; clear hb2))
    have HB12:=ab (ak HB1.out HB2.out);have HR1:=ab ((HB12.out.block _ (lt_of_block HR.out)).trans HR.out);have z0:=ai (k:=0) HR1.out;have z1:=ai (k:=1) HR1.out;have z2:=ai (k:=2) HR1.out;have z3:=ai (k:=3) HR1.out;have z4:=ai (k:=4) HR1.out;have z5:=ai (k:=5) HR1.out;simp only[List.getElem?_toArray,bV]at z0 z1 z2 z3 z4 z5;have g0:=aO (k:=0) HR1.out
    have g1:=aO (k:=1) HR1.out;have g2:=aO (k:=2) HR1.out;have g3:=aO (k:=3) HR1.out;have g4:=aO (k:=4) HR1.out;have g5:=aO (k:=5) HR1.out;go_wp2_with fail;refine kS HR1.out rfl rfl rfl ?_;refine⟨mS (HBW.out.trans (HB12.out.mono (by have:=HSZ.out; omega))) (by omega) (by have:=HB12.out.size; have:=HSZ.out; omega), ?_⟩;rw[HBAD.out];exact⟨rfl,by decide⟩
   | true=>
    have HVC:=ab hvc;have HOK:=ab (show cR prev=true/\prev.tm<=tm/\fq c=true from⟨HVX.out,by omega,hvc⟩);clear hvc
    go_upto_region 3 with(first | (go_at_call 12; refine(dM S prev (.slice fa fl fc) true W HFW.out HEW.out.env HVX.out).mono ?_; rintro e w1 ⟨rfl,hb1⟩; have HB1:=ab hb1; have y0:=(hb1.cell (p:=⟨w.heap.size,0,none⟩) (aE x0)).trans x0; have HC1:=ab ((hb1.block _ (lt_of_block HC.out)).trans HC.out); have c0:=ai (k:=0) HC1.out; have c1:=ai (k:=1) HC1.out; have c2:=ai (k:=2) HC1.out; have c3:=ai (k:=3) HC1.out; have c4:=ai (k:=4) HC1.out; simp only[List.getElem?_toArray,bV]at c0 c1 c2 c3 c4; clear hb1) | (go_at_call 36; refine(ik c true _ HVC.out).mono ?_; rintro e w2 ⟨rfl,hb2⟩; have HB2:=ab (ak HB1.out hb2); clear hb2))
    clear x0 x1 y0 c0 c1 c2 c3 c4 hlt;have HE2:=ab (HEW.out.below HB2.out);obtain⟨rs,rn,rx,hpe⟩: ∃rs rn rx,cI (bl rules)=(rs,rn,rx):=⟨_,_,_,rfl⟩;have HPE:=ab hpe;have hpa:=Ai rules w2 HE2.out.env;rw[hpe]at hpa;have HPA:=ab hpa;clear hpe hpa
    go_upto_region 4 with(go_at_call 37; refine HPA.out.mono ?_; rintro e w3 ⟨rv,rfl,hru,hb3⟩; have HB3:=ab (ak HB2.out hb3); have HRU:=ab hru; have hz23:=hb3.size; clear hru hb3)
    by_cases hx:rx=0
    ·subst hx;obtain⟨z,hz⟩: ∃z,cD tree=z:=⟨_,rfl⟩;have HZ:=ab hz;have HE3:=ab (HEW.out.below HB3.out);have HT3:=ab (show cl T w3 (.slice ta tl tc) tree from(HT.out.below HBW.out).below HB3.out);clear hz
     go_upto_region 7 with(go_at_call 34; refine(uj T tree (.slice ta tl tc) z _ HT3.out HE3.out.env HZ.out).mono ?_; rintro e w4 ⟨rfl,hb4⟩; have HB4:=ab (ak HB3.out hb4); have HB34:=ab hb4; have hz34:=hb4.size; clear hb4)
     by_cases hz0:z=0
     ·subst hz0;have hz12:w.heap.size+3<=w4.heap.size:=by have:=HB4.out.size; have:=HSZ.out; omega
      go_upto_region 9 with fail
      obtain⟨W0,hW0⟩: ∃W0:World,W0=w4.drew:=⟨_,rfl⟩;have HBZ:=ab (show Below W.heap.size W W0 by rw[hW0]; exact HB4.out.drew);have HB40:=ab (show Below w4.heap.size w4 W0 by rw[hW0]; exact(Below.refl _ _).drew);have hz0:W0.heap.size=w4.heap.size:=by rw[hW0]; rfl
      have HX0:=ab ((HBZ.out.block _ (lt_of_block HX.out)).trans HX.out);have HC0:=ab ((HBZ.out.block _ (lt_of_block HC.out)).trans HC.out);have HR0:=ab ((HBZ.out.block _ (lt_of_block HR.out)).trans HR.out);obtain⟨base,hbase⟩: ∃base,base=W0.heap.size:=⟨_,rfl⟩;have HBS:=ab hbase;have HFB:=ab (show aT (· <base) W0 (.slice fa fl fc) prev.files from Cr (Cq (HFW.out.below HBZ.out)) (fun k hk=>by rw[hbase]; exact hk))
      have HTB:=ab (show cl (· <base) W0 (.slice ta tl tc) tree from En (Em ((HT.out.below HBW.out).below HBZ.out)) (fun k hk=>by rw[hbase]; exact hk));have HE0:=ab (HEW.out.below HBZ.out);have hvi:=HVX.out;have hlen:prev.files.length<=4096:=Ew hvi;have HND:=ab (show(prev.files.map aw.path).Nodup from by
       have h1:=Eu hvi;unfold Ge at h1;unfold List.Nodup;rw[List.pairwise_map];exact h1.imp fun h=>Gt h)
      clear hvi;have S0:=ab (And.intro HX0.out HC0.out);refine cX (fun w'=>w'.heap[w.heap.size]? =some (.cells #[.int .i64 prev.tm, .slice fa fl fc] 24 (0,0))/\w'.heap[w.heap.size+1]? =some (.cells #[.int .i64 c.mn, .int .i64 c.mx, .int .i64 c.win, .int .i64 c.bits, .int .u64 (c.seed:Int)] 48 (0,0))) (by kernel_rfl) ?_;rw[<-hW0];clear hW0 hbase;refine ag 0 rfl (by kernel_rfl) (by kernel_rfl) (by kernel_rfl) (fun _ _ _ h=>h) rfl S0.out (by rintro w' ⟨hw1,hw2⟩; have o0:=ai (k:=0) hw1; have o1:=ai (k:=1) hw1; have c0:=ai (k:=0) hw2; have c1:=ai (k:=1) hw2; have c2:=ai (k:=2) hw2; have c3:=ai (k:=3) hw2; have c4:=ai (k:=4) hw2; simp only[List.getElem?_toArray,bV]at o0 o1 c0 c1 c2 c3 c4; clear hw1 hw2; go_simp; rfl) ?_
      simp only[Act.put,aH,aI,aJ];refine ag 1 rfl (by kernel_rfl) (by kernel_rfl) (by kernel_rfl) (fun _ _ _ h=>h) rfl S0.out (by rintro w' ⟨hw1,hw2⟩; have o0:=ai (k:=0) hw1; have o1:=ai (k:=1) hw1; have c0:=ai (k:=0) hw2; have c1:=ai (k:=1) hw2; have c2:=ai (k:=2) hw2; have c3:=ai (k:=3) hw2; have c4:=ai (k:=4) hw2; simp only[List.getElem?_toArray,bV]at o0 o1 c0 c1 c2 c3 c4; clear hw1 hw2; go_simp; rfl) ?_
      simp only[Act.put,aH,aI,aJ];refine ag 2 rfl (by kernel_rfl) (by kernel_rfl) (by kernel_rfl) (fun _ _ _ h=>h) rfl S0.out (by rintro w' ⟨hw1,hw2⟩; have o0:=ai (k:=0) hw1; have o1:=ai (k:=1) hw1; have c0:=ai (k:=0) hw2; have c1:=ai (k:=1) hw2; have c2:=ai (k:=2) hw2; have c3:=ai (k:=3) hw2; have c4:=ai (k:=4) hw2; simp only[List.getElem?_toArray,bV]at o0 o1 c0 c1 c2 c3 c4; clear hw1 hw2; go_simp; rfl) ?_
      simp only[Act.put,aH,aI,aJ];refine ag 4 rfl (by kernel_rfl) (by kernel_rfl) (by kernel_rfl) (fun _ _ _ h=>h) rfl S0.out (by rintro w' ⟨hw1,hw2⟩; have o0:=ai (k:=0) hw1; have o1:=ai (k:=1) hw1; have c0:=ai (k:=0) hw2; have c1:=ai (k:=1) hw2; have c2:=ai (k:=2) hw2; have c3:=ai (k:=3) hw2; have c4:=ai (k:=4) hw2; simp only[List.getElem?_toArray,bV]at o0 o1 c0 c1 c2 c3 c4; clear hw1 hw2; go_simp; rfl) ?_
      simp only[Act.put,aH,aI,aJ];refine ag 6 rfl (by kernel_rfl) (by kernel_rfl) (by kernel_rfl) (fun _ _ _ h=>h) rfl S0.out (by rintro w' ⟨hw1,hw2⟩; have o0:=ai (k:=0) hw1; have o1:=ai (k:=1) hw1; have c0:=ai (k:=0) hw2; have c1:=ai (k:=1) hw2; have c2:=ai (k:=2) hw2; have c3:=ai (k:=3) hw2; have c4:=ai (k:=4) hw2; simp only[List.getElem?_toArray,bV]at o0 o1 c0 c1 c2 c3 c4; clear hw1 hw2; go_simp; rfl) ?_
      simp only[Act.put,aH,aI,aJ];refine aC 3 rfl (by kernel_rfl) rfl (fun K hK=> ?_);go_wp2_with (go_at_call 38; refine(uI (· <base) prev (.slice fa fl fc) W0 HFB.out HND.out hlen).mono ?_; rintro e w5 ⟨mb,rfl,hmb,hfm,hb5⟩; have HB5:=ab hb5; have HFM:=ab hfm; have hz5:=hb5.size; clear hb5 hfm);have S5:=ab (And.intro ((HB5.out.block _ (lt_of_block HX0.out)).trans HX0.out) ((HB5.out.block _ (lt_of_block HC0.out)).trans HC0.out))
      refine⟨S5.out, ?_⟩;refine aC 5 rfl (by kernel_rfl) rfl (fun K hK=> ?_);go_wp2_with (go_at_call 39; refine(tj (· <base) prev (.slice fa fl fc) w5 (HFB.out.below HB5.out)).mono ?_; rintro e w6 ⟨kb,rfl,hkb,hkn,hb6⟩; have HB6:=ab hb6; have HKN:=ab hkn; have hz6:=hb6.size; clear hb6 hkn);have HB06:=ab (ak HB5.out HB6.out);have S6:=ab (And.intro ((HB06.out.block _ (lt_of_block HX0.out)).trans HX0.out) ((HB06.out.block _ (lt_of_block HC0.out)).trans HC0.out))
      refine⟨S6.out, ?_⟩;refine ag 7 rfl (by kernel_rfl) (by kernel_rfl) (by kernel_rfl) (fun _ _ _ h=>h) rfl S6.out (by rintro w' ⟨hw1,hw2⟩; have o0:=ai (k:=0) hw1; have o1:=ai (k:=1) hw1; have c0:=ai (k:=0) hw2; have c1:=ai (k:=1) hw2; have c2:=ai (k:=2) hw2; have c3:=ai (k:=3) hw2; have c4:=ai (k:=4) hw2; simp only[List.getElem?_toArray,bV]at o0 o1 c0 c1 c2 c3 c4; clear hw1 hw2; go_simp; rfl) ?_
      simp only[Act.put,aH,aI,aJ];refine aC 8 rfl (by kernel_rfl) rfl (fun K hK=> ?_);go_wp2_with fail;obtain⟨wc,hwc⟩: ∃wc,wc=w6.alloc (.cells (cO ⟨0, .slice none 0 0, .slice none 0 0,0,0,prev.tm,mb,c⟩ kb (.slice none 0 0)).toArray 95):=⟨_,rfl⟩;have HBC:=ab (show Below w6.heap.size w6 wc by rw[hwc]; exact(Below.refl _ _).alloc (Nat.le_refl _) _);have HCB:=ab (show wc.heap[w6.heap.size]? =some (.cells (cO ⟨0, .slice none 0 0, .slice none 0 0,0,0,prev.tm,mb,c⟩ kb (.slice none 0 0)).toArray 95 (0,0)) by rw[hwc]; exact heap_alloc_new w6 _)
      have hwc2:=hwc;simp only[cO,cT,List.cons_append,List.nil_append]at hwc2;have HB0C:=ab (ak HB06.out HBC.out);have SC:=ab (And.intro ((HB0C.out.block _ (lt_of_block HX0.out)).trans HX0.out) ((HB0C.out.block _ (lt_of_block HC0.out)).trans HC0.out));have hb0:=HBS.out;have HCO:=ab (show dE W0 wc base w6.heap.size kb ⟨0, .slice none 0 0, .slice none 0 0,0,0,prev.tm,mb,c⟩ (.slice none 0 0) prev.files ⟨[],rD prev.files,[],0,0⟩from
       ⟨⟨HCB.out,⟨[],rfl,World.ownsRow_nil _ _ _ _,by simp⟩,HKN.out.below HBC.out⟩,bQ.nil _ _,(HFM.out.below HB6.out).below HBC.out,by rw[hb0]; exact HB0C.out,by have:=HFM.out.lt; show mb≠kb; omega,rfl,rfl⟩)
      have hzc:w6.heap.size<wc.heap.size:=lt_of_block HCB.out;have hwc3:w6.alloc (.cells #[.int .i64 0, .slice none 0 0, .slice none 0 0, .slice none 0 0, .int .i64 0, .int .i64 0, .int .i64 prev.tm, .map (some mb), .map (some kb), .int .i64 c.mn, .int .i64 c.mx, .int .i64 c.win, .int .i64 c.bits, .int .u64 (c.seed:Int)] 95)=wc:=hwc.symm;rw[hwc3];clear hwc hwc2 hwc3;refine⟨SC.out, ?_⟩
      refine ag 9 rfl (by kernel_rfl) (by kernel_rfl) (by kernel_rfl) (fun _ _ _ h=>h) rfl SC.out (by rintro w' ⟨hw1,hw2⟩; have o0:=ai (k:=0) hw1; have o1:=ai (k:=1) hw1; have c0:=ai (k:=0) hw2; have c1:=ai (k:=1) hw2; have c2:=ai (k:=2) hw2; have c3:=ai (k:=3) hw2; have c4:=ai (k:=4) hw2; simp only[List.getElem?_toArray,bV]at o0 o1 c0 c1 c2 c3 c4; clear hw1 hw2; go_simp; rfl) ?_
      simp only[Act.put,aH,aI,aJ];refine bu (by kernel_rfl) ?_;have k0:=ai (k:=0) HCB.out;have f0:=aO (k:=0) HCB.out;simp only[cO,cT,List.cons_append,List.nil_append,List.getElem?_toArray,List.getElem?_cons_zero]at k0
      go_upto_region 11 with fail
      obtain⟨wd,hwd⟩: ∃wd,wd=wc.setCell ⟨w6.heap.size,0,none⟩ (.int .i64 tm):=⟨_,rfl⟩;rw[<-hwd];obtain⟨cb,hcb⟩: ∃cb,cb=w6.heap.size:=⟨_,rfl⟩;have HCO2:=ab (show dE W0 wd base cb kb ⟨tm, .slice none 0 0, .slice none 0 0,0,0,prev.tm,mb,c⟩ (.slice none 0 0) prev.files ⟨[],rD prev.files,[],0,0⟩ by
       rw[hwd,hcb];exact HCO.out.setq 0 (.int .i64 tm) (q':=⟨tm, .slice none 0 0, .slice none 0 0,0,0,prev.tm,mb,c⟩) (by simp[cO]) rfl rfl rfl rfl rfl rfl rfl (by omega) (by omega))
      have hzd:wd.heap.size=wc.heap.size:=by rw[hwd]; simp[World.setCell]
      rw[<-hcb];have hcbb:base<=cb:=by omega
      have hkbb:base<=kb:=by omega
      clear hwd k0 f0 hcb;have h6:6<=base:=by have:=HE0.out.six; omega
      have hTO:=fE.1 HZ.out;have HVE:=ab hTO.val;have htl2:tl<=4096:=by have h1:=hTO.len; rwa [<-HTL.out]at h1
      obtain⟨us,hus,hig⟩:=Cw HPE.out;have HIG:=ab hig;have HPT:=ab (show ∀r∈rs,r.pat.length<=9223372036854775807 from fun r hr=>by have:=(vt HPE.out).2.2.2 r hr; omega);have hz34':w3.heap.size<=base:=by have:=HBS.out; omega
      have HRB:=ab (show bW (· <base) W0 rv rs from Dc (Db (bW.below (bW.below HRU.out HB34.out) HB40.out)) (fun k hk=>by have:=HBS.out; rw[this]; exact hk));clear hTO hus hig;go_wp2_with fail
      go_loopw [70] (fun i wr=> ∃(k:Nat) (fv' nv':Value) (rd kp:Nat),k<=tl/\i= .int .i64 k/\dE W0 wr base cb kb ⟨tm,fv', .slice none 0 0,rd,kp,prev.tm,mb,c⟩ nv' prev.files (dS prev.tm prev.files c (dw rs (tree.take k)))) (fun i _=>tl-(intOf i).toNat)
      case atStart=>exact⟨0,_,_,0,0,Nat.zero_le _,rfl,HCO2.out⟩
      case round=>
       obtain⟨k,fv',nv',rd,kp,hk,rfl,hco⟩:=hrel;have HCK:=ab hco;have HBK:=ab hco.old;have hzk:=hco.old.size;clear hco
       by_cases hlt:k<tl
       ·obtain⟨e,he⟩: ∃e,tree[k]? =some e:=⟨_,List.getElem?_eq_getElem (show k<tree.length by rw[<-HTL.out]; exact hlt)⟩;have HTK:=ab (Cn HTB.out HBK.out);obtain⟨b,o,dv,rfl,-,-,hd,heok,-,q0,q1,q2,q3,q4,q5⟩:=jd HTK.out he;obtain⟨da,dc,rfl,hd1,hd2⟩:=hd.slice;have HAT:=ab he;have HDA:=ab hd;have HEO:=ab heok;have hve:=HVE.out e (List.mem_of_getElem? he)
        have HVL:=ab hve;have hk256:(tree.take k).length<=k:=List.length_take_le _ _;have hKl:(dw rs (tree.take k)).length<=k:=Nat.le_trans (List.length_filter_le _ _) hk256;have HKV:=ab (show ∀x∈dw rs (tree.take k),cC x=true from fun x hx=>HVE.out x (List.take_subset _ _ (mB hx).1));obtain⟨ig,hig⟩: ∃ig,dJ rs (bl e.path) (e.kind == 2)=(ig,0):=⟨_,HIG.out _ _ (cB hve)⟩
        have HIGE:=ab hig;have HIGK:=ab (show qM rs e=ig by unfold qM; rw[show decide (e.kind=2)=(e.kind == 2)from rfl,hig]);have HAL:=ab ((Below.refl wr.heap.size wr).alloc (Nat.le_refl _) (.cells #[.string e.path, .int .i64 e.kind, .int .i64 e.mode, .int .i64 e.time, .slice da e.data.length dc, .string e.link] 30));have HRK:=ab (bW.below (bW.old HRB.out HBK.out) HAL.out)
        have HEK:=ab ((HE0.out.keep HBK.out h6).below HAL.out);clear he hd heok hve hig
        go_upto_region 15 with(go_at_call 40; refine(xo rs (· <base) rv e.path (e.kind == 2) ig _ HEK.out.env HRK.out HPT.out HIGE.out).mono ?_; rintro e8 w8 ⟨rfl,hb8⟩; have HB8:=ab (ak HAL.out hb8); have HY8:=ab ((hb8.block _ (by simp)).trans (heap_alloc_new wr (.cells #[.string e.path, .int .i64 e.kind, .int .i64 e.mode, .int .i64 e.time, .slice da e.data.length dc, .string e.link] 30))); clear hb8)
        have hz8:=HB8.out.size;have HC8:=ab (HCK.out.below HB8.out (by omega))
        cases hg:ig with
        | true=>
         subst hg;go_wp2_with fail
         go_roundw
         case rel=>
          refine⟨k+1,fv',nv',rd,kp,by omega,rfl, ?_⟩;rw[aX HAT.out,zO HIGK.out];exact HC8.out
         case measure=>simp only[intOf,Int.toNat_natCast]; omega
        | false=>
         subst hg;have HD8:=ab (show cN (· <base) w8 (.slice da e.data.length dc) e.data from aS.same HDA.out (fun i hi=>HB8.out.block i (by omega)));have HE8:=ab (HE0.out.keep HC8.out.old h6);have x0:=ai (k:=0) HY8.out;have x1:=ai (k:=1) HY8.out;have x2:=ai (k:=2) HY8.out;have x3:=ai (k:=3) HY8.out;have x4:=ai (k:=4) HY8.out;have x5:=ai (k:=5) HY8.out
         simp only[List.getElem?_toArray,bV]at x0 x1 x2 x3 x4 x5;have hnw:=Dj (tm:=prev.tm) (prev:=prev.files) HVC.out HKV.out;have hadd:=AL W0 base cb kb ⟨tm,fv', .slice none 0 0,rd,kp,prev.tm,mb,c⟩ nv' (.slice da e.data.length dc) prev.files (dS prev.tm prev.files c (dw rs (tree.take k))) e w8 HC8.out HD8.out HEO.out HVL.out HVC.out hs HE8.out hcbb hkbb (by omega) h6 (by omega)
          (by show(List.map _ _).length<=_; rw[List.length_map]; omega) (by show(List.filter _ _).length<=_; exact Nat.le_trans (List.length_filter_le _ _) (by omega)) (by show(List.filter _ _).length<=_; exact Nat.le_trans (List.length_filter_le _ _) (by omega)) HPL.out
         have HADD:=ab hadd;clear hnw hadd
         go_upto_region 19 with(go_at_call 41; refine HADD.out.mono ?_; rintro e9 w9 ⟨fv2,nv2,rd2,kp2,rfl,hco9,hb9⟩; have HC9:=ab hco9; clear hco9 hb9)
         go_wp2_with fail
         go_roundw
         case rel=>
          refine⟨k+1,fv2,nv2,rd2,kp2,by omega,rfl, ?_⟩;rw[aX HAT.out,zP HIGK.out,Di];exact HC9.out
         case measure=>simp only[intOf,Int.toNat_natCast]; omega
       ·have hkt:k=tl:=by omega
        subst hkt;have htk:tree.take k=tree:=List.take_of_length_le (by rw[<-HTL.out]; exact Nat.le_refl _);rw[htk]at HCK;clear htk
        go_upto_region 22 with fail
        obtain⟨s,hss⟩: ∃s,s=dS prev.tm prev.files c (dw rs tree):=⟨_,rfl⟩;rw[<-hss]at HCK;have HSK:=ab hss;obtain⟨zsF,-,hzrF,-⟩:=HCK.out.files.row;obtain⟨fva,fvc,hfv,-,-⟩:=au hzrF;obtain⟨ysN,-,hysN,-⟩:=HCK.out.col.news;obtain⟨nva,nvc,hnv,-,-⟩:=au hysN;obtain⟨fvn,hfvn⟩: ∃n,n=zsF.length:=⟨_,rfl⟩;obtain⟨nvn,hnvn⟩: ∃n,n=ysN.length:=⟨_,rfl⟩
        rw[<-hfvn]at hfv;rw[<-hnvn]at hnv;have hfv:fv'= .slice fva fvn fvc:=hfv;have hnv:nv'= .slice nva nvn nvc:=hnv;clear hzrF hysN hfvn hnvn;subst hfv hnv;have HOUT:=ab (EV (tree:=tree) HOK.out HPE.out HZ.out hss);have hsf:s.files.length<=4096:=by
         rw[hss]
         show(List.map _ _).length<=_
         rw[List.length_map];have h1:(dw rs tree).length<=tree.length:=List.length_filter_le _ _;have:=HTL.out;omega
        obtain⟨q,hq⟩: ∃q:iE,q=⟨tm,(.slice fva fvn fvc), .slice none 0 0,rd,kp,prev.tm,mb,c⟩:=⟨_,rfl⟩;have HQ:=ab hq;obtain⟨WE,hWE⟩: ∃WE:World,WE=wr.drew:=⟨_,rfl⟩;have HBE:=ab (show Below wr.heap.size wr WE by rw[hWE]; exact(Below.refl _ _).drew);have HCE:=ab (HCK.out.below HBE.out (by omega));have HBXE:=ab (show WE.heap[cb]? =some (.cells (cO ⟨tm,(.slice fva fvn fvc), .slice none 0 0,rd,kp,prev.tm,mb,c⟩ kb (.slice nva nvn nvc)).toArray 95 (0,0))from HCE.out.col.box)
        have hzE:=HBE.out.size;have hwb:w.heap.size<base:=by omega
        have HXE:=ab ((HCE.out.old.block _ hwb).trans HX0.out);have HFE:=ab (show aT (fun i=>base<=i) WE (.slice fva fvn fvc) s.files from HCE.out.files.at);have HFP:=ab (show aT (· <base) WE (.slice fa fl fc) prev.files from by
         obtain⟨cells,h1,h2⟩:=HFB.out;exact⟨cells,aS.same h1 (fun i hi=>HCE.out.old.block i hi),h2.mono fun c x _ ⟨u,e1,e2,e3⟩=>⟨u,e1,e2.old HCE.out.old,e3⟩⟩)
        have SE:=ab (And.intro HXE.out HBXE.out);clear hss hq;refine cL (fun w'=>w'.heap[w.heap.size]? =some (.cells #[.int .i64 prev.tm, .slice fa fl fc] 24 (0,0))/\w'.heap[cb]? =some (.cells (cO ⟨tm,(.slice fva fvn fvc), .slice none 0 0,rd,kp,prev.tm,mb,c⟩ kb (.slice nva nvn nvc)).toArray 95 (0,0))) (by kernel_rfl) (by kernel_rfl) ?_;simp only[List.dropLast_cons_cons,List.dropLast_singleton,List.length_cons,List.length_nil,Nat.reduceAdd,Nat.reduceSub]
        rw[<-hWE];clear hWE;refine ag 0 rfl (by kernel_rfl) (by kernel_rfl) (by kernel_rfl) (fun _ _ _ h=>h) rfl SE.out (by rintro w' ⟨hw1,hw2⟩; have o0:=ai (k:=0) hw1; have o1:=ai (k:=1) hw1; have c0:=ai (k:=0) hw2; have c1:=ai (k:=1) hw2; simp only[cO,cT,List.cons_append,List.nil_append,List.getElem?_toArray,bV]at o0 o1 c0 c1; clear hw1 hw2; go_simp; rfl) ?_
        simp only[Act.put,aH,aI,aJ];refine ag 1 rfl (by kernel_rfl) (by kernel_rfl) (by kernel_rfl) (fun _ _ _ h=>h) rfl SE.out (by rintro w' ⟨hw1,hw2⟩; have o0:=ai (k:=0) hw1; have o1:=ai (k:=1) hw1; have c0:=ai (k:=0) hw2; have c1:=ai (k:=1) hw2; simp only[cO,cT,List.cons_append,List.nil_append,List.getElem?_toArray,bV]at o0 o1 c0 c1; clear hw1 hw2; go_simp; rfl) ?_
        simp only[Act.put,aH,aI,aJ];refine ag 2 rfl (by kernel_rfl) (by kernel_rfl) (by kernel_rfl) (fun _ _ _ h=>h) rfl SE.out (by rintro w' ⟨hw1,hw2⟩; have o0:=ai (k:=0) hw1; have o1:=ai (k:=1) hw1; have c0:=ai (k:=0) hw2; have c1:=ai (k:=1) hw2; simp only[cO,cT,List.cons_append,List.nil_append,List.getElem?_toArray,bV]at o0 o1 c0 c1; clear hw1 hw2; go_simp; rfl) ?_
        simp only[Act.put,aH,aI,aJ];refine ag 3 rfl (by kernel_rfl) (by kernel_rfl) (by kernel_rfl) (fun _ _ _ h=>h) rfl SE.out (by rintro w' ⟨hw1,hw2⟩; have o0:=ai (k:=0) hw1; have o1:=ai (k:=1) hw1; have c0:=ai (k:=0) hw2; have c1:=ai (k:=1) hw2; simp only[cO,cT,List.cons_append,List.nil_append,List.getElem?_toArray,bV]at o0 o1 c0 c1; clear hw1 hw2; go_simp; rfl) ?_
        simp only[Act.put,aH,aI,aJ];refine ag 4 rfl (by kernel_rfl) (by kernel_rfl) (by kernel_rfl) (fun _ _ _ h=>h) rfl SE.out (by rintro w' ⟨hw1,hw2⟩; have o0:=ai (k:=0) hw1; have o1:=ai (k:=1) hw1; have c0:=ai (k:=0) hw2; have c1:=ai (k:=1) hw2; simp only[cO,cT,List.cons_append,List.nil_append,List.getElem?_toArray,bV]at o0 o1 c0 c1; clear hw1 hw2; go_simp; rfl) ?_
        simp only[Act.put,aH,aI,aJ];refine ag 5 rfl (by kernel_rfl) (by kernel_rfl) (by kernel_rfl) (fun _ _ _ h=>h) rfl SE.out (by rintro w' ⟨hw1,hw2⟩; have o0:=ai (k:=0) hw1; have o1:=ai (k:=1) hw1; have c0:=ai (k:=0) hw2; have c1:=ai (k:=1) hw2; simp only[cO,cT,List.cons_append,List.nil_append,List.getElem?_toArray,bV]at o0 o1 c0 c1; clear hw1 hw2; go_simp; rfl) ?_
        simp only[Act.put,aH,aI,aJ];refine ag 6 rfl (by kernel_rfl) (by kernel_rfl) (by kernel_rfl) (fun _ _ _ h=>h) rfl SE.out (by rintro w' ⟨hw1,hw2⟩; have o0:=ai (k:=0) hw1; have o1:=ai (k:=1) hw1; have c0:=ai (k:=0) hw2; have c1:=ai (k:=1) hw2; simp only[cO,cT,List.cons_append,List.nil_append,List.getElem?_toArray,bV]at o0 o1 c0 c1; clear hw1 hw2; go_simp; rfl) ?_
        simp only[Act.put,aH,aI,aJ];refine aC 7 rfl (by kernel_rfl) rfl (fun K hK=> ?_);have hlen2:prev.files.length<=4096:=hlen;go_wp2_with (go_at_call 42; refine(uh (· <base) (fun i=>base<=i) prev ⟨tm,s.files⟩ (.slice fa fl fc) (.slice fva fvn fvc) WE HFP.out HFE.out hlen2 hsf).mono ?_; rintro e9 w9 ⟨cv,rfl,ho9,hb9⟩; obtain⟨va,vc,rfl,-,-⟩:=au ho9; have HO9:=ab ho9; have HB9:=ab hb9; have hz9:=hb9.size; clear ho9 hb9)
        obtain⟨vn,hvn⟩: ∃n,n=(qE prev.files s.files).length:=⟨_,rfl⟩;rw[<-hvn]at HO9 ⊢;have HVN:=ab hvn;clear hvn;have HC9:=ab (HCE.out.below HB9.out (by omega));have HBX9:=ab (show w9.heap[cb]? =some (.cells (cO ⟨tm,(.slice fva fvn fvc), .slice none 0 0,rd,kp,prev.tm,mb,c⟩ kb (.slice nva nvn nvc)).toArray 95 (0,0))from HC9.out.col.box);have S9:=ab (And.intro ((HB9.out.block _ (lt_of_block HXE.out)).trans HXE.out) HBX9.out)
        refine⟨S9.out, ?_⟩;refine ag 8 rfl (by kernel_rfl) (by kernel_rfl) (by kernel_rfl) (fun _ _ _ h=>h) rfl S9.out (by rintro w' ⟨hw1,hw2⟩; have o0:=ai (k:=0) hw1; have o1:=ai (k:=1) hw1; have c0:=ai (k:=0) hw2; have c1:=ai (k:=1) hw2; simp only[cO,cT,List.cons_append,List.nil_append,List.getElem?_toArray,bV]at o0 o1 c0 c1; clear hw1 hw2; go_simp; rfl) ?_
        simp only[Act.put,aH,aI,aJ];refine ag 9 rfl (by kernel_rfl) (by kernel_rfl) (by kernel_rfl) (fun _ _ _ h=>h) rfl S9.out (by rintro w' ⟨hw1,hw2⟩; have o0:=ai (k:=0) hw1; have o1:=ai (k:=1) hw1; have c0:=ai (k:=0) hw2; have c1:=ai (k:=1) hw2; simp only[cO,cT,List.cons_append,List.nil_append,List.getElem?_toArray,bV]at o0 o1 c0 c1; clear hw1 hw2; go_simp; rfl) ?_
        simp only[Act.put,aH,aI,aJ];refine ag 10 rfl (by kernel_rfl) (by kernel_rfl) (by kernel_rfl) (fun _ _ _ h=>h) rfl S9.out (by rintro w' ⟨hw1,hw2⟩; have o0:=ai (k:=0) hw1; have o1:=ai (k:=1) hw1; have c0:=ai (k:=0) hw2; have c1:=ai (k:=1) hw2; simp only[cO,cT,List.cons_append,List.nil_append,List.getElem?_toArray,bV]at o0 o1 c0 c1; clear hw1 hw2; go_simp; rfl) ?_
        simp only[Act.put,aH,aI,aJ];refine bu (by kernel_rfl) ?_;refine dd rfl rfl (fun K hK=> ?_);have k2:=ai (k:=2) HBX9.out;have f2:=aO (k:=2) HBX9.out;simp only[cO,cT,List.cons_append,List.nil_append,List.getElem?_toArray,bV]at k2
        go_upto_region 23 with fail
        obtain⟨WF,hWF⟩: ∃WF,WF=w9.setCell ⟨cb,2,none⟩ (.slice va vn vc):=⟨_,rfl⟩;rw[<-hWF];have HCF:=ab (show dE W0 WF base cb kb ⟨tm,(.slice fva fvn fvc),(.slice va vn vc),rd,kp,prev.tm,mb,c⟩ (.slice nva nvn nvc) prev.files s by
         rw[hWF];exact HC9.out.setq 2 (.slice va vn vc) (q':=⟨tm,(.slice fva fvn fvc),(.slice va vn vc),rd,kp,prev.tm,mb,c⟩) (by simp[cO]) rfl rfl rfl rfl rfl HC9.out.rd HC9.out.kp hcbb (by omega))
        have HOF:=ab (show WF.ownsRow WE.heap.size 60 2 (.slice va vn vc) vn (gt (qE prev.files s.files)) by
         rw[hWF];refine bA HO9.out (fun i hi hv=>Below.heap_setCell _ _ _ _ (fun e1=> ?_));obtain⟨cs2,hc2⟩:=aK HO9.out hv;rw[e1]at hc2;exact absurd (aQ HBX9.out hc2) (by decide))
        have HBXF:=ab (show WF.heap[cb]? =some (.cells (cO ⟨tm,(.slice fva fvn fvc),(.slice va vn vc),rd,kp,prev.tm,mb,c⟩ kb (.slice nva nvn nvc)).toArray 95 (0,0))from HCF.out.col.box);have hzF:=HCF.out.old.size;have HRF:=ab ((HCF.out.old.block _ (show w.heap.size+1+1<base by omega)).trans HR0.out);have m0:=ai (k:=0) HBXF.out;have m1:=ai (k:=1) HBXF.out;have m2:=ai (k:=2) HBXF.out
        have m3:=ai (k:=3) HBXF.out;have m4:=ai (k:=4) HBXF.out;have m5:=ai (k:=5) HBXF.out;simp only[cO,cT,List.cons_append,List.nil_append,List.getElem?_toArray,bV]at m0 m1 m2 m3 m4 m5;clear hWF k2 f2;have z0:=ai (k:=0) HRF.out;have z1:=ai (k:=1) HRF.out;have z2:=ai (k:=2) HRF.out;have z3:=ai (k:=3) HRF.out;have z4:=ai (k:=4) HRF.out
        have z5:=ai (k:=5) HRF.out;simp only[List.getElem?_toArray,bV]at z0 z1 z2 z3 z4 z5;have g0:=aO (k:=0) HRF.out;have g1:=aO (k:=1) HRF.out;have g2:=aO (k:=2) HRF.out;have g3:=aO (k:=3) HRF.out;have g4:=aO (k:=4) HRF.out;have g5:=aO (k:=5) HRF.out;go_wp2_with fail;refine kS HRF.out rfl rfl rfl ?_;have hzW:w.heap.size+3<=base:=by omega
        have hBWF:Below w.heap.size w WF:=(HBW.out.trans (HBZ.out.mono (by have:=HSZ.out; omega))).trans (HCF.out.old.mono (by omega));refine⟨mS hBWF (by omega) (by omega), ?_⟩;rw[HOUT.out];have hrd:rd=s.read:=HCF.out.rd;have hkp:kp=s.kept:=HCF.out.kp;refine⟨_,_,_,by rw[hrd,hkp]; rfl, ?_, ?_, ?_⟩
        ·exact(HCF.out.files.le (show w.heap.size<=base by omega)).same fun i cs2 t2 hi hib hc2 ht2=>xx (fun e1=>by
          rw[e1]at hc2;have h1:=aQ HRF.out hc2
          rcases ht2 with⟨rfl,_⟩ | rfl
          ·exact absurd h1 (by decide)
          ·exact absurd h1 (by decide))
        ·rw[show(qE prev.files s.files).length=vn from HVN.out.symm];refine bA (ci HOF.out (by omega)) (fun i hi hv=>xx (fun e1=> ?_));have:=(HOF.out.lt i hv).1;omega
        ·exact(HCF.out.col.news.le (show w.heap.size<=base by omega)).same fun i cs2 t2 hi hib hc2 ht2=>xx (fun e1=>by
          rw[e1]at hc2;have h1:=aQ HRF.out hc2
          rcases ht2 with ht2 | rfl
          ·obtain⟨ys,_,h3,_⟩:=HCF.out.col.news;obtain⟨cs3,h4⟩:=aK h3 ht2;rw[e1]at h4;exact absurd (aQ HRF.out h4) (by decide)
          ·exact absurd h1 (by decide))
     ·have HBAD:=ab (AP (tree:=tree) HOK.out HPE.out HZ.out hz0);have HR1:=ab ((HB4.out.block _ (lt_of_block HR.out)).trans HR.out);have z0:=ai (k:=0) HR1.out;have z1:=ai (k:=1) HR1.out;have z2:=ai (k:=2) HR1.out;have z3:=ai (k:=3) HR1.out;have z4:=ai (k:=4) HR1.out;have z5:=ai (k:=5) HR1.out;simp only[List.getElem?_toArray,bV]at z0 z1 z2 z3 z4 z5
      have g0:=aO (k:=0) HR1.out;have g1:=aO (k:=1) HR1.out;have g2:=aO (k:=2) HR1.out;have g3:=aO (k:=3) HR1.out;have g4:=aO (k:=4) HR1.out;have g5:=aO (k:=5) HR1.out;go_wp2_with fail;refine kS HR1.out rfl rfl rfl ?_;refine⟨mS (HBW.out.trans (HB4.out.mono (by have:=HSZ.out; omega))) (by omega) (by have:=HB4.out.size; have:=HSZ.out; omega), ?_⟩
      rw[HBAD.out];exact⟨rfl,hz0⟩
    ·have HBAD:=ab (xP (tree:=tree) HOK.out HPE.out hx);have HR1:=ab ((HB3.out.block _ (lt_of_block HR.out)).trans HR.out);have z0:=ai (k:=0) HR1.out;have z1:=ai (k:=1) HR1.out;have z2:=ai (k:=2) HR1.out;have z3:=ai (k:=3) HR1.out;have z4:=ai (k:=4) HR1.out;have z5:=ai (k:=5) HR1.out;simp only[List.getElem?_toArray,bV]at z0 z1 z2 z3 z4 z5
     have g0:=aO (k:=0) HR1.out;have g1:=aO (k:=1) HR1.out;have g2:=aO (k:=2) HR1.out;have g3:=aO (k:=3) HR1.out;have g4:=aO (k:=4) HR1.out;have g5:=aO (k:=5) HR1.out;go_wp2_with fail;refine kS HR1.out rfl rfl rfl ?_;refine⟨mS (HBW.out.trans (HB3.out.mono (by have:=HSZ.out; omega))) (by omega) (by have:=HB3.out.size; have:=HSZ.out; omega), ?_⟩
     rw[HBAD.out];exact⟨rfl,hx⟩
end Go.Proofs.YtnjkpcalgoefhaaGreatDoor
namespace Go.Proofs.YtnjkpcalgoefhaaGreatDoor
open Go Go.RowKit
theorem re (S:Nat->Prop) (data:List UInt8) (v:Value) (w:World) (hv:bi S w v data) (hl:data.length<=32768) (henv:jE w):Calls Tryz.prog 26 #[v] w (oE data w):=by
 obtain⟨_,a,cap,rfl,hn,hm,-⟩:=id hv;unfold maxLen at hm;have hb0:Below w.heap.size w (w.alloc (.cells #[.int .i64 0, .slice none 0 0] 24)):=(Below.refl _ _).alloc (Nat.le_refl _) _;have HV:=ab (show bi S (w.alloc (.cells #[.int .i64 0, .slice none 0 0] 24)) _ data from aS.below hv (by omega) hb0);have HE:=ab henv;have HB0:=ab hb0;have HX0:=ab (heap_alloc_new w (.cells #[.int .i64 0, .slice none 0 0] 24))
 have hz0:(w.alloc (.cells #[.int .i64 0, .slice none 0 0] 24)).heap.size=w.heap.size+1:=by simp
 clear hv henv hb0
 go_enter Tryz.func26,Tryz.ntmps26
 go_wp2_with fail;obtain⟨W0,hW0⟩: ∃W0,W0=w.alloc (.cells #[.int .i64 0, .slice none 0 0] 24):=⟨_,rfl⟩;rw[<-hW0]at HV HB0 HX0 hz0 ⊢;clear hW0;refine(qR S data _ W0 HV.out hl).mono ?_;rintro e w1 ⟨rb,dv,rfl,hge,hrd,hb1⟩;have HRD1:=ab hrd;have HB1:=ab hb1;clear hrd hb1;go_wp2_with fail;refine(nw rb dv data ⟨0,0,0⟩ _ HRD1.out).mono ?_;rintro e w2 ⟨tm,s1,hp,rfl,h1,h2⟩
 have HT:=ab hp;have HRD2:=ab h1;have HG2:=ab h2;clear hp h1 h2;go_wp2_with fail;obtain⟨tv,htv⟩: ∃ix:Int,ix=wrap64 (tm:Int):=⟨_,rfl⟩;rw[<-htv];have HTV:=ab (show tv=qD tm from htv);clear htv;obtain⟨xb,hxb⟩: ∃xb,xb=w2.heap.size:=⟨_,rfl⟩;obtain⟨W3,hW3⟩: ∃W3,W3=w2.alloc (.cells #[.int .i64 tv, .slice none 0 0] 24):=⟨_,rfl⟩;have HI2:=ab (show gG w.heap.size rb xb w w1 W3 dv (.slice none 0 0) data s1 tv [] by
  have z1:=HB1.out.size;have z2:=HG2.out.size;have hlt:=aW.lt HRD1.out;have hB2:Below w.heap.size w w2:=(HB0.out.trans (HB1.out.mono (by omega))).grown HG2.out (by omega) (fun k e=>by cases e; omega);subst hxb hW3;refine⟨aW.below HRD2.out ((Below.refl _ _).alloc (Nat.le_refl _) _),⟨_,HRD1.out⟩,heap_alloc_new w2 _, ?_,bQ.nil _ _,hB2.alloc (by omega) _,by omega,z2,Nat.le_refl _⟩
  rw[heap_alloc_old _ _ (by omega),HG2.out.block _ (by omega) (by simp; omega),HB1.out.block _ (by omega)];exact HX0.out)
 rw[<-hW3,<-hxb];clear hW3 hxb;refine(yA rb dv data s1 4096 _ HI2.out.rd (by omega)).mono ?_;rintro e w3 ⟨n,s2,hcn,rfl,hrd2,hg2⟩;have hnl:n<=4096:=by have:=BX data 4096 s1; rw[hcn]at this; exact this
 have HCN:=ab hcn;have HI3:=ab (HI2.out.call hrd2 hg2);clear hcn hrd2 hg2;go_wp2_with fail
 go_loopw [19] (fun i wr=> ∃(k:Nat) (l:List aw) (s:RS) (fv:Value),k<=n/\i= .int .i64 k/\l.length=k/\eD data s2 k=some (l,s)/\gG w.heap.size rb xb w w1 wr dv fv data s tv l) (fun i _=>n-(intOf i).toNat)
 case atStart=>exact⟨0,[],s2, .slice none 0 0,Nat.zero_le _,rfl,rfl,rfl,HI3.out⟩
 case round=>
  obtain⟨k,l,s,fv,hk,rfl,hlk,hit,hinv⟩:=hrel;have HIT:=ab hit;have HINV:=ab hinv;have HLK:=ab hlk;obtain⟨zs,hzs,hzr,hzd⟩:=hinv.own.row;have hzl:zs.length=k:=by rw[<-hlk,<-hzs,List.length_map]
  rw[hzl]at hzr;obtain⟨av,cv0,hvs,hvn,hvm⟩:=au hzr;subst hvs;have HZS:=ab hzs;have HZR:=ab hzr;have HZD:=ab hzd;have HRD:=ab hinv.rd;have hxr:=lt_of_block hinv.box;have hlo:=hinv.lo;have hhi:=hinv.hi;clear hit hinv hlk hzs hzr hzd
  by_cases hlt:k<n
  ·go_wp2_with fail;refine(Dx rb dv data s 512 _ HRD.out (by omega)).mono ?_;rintro e w4 ⟨nm,a1,hp1,rfl,h1,h2⟩;have hnml:nm.length<=512:=by have:=zh data 512 s; rw[hp1]at this; exact this
   have HP1:=ab hp1;have HM0:=ab (ed.start HRD.out h1 h2 #[.string ⟨nm.toArray⟩, .int .i64 0, .int .i64 0, .int .i64 0, .int .i64 0, .string ⟨#[]⟩, .slice none 0 0]);clear hp1 h1 h2;go_wp2_with fail;refine(nw rb dv data a1 _ HM0.out.rd).mono ?_;rintro e w5 ⟨kd,a2,hp,rfl,h1,h2⟩;have HP2:=ab hp;have HM1:=ab (HM0.out.call h1 h2);have ck:=HM1.out.cell 1;have fk:=HM1.out.free 1
   simp only[eE]at ck;clear hp h1 h2;go_wp2_with fail;obtain⟨kv,hkv⟩: ∃ix:Int,ix=wrap64 (kd:Int):=⟨_,rfl⟩;rw[<-hkv];have Hkv:=ab hkv;clear hkv;obtain⟨w6,hw4⟩: ∃wx:World,wx=w5.setCell ⟨w4.heap.size,1,none⟩ (.int .i64 kv):=⟨_,rfl⟩;rw[<-hw4];have m4:=HM1.out.set 1 (.int .i64 kv);rw[<-hw4]at m4;simp only[List.setIfInBounds_toArray,List.set_cons_succ,List.set_cons_zero]at m4
   have HM2:=ab m4;clear m4 hw4 ck fk HM0 HM1;refine(nw rb dv data a2 _ HM2.out.rd).mono ?_;rintro e w7 ⟨md,a3,hp,rfl,h1,h2⟩;have HP3:=ab hp;have HM3:=ab (HM2.out.call h1 h2);have ck:=HM3.out.cell 2;have fk:=HM3.out.free 2;simp only[eE]at ck;clear hp h1 h2;go_wp2_with fail;obtain⟨mv,hkv⟩: ∃ix:Int,ix=wrap64 (md:Int):=⟨_,rfl⟩;rw[<-hkv];have Hmv:=ab hkv;clear hkv
   obtain⟨w8,hw4⟩: ∃wx:World,wx=w7.setCell ⟨w4.heap.size,2,none⟩ (.int .i64 mv):=⟨_,rfl⟩;rw[<-hw4];have m4:=HM3.out.set 2 (.int .i64 mv);rw[<-hw4]at m4;simp only[List.setIfInBounds_toArray,List.set_cons_succ,List.set_cons_zero]at m4;have HM4:=ab m4;clear m4 hw4 ck fk HM2 HM3;refine(nw rb dv data a3 _ HM4.out.rd).mono ?_;rintro e w9 ⟨td,a4,hp,rfl,h1,h2⟩;have HP4:=ab hp
   have HM5:=ab (HM4.out.call h1 h2);have ck:=HM5.out.cell 3;have fk:=HM5.out.free 3;simp only[eE]at ck;clear hp h1 h2;go_wp2_with fail;obtain⟨dt,hkv⟩: ∃ix:Int,ix=wrap64 (td:Int):=⟨_,rfl⟩;rw[<-hkv];have Hdt:=ab hkv;clear hkv;obtain⟨w10,hw4⟩: ∃wx:World,wx=w9.setCell ⟨w4.heap.size,3,none⟩ (.int .i64 dt):=⟨_,rfl⟩;rw[<-hw4];have m4:=HM5.out.set 3 (.int .i64 dt)
   rw[<-hw4]at m4;simp only[List.setIfInBounds_toArray,List.set_cons_succ,List.set_cons_zero]at m4;have HM6:=ab m4;clear m4 hw4 ck fk HM4 HM5;refine(nw rb dv data a4 _ HM6.out.rd).mono ?_;rintro e w11 ⟨sd,a5,hp,rfl,h1,h2⟩;have HP5:=ab hp;have HM7:=ab (HM6.out.call h1 h2);have ck:=HM7.out.cell 4;have fk:=HM7.out.free 4;simp only[eE]at ck;clear hp h1 h2;go_wp2_with fail
   obtain⟨sv,hkv⟩: ∃ix:Int,ix=wrap64 (sd:Int):=⟨_,rfl⟩;rw[<-hkv];have Hsv:=ab hkv;clear hkv;obtain⟨w12,hw4⟩: ∃wx:World,wx=w11.setCell ⟨w4.heap.size,4,none⟩ (.int .i64 sv):=⟨_,rfl⟩;rw[<-hw4];have m4:=HM7.out.set 4 (.int .i64 sv);rw[<-hw4]at m4;simp only[List.setIfInBounds_toArray,List.set_cons_succ,List.set_cons_zero]at m4;have HM8:=ab m4;clear m4 hw4 ck fk HM6 HM7
   refine(Dx rb dv data a5 512 _ HM8.out.rd (by omega)).mono ?_;rintro e w13 ⟨lk,a6,hp,rfl,h1,h2⟩;have hlkl:lk.length<=512:=by have:=zh data 512 a5; rw[hp]at this; exact this
   have HP6:=ab hp;have HM9:=ab (HM8.out.call h1 h2);have ck:=HM9.out.cell 5;have fk:=HM9.out.free 5;simp only[eE]at ck;clear hp h1 h2;go_wp2_with fail;obtain⟨w14,hw4⟩: ∃wx:World,wx=w13.setCell ⟨w4.heap.size,5,none⟩ (.string ⟨lk.toArray⟩):=⟨_,rfl⟩;rw[<-hw4];have m4:=HM9.out.set 5 (.string ⟨lk.toArray⟩);rw[<-hw4]at m4;simp only[List.setIfInBounds_toArray,List.set_cons_succ,List.set_cons_zero]at m4
   have HMA:=ab m4;clear m4 hw4 ck fk HM8 HM9;refine(yA rb dv data a6 1048576 _ HMA.out.rd (by omega)).mono ?_;rintro e w15 ⟨n2,a7,hp,rfl,h1,h2⟩;have hn2:n2<=1048576:=by have:=BX data 1048576 a6; rw[hp]at this; exact this
   have HP7:=ab hp;have HMB:=ab (HMA.out.call h1 h2);clear hp h1 h2 HMA;go_wp2_with fail;refine(Cy rb dv data a7 _ HMB.out.rd).mono ?_;rintro e w16 ⟨lf,hlf,hlf2,rfl,hbl⟩;have HLF:=ab hlf;have HMC:=ab (HMB.out.below hbl);clear hlf hbl HMB;have HFH:=ab (pw HP1.out HP2.out HP3.out HP4.out HP5.out HP6.out HP7.out)
   by_cases hbig:lf/33<n2
   ·have HDN:=ab (zE HT.out HCN.out (uL HIT.out (HFH.out.trans (xd (show(data.length-a7.off)/33<n2 by rw[<-HLF.out]; exact hbig))) hlt));have HIC:=ab (HINV.out.call HMC.out.rd HMC.out.grown);have r0:=ai (k:=0) HIC.out.res;have r1:=ai (k:=1) HIC.out.res;simp only[List.getElem?_toArray,bV]at r0 r1;have q0:World.frozen? w16 ⟨w.heap.size,0,none⟩=false:=aO (k:=0) HIC.out.res
    have q1:World.frozen? w16 ⟨w.heap.size,1,none⟩=false:=aO (k:=1) HIC.out.res;go_wp2_with fail;refine ox (e7:= .int .i64 3) HIC.out.res rfl rfl rfl ?_;exact jX HDN.out (te HIC.out.below (Nat.le_refl _) HIC.out.below.size)
   ·have HNB:=ab hbig;have hn3:n2<=1000:=by omega
    go_wp2_with fail;clear hbig;obtain⟨wo,hwo⟩: ∃wo:World,wo=wr:=⟨_,rfl⟩;subst hwo
    go_loopw [52] (fun i wq=> ∃(j:Nat) (ps:List bm) (a8:RS) (pv:Value),j<=n2/\i= .int .i64 j/\ps.length=j/\fi data a7 j=(ps,a8)/\ed rb w4.heap.size wo wq dv data a8 #[.string ⟨nm.toArray⟩, .int .i64 kv, .int .i64 mv, .int .i64 dt, .int .i64 sv, .string ⟨lk.toArray⟩,pv]/\wq.ownsRow (w4.heap.size+1) 62 2 pv j (bg ps)/\ ∀p∈ps,dk p) (fun i _=>n2-(intOf i).toNat)
    case atStart=>exact⟨0,[],a7, .slice none 0 0,Nat.zero_le _,rfl,rfl,rfl,HMC.out,World.ownsRow_nil _ _ _ _,by simp⟩
    case round=>
     obtain⟨j,ps,a8,pv,hj,rfl,hlj,hch,hmid,how,hpok⟩:=hrel;have HLJ:=ab hlj;have HCH:=ab hch;have HMQ:=ab hmid;have HOQ:=ab how;have HPO:=ab hpok;obtain⟨a66,c6,hv6,hvn6,hvm6⟩:=au how;subst hv6;clear hlj hch hmid how hpok
     by_cases hlt2:j<n2
     ·go_wp2_with fail;refine(GA rb dv data a8 _ HMQ.out.rd).mono ?_;rintro e wa ⟨bs,a9,hp,rfl,h1,h2⟩;have hbsl:bs.length<=32:=by have:=Fh data a8; rw[hp]at this; exact this
      have HP8:=ab hp;have HMR:=ab (HMQ.out.call h1 h2);have HOR:=ab (HOQ.out.kept h2 (.inr (by
       intro e;have:=(HOQ.out.lt _ e).1;have:=HMQ.out.ge;have:=HMQ.out.lt
       omega)))
      clear hp h1 h2;have ck:=HMR.out.cell 6;have fk:=HMR.out.free 6;simp only[eE]at ck;go_wp2_with fail;refine cL (fun w'=>w'.cell? ⟨w4.heap.size,6,none⟩=some (.slice a66 j c6)) (by kernel_rfl) (by kernel_rfl) ?_;simp only[List.dropLast_cons_cons,List.dropLast_singleton,List.length_cons,List.length_nil,Nat.reduceAdd,Nat.reduceSub];have HMD:=ab (HMR.out.below ((Below.refl _ _).drew))
      refine ag 0 rfl (by kernel_rfl) (by kernel_rfl) (by kernel_rfl) (fun _ _ _ h=>h) rfl (by go_simp) (by intro w' hw'; go_simp; rfl) ?_;simp only[Act.put,aH,aI,aJ];refine ag 1 rfl (by kernel_rfl) (by kernel_rfl) (by kernel_rfl) (fun _ _ _ h=>h) rfl (by go_simp) (by intro w' hw'; go_simp; rfl) ?_;simp only[Act.put,aH,aI,aJ];refine ag 2 rfl (by kernel_rfl) (by kernel_rfl) (by kernel_rfl) (fun _ _ _ h=>h) rfl (by go_simp) (by intro w' hw'; go_simp; rfl) ?_
      simp only[Act.put,aH,aI,aJ];refine ag 3 rfl (by kernel_rfl) (by kernel_rfl) (by kernel_rfl) (fun _ _ _ h=>h) rfl (by go_simp) (by intro w' hw'; go_simp; rfl) ?_;simp only[Act.put,aH,aI,aJ];refine aC 4 rfl (by kernel_rfl) rfl (fun K hK=> ?_);go_wp2_with (go_at_call 49; refine(nw rb dv data a9 _ HMD.out.rd).mono ?_; rintro e wb ⟨zd,a10,hp,rfl,h1,h2⟩);have HP9:=ab hp
      have HMS:=ab (HMD.out.call h1 h2);have HOS:=ab (HOR.out.kept (aR (b:=wa.drew) ⟨rfl,rfl,rfl,Nat.le_refl _,fun _ _ _=>rfl⟩ h2) (.inr (by
       intro e;have:=(HOR.out.lt _ e).1;have:=HMQ.out.ge;have:=HMQ.out.lt
       omega)))
      have ck2:=HMS.out.cell 6;have fk2:=HMS.out.free 6;have hbz2:w4.heap.size+1<=wb.heap.size:=(Array.getElem?_eq_some_iff.1 HMS.out.box).1;simp only[eE]at ck2;clear hp h1 h2 ck fk HMR HMD;refine⟨ck2, ?_⟩;refine ag 5 rfl (by kernel_rfl) (by kernel_rfl) (by kernel_rfl) (fun _ _ _ h=>h) rfl (by go_simp) (by intro w' hw'; go_simp; rfl) ?_;simp only[Act.put,aH,aI,aJ];obtain⟨zv,hzv⟩: ∃ix:Int,ix=IntKind.i64.wrap (zd:Int):=⟨_,rfl⟩
      rw[<-hzv];have HZV:=ab (show zv=qD zd from hzv.trans (Dz zd));clear hzv;refine ag 6 rfl (by kernel_rfl) (by kernel_rfl) (by kernel_rfl) (fun _ _ _ h=>h) rfl (by go_simp) (by intro w' hw'; go_simp; rfl) ?_;simp only[Act.put,aH,aI,aJ];have HMT:=ab (HMS.out.below ((Below.refl _ _).alloc (Nat.le_refl _) (.cells #[.string ⟨bs.toArray⟩, .int .i64 zv] 62)));have ck3:=HMT.out.cell 6
      simp only[eE]at ck3;refine aC 7 rfl (by kernel_rfl) rfl (fun K hK=> ?_);go_wp2_with fail
      (first | (refine⟨ck3, ?_⟩) | skip)
      refine aC 8 rfl (by kernel_rfl) rfl (fun K hK=> ?_);go_wp2_with (at_builtin; go_must (refine bK Tryz.appParts rfl _ _ rfl (w4.heap.size+1) (.slice a66 j c6) j (bg ps) rfl wb [.string ⟨bs.toArray⟩, .int .i64 zv] _ rfl rfl (nh (p:=⟨⟨bs.toArray⟩,zv⟩)) HOS.out (by omega) hbz2 ?_); intro v' wc hown' hgrow' _ hpl; obtain⟨ae,ce,rfl,-,-⟩:=au hown');have HMW:=ab (HMS.out.app hgrow' (fun k hk=>by have:=(HOS.out.lt k hk).1; omega))
      have HOW:=ab (show wc.ownsRow (w4.heap.size+1) 62 2 (.slice ae (j+1) ce) (j+1) (bg (ps++[⟨⟨bs.toArray⟩,zv⟩])) by
       have h3:bg (ps++[⟨⟨bs.toArray⟩,zv⟩])=bg ps++[.string ⟨bs.toArray⟩, .int .i64 zv]:=by simp[bg,mD]
       rw[h3];exact hown')
      have ck4:=HMW.out.cell 6;have fk4:=HMW.out.free 6;simp only[eE]at ck4;clear hown' hgrow' hpl ck2 ck3 fk2 HMT HMS HOS HOQ HOR HMQ;refine⟨ck4, ?_⟩;refine ag 9 rfl (by kernel_rfl) (by kernel_rfl) (by kernel_rfl) (fun _ _ _ h=>h) rfl (by go_simp) (by intro w' hw'; go_simp; rfl) ?_;simp only[Act.put,aH,aI,aJ];refine bu (by kernel_rfl) ?_;refine dd rfl rfl (fun K hK=> ?_)
      go_wp2_with fail
      go_roundw
      case rel=>
       have m4:=HMW.out.set 6 (.slice ae (j+1) ce);simp only[List.setIfInBounds_toArray,List.set_cons_succ,List.set_cons_zero]at m4;refine⟨j+1,ps++[⟨⟨bs.toArray⟩,zv⟩],a10, .slice ae (j+1) ce,by omega,by go_num,by simp[HLJ.out], ?_,m4,HOW.out.kept (aG _ _ _ _) (.inr (by
        intro e;have:=(HOW.out.lt _ e).1
        omega)), ?_⟩
       ·rw[HZV.out];exact vB HCH.out HP8.out HP9.out
       ·intro p hp
        rcases List.mem_append.1 hp with hp | hp
        ·exact HPO.out p hp
        ·rw[List.mem_singleton]at hp;subst hp;exact⟨by show ByteArray.size ⟨_⟩<=_; unfold maxLen; simp[ByteArray.size]; omega,by show(Lit.int .i64 zv).wf=true; rw[HZV.out]; exact Gc _⟩
      case measure=>simp[intOf]; omega
     ·obtain rfl:j=n2:=by omega
      have HFD:=ab (show ll data s=some (⟨⟨nm.toArray⟩,kv,mv,dt,sv,⟨lk.toArray⟩,ps⟩,a8) by
       rw[HFH.out,Hkv.out,Hmv.out,Hdt.out,Hsv.out];exact xe (by rw[<-HLF.out]; exact HNB.out) HCH.out)
      have HFO:=ab (show dj ⟨⟨nm.toArray⟩,kv,mv,dt,sv,⟨lk.toArray⟩,ps⟩from⟨by show ByteArray.size ⟨_⟩<=_; unfold maxLen; simp[ByteArray.size]; omega,by show ByteArray.size ⟨_⟩<=_; unfold maxLen; simp[ByteArray.size]; omega,
       by show(Lit.int .i64 kv).wf=true; rw[Hkv.out]; exact wrap64_wf _,by show(Lit.int .i64 mv).wf=true; rw[Hmv.out]; exact wrap64_wf _,by show(Lit.int .i64 dt).wf=true; rw[Hdt.out]; exact wrap64_wf _,by show(Lit.int .i64 sv).wf=true; rw[Hsv.out]; exact wrap64_wf _⟩)
      have HZQ:=ab (show wr.ownsRow (xb+1) 27 7 (.slice av k cv0) k (cP zs)from bA HZR.out (fun i hi hv=>HMQ.out.grown.block i hi (fun e=>by
       have:=(HZR.out.lt i hv).1
       cases e
       have:=HMQ.out.lt;have:=aW.lt HRD1.out
       omega)))
      have HIC:=ab (HINV.out.call HMQ.out.rd HMQ.out.grown);have HXI:=ab (uK HIT.out HFD.out);have d0:=HMQ.out.cell 0;have d1:=HMQ.out.cell 1;have d2:=HMQ.out.cell 2;have d3:=HMQ.out.cell 3;have d4:=HMQ.out.cell 4;have d5:=HMQ.out.cell 5;have d6:=HMQ.out.cell 6;simp only[eE]at d0 d1 d2 d3 d4 d5 d6;have y1:=ai (k:=1) HIC.out.box;simp only[List.getElem?_toArray,bV]at y1
      have hbz:xb+1<=wr.heap.size:=lt_of_block HIC.out.box;have hkb:k<4096:=by omega
      go_wp2_with (at_builtin; go_must (refine bK Tryz.appFiles rfl _ _ rfl (xb+1) (.slice av k cv0) k (cP zs) rfl wr [.string ⟨nm.toArray⟩, .int .i64 kv, .int .i64 mv, .int .i64 dt, .int .i64 sv, .string ⟨lk.toArray⟩, .slice a66 j c6] _ rfl rfl (gB (f:=⟨⟨nm.toArray⟩,kv,mv,dt,sv,⟨lk.toArray⟩,ps⟩)) HZQ.out (by omega) hbz ?_); intro v' we hown' hgrow' _ hpl; obtain⟨ae,ce,rfl,-,-⟩:=au hown'; have HWN:=ab hown'; have HGW:=ab hgrow'; have HPL:=ab hpl; have HYE:=ab ((hgrow'.block xb (by omega) (fun e=>by have:=(HZQ.out.lt xb e.symm).1; omega)).trans HIC.out.box); have z1:=ai (k:=1) HYE.out; simp only[List.getElem?_toArray,bV]at z1; have zf:=aO (k:=1) HYE.out; clear hown' hgrow' hpl)
      go_roundw
      case rel=>
       refine⟨k+1,l++[⟨⟨nm.toArray⟩,kv,mv,dt,sv,⟨lk.toArray⟩,ps⟩],a8, .slice ae (k+1) ce,by omega,by go_num,by simp[HLK.out],HXI.out, ?_⟩;have hzl2:zs.length=k:=hzl;refine HINV.out.next (f:=⟨⟨nm.toArray⟩,kv,mv,dt,sv,⟨lk.toArray⟩,ps⟩) (pv:= .slice a66 j c6) HMQ.out HZS.out (by rw[hzl2]; exact HZR.out) HZD.out ?_ HFO.out HPO.out (by rw[hzl2]; exact HWN.out) HGW.out HPL.out
       have h3:=HOQ.out;rw[<-HLJ.out]at h3;exact ci (by rw[HLJ.out]at h3 ⊢; exact h3) (by have:=HMQ.out.ge; omega)
      case measure=>simp[intOf]; omega
  ·obtain rfl:k=n:=by omega
   have HDS:=ab (zF HT.out HCN.out HIT.out);go_wp2_with fail;refine(Ek rb dv data s _ HRD.out).mono ?_;rintro e we ⟨rfl,nd,hwe⟩;have HIC:=ab (HINV.out.into (show Below wr.heap.size wr we by rw[hwe]; exact cu (Below.refl _ _) nd));clear hwe;obtain⟨ev,hev⟩: ∃ev:Int,ev=oc data s:=⟨_,rfl⟩;rw[<-hev];have HEV:=ab hev;clear hev;have y0:=ai (k:=0) HIC.out.box
   have y1:=ai (k:=1) HIC.out.box;simp only[List.getElem?_toArray,bV]at y0 y1;have r0:=ai (k:=0) HIC.out.res;have r1:=ai (k:=1) HIC.out.res;simp only[List.getElem?_toArray,bV]at r0 r1;have q0:World.frozen? we ⟨w.heap.size,0,none⟩=false:=aO (k:=0) HIC.out.res;have q1:World.frozen? we ⟨w.heap.size,1,none⟩=false:=aO (k:=1) HIC.out.res
   by_cases h0:ev=0
   ·subst h0;have HFA:=ab HIC.out.own.at
    cases hvn2:cR ⟨tv,l⟩
    ·have HVN:=ab hvn2;have HDN:=ab (show mX data=none by
      rw[HDS.out,if_neg];intro h9;have h8:=h9.2;rw[<-HTV.out,hvn2]at h8
      cases h8)
     clear hvn2;go_wp2_with fail;refine(dM _ ⟨tv,l⟩ _ false _ HFA.out (HE.out.below HIC.out.below) HVN.out).mono ?_;rintro e wf ⟨rfl,hbf⟩;have HID:=ab (HIC.out.into hbf);clear hbf r0 r1 q0 q1;have r0:=ai (k:=0) HID.out.res;have r1:=ai (k:=1) HID.out.res;simp only[List.getElem?_toArray,bV]at r0 r1;have q0:World.frozen? wf ⟨w.heap.size,0,none⟩=false:=aO (k:=0) HID.out.res
     have q1:World.frozen? wf ⟨w.heap.size,1,none⟩=false:=aO (k:=1) HID.out.res;go_wp2_with fail;refine ox (e7:= .int .i64 3) HID.out.res rfl rfl rfl ?_;exact jX HDN.out (te HID.out.below (Nat.le_refl _) HID.out.below.size)
    ·have HVN:=ab hvn2;have HDN:=ab (show mX data=some ⟨tv,l⟩ by
      rw[HDS.out,if_pos]
      ·rw[HTV.out]
      ·rw[<-HTV.out]; exact⟨HEV.out.symm,hvn2⟩)
     clear hvn2;go_wp2_with fail;refine(dM _ ⟨tv,l⟩ _ true _ HFA.out (HE.out.below HIC.out.below) HVN.out).mono ?_;rintro e wf ⟨rfl,hbf⟩;have HID:=ab (HIC.out.into hbf);clear hbf r0 r1 q0 q1 y0 y1;have r0:=ai (k:=0) HID.out.res;have r1:=ai (k:=1) HID.out.res;simp only[List.getElem?_toArray,bV]at r0 r1;have q0:World.frozen? wf ⟨w.heap.size,0,none⟩=false:=aO (k:=0) HID.out.res
     have q1:World.frozen? wf ⟨w.heap.size,1,none⟩=false:=aO (k:=1) HID.out.res;have y0:=ai (k:=0) HID.out.box;have y1:=ai (k:=1) HID.out.box;simp only[List.getElem?_toArray,bV]at y0 y1;go_wp2_with fail;refine ox (e7:= .int .i64 0) HID.out.res rfl rfl rfl ?_;refine uv HDN.out (te HID.out.below (Nat.le_refl _) HID.out.below.size) ?_;have hxw:w.heap.size<xb:=by have:=aW.lt HRD1.out; omega
     exact((HID.out.own.same (w':=(wf.setCell ⟨w.heap.size,0,none⟩ (.int .i64 tv)).setCell ⟨w.heap.size,1,none⟩ (.slice av k cv0)) (fun i cs t hi hB hc ht=>(Below.heap_setCell _ _ _ _ (by show i≠w.heap.size; omega)).trans (Below.heap_setCell _ _ _ _ (by show i≠w.heap.size; omega)))).le (by omega)).at
   ·have HDN:=ab (show mX data=none by
     rw[HDS.out,if_neg];intro h9;exact h0 (HEV.out.trans h9.1))
    have e6:(ev != 0)=true:=by simp[h0]
    clear h0;go_wp2_with fail;refine ox (e7:= .int .i64 3) HIC.out.res rfl rfl rfl ?_;exact jX HDN.out (te HIC.out.below (Nat.le_refl _) HIC.out.below.size)
end Go.Proofs.YtnjkpcalgoefhaaGreatDoor
namespace Go.Proofs.YtnjkpcalgoefhaaGreatDoor
open Go.RowKit
def jW :eU:=⟨4,8,4,20,0⟩
theorem mm :fq jW=true:=by decide
def Br (l:List UInt8):ByteArray:=⟨l.toArray⟩
def El :bG:=⟨Br [100],2,0,0,[],Br []⟩
def nJ (d:List UInt8):bG:=⟨Br [100,47,102],1,0,5,d,Br []⟩
def em (d:List UInt8):List bG:=[El,nJ d]
def cU (ps:List bm):List aw:=[⟨Br [100],2,0,0,0,Br [],[]⟩,⟨Br [100,47,102],1,0,5,3,Br [],ps⟩]
theorem ut :cE jW [97,98,99]=[[97,98,99]]:=by decide+kernel
theorem kw (d:List UInt8) (h:d=[97,98,99]\/d=[97,98,100]):cD (em d)=0:=by
 rcases h with rfl | rfl<;> decide+kernel
theorem fL :cI []=([],0,0):=by kernel_rfl
theorem yJ (T:List bG):dw [] T=T:=by
 have h: ∀(f n:Nat) (d:Bool) (p:List (List UInt8)),cM d p [] f n=false:=by
  intro f
  induction f with
  | zero=>intros; rfl
  | succ f ih=>intro n d p; simp[cM,fy,ih]
 unfold dw;rw[List.filter_eq_self];intro e _;unfold qM dJ
 split
 ·rfl
 ·simp[bh,h]
def FC :bd:=⟨[100],false,true,false⟩
theorem yT :cI [100,47]=([FC],0,0):=by kernel_rfl
theorem Gq (d:List UInt8) (h:d=[97,98,100]):dw [FC] (em d)=[]:=by
 subst h; decide+kernel
theorem FD :fm ⟨0,[]⟩ 10 (em [97,98,99]) [] jW= .ok ⟨⟨10,cU [bP [97,98,99]]⟩,[(Br [100],1),(Br [100,47,102],1)],[[97,98,99]],1,0⟩:=by
 unfold fm;rw[if_pos ⟨by decide+kernel,by decide,mm⟩,if_pos (by rw[fL]),if_pos (kw _ (.inl rfl)),fL,yJ];have hk:sq 0 [] (nJ [97,98,99])=true:=rfl;have hd: ∀d,sq 0 [] El=false/\qq 0 [] El=false/\qq 0 [] (nJ d)=false:=fun d=>⟨rfl,rfl,rfl⟩
 have h1:dS 0 [] jW (em [97,98,99])=⟨cU [bP [97,98,99]],[jI [97,98,99]],[[97,98,99]],1,0⟩:=by
  have e1:ek 0 [] jW (nJ [97,98,99])=[bP [97,98,99]]:=by
   rw[pS hk]
   show(cE jW [97,98,99]).map bP=_
   rw[ut]; rfl
  have e2:(em [97,98,99]).filter (sq 0 [])=[nJ [97,98,99]]:=rfl;have e3:(em [97,98,99]).filter (qq 0 [])=[]:=rfl;unfold dS;rw[e2,e3];have e4:(em [97,98,99]).map (fw 0 [] jW)=cU [bP [97,98,99]]:=by
   unfold em;simp only[List.map_cons,List.map_nil];unfold fw;rw[e1]; rfl
  rw[e4];simp only[List.flatMap_cons,List.flatMap_nil,List.append_nil];rw[show cE jW (nJ [97,98,99]).data=[[97,98,99]]from ut]
  rfl
 rw[h1]
 generalize [bP [97,98,99]]=ps
 rfl
theorem yI :cR ⟨10,cU [bP [97,98,99]]⟩=true:=by
 have h:=FS (rules:=[]) (T:=em [97,98,99]) (prev:=⟨0,[]⟩) (tm:=10) (c:=jW) fL (kw _ (.inl rfl)) (by decide+kernel) (by decide) mm;have h2:=FD;unfold fm at h2;rw[if_pos ⟨by decide+kernel,by decide,mm⟩,if_pos (by rw[fL]),if_pos (kw _ (.inl rfl)),fL]at h2;have h3:(dS 0 [] jW (dw [] (em [97,98,99]))).files=cU [bP [97,98,99]]:=by
  have:=Except.ok.inj h2;exact congrArg (fun r=>r.idx.files) this
 have h4:(dw [] (em [97,98,99])).map (fw 0 [] jW)=cU [bP [97,98,99]]:=h3;rw[<-h4]; exact h
theorem Gw :fm ⟨10,cU [bP [97,98,99]]⟩ 20 (em [97,98,100]) [] jW= .ok ⟨⟨20,cU [bP [97,98,99]]⟩,[],[],0,1⟩:=by
 have hi:=yI
 revert hi
 generalize [bP [97,98,99]]=ps
 intro hi;unfold fm;rw[if_pos ⟨hi,show(10:Int)<=20 by decide,mm⟩,if_pos (by rw[fL]),if_pos (kw _ (.inr rfl)),fL,yJ];have e4:(em [97,98,100]).map (fw 10 (cU ps) jW)=cU ps:=rfl;have e2:(em [97,98,100]).filter (sq 10 (cU ps))=[]:=rfl;have e3:((em [97,98,100]).filter (qq 10 (cU ps))).length=1:=rfl;unfold dS
 simp only;rw[e2,e3,e4,show qE (cU ps) (cU ps)=[]from uk _ _]
 rfl
theorem Gx :fm ⟨10,cU [bP [97,98,99]]⟩ 20 (em [97,98,100]) [100,47] jW= .ok ⟨⟨20,[]⟩,[(Br [100],4),(Br [100,47,102],4)],[],0,0⟩:=by
 have hi:=yI
 revert hi
 generalize [bP [97,98,99]]=ps
 intro hi;unfold fm;rw[if_pos ⟨hi,show(10:Int)<=20 by decide,mm⟩,if_pos (by rw[yT]),if_pos (kw _ (.inr rfl)),yT,Gq _ rfl]
 rfl
end Go.Proofs.YtnjkpcalgoefhaaGreatDoor
