/- Texts of this proof, one after the other: DivE, DivF, Match, Rules, Ign, Parse, ScnR, RefI, RefJ, RfA, RefA, RefB, RfD. -/
import Derived.Test.YtnjkpcalgoefhaaGreatDoorCChangesD
set_option maxRecDepth 100000
set_option maxHeartbeats 8000000
namespace Go.Proofs.YtnjkpcalgoefhaaGreatDoor
open Go.RowKit
def dk (c:aP) (x:ByteArray):Bool:=uW c (bl x)
theorem jT (S:Nat->Prop) (c:aP) (v:Value) (x:ByteArray) (w:World) (hv:cO S w v c.items) (hn:c.items.length<=65536) (hx:x.size<=65536):
  Calls Tryz.prog 116 #[.agg #[.bool c.dbl,v], .string x] w fun e w'=>e= .returned (.bool (dk c x))/\Below w.heap.size w w':=mp S c v x w hv hn hx
theorem nw (ps:List aP) (ts:List ByteArray) (S:Nat->Prop) (w0:World) (B:Nat) (pv tv:Value) (hB:w0.heap.size=B) (hp:dt S w0 pv ps) (htv:aN S w0 1 tv ts.length (ts.map Value.string))
  (hn:ps.length<=65536) (hm:ts.length<=65536) (hps: ∀c∈ps,c.items.length<=65536) (hts: ∀x∈ts,x.size<=65536) (i j:Nat) (w:World) (tr:List Bool) (hi:i<=ps.length) (hj:j<=ts.length)
  (IH:i<ps.length->uN aP.dbl dk ps ts (i+1) w0 B ((ps.length+1)*(ts.length+1)) 140 pv tv (.func (.func 115) #[] #[]) (.func (.func 116) #[] #[]))
  (hst:fp w0 B ((ps.length+1)*(ts.length+1)) 140 pv tv (.func (.func 115) #[] #[]) (.func (.func 116) #[] #[]) tr w) (hinv:eN aP.dbl dk ps ts i tr):
  Calls Tryz.prog 140 #[.int .i64 i, .int .i64 j, .pointer (some ⟨B+1,0,none⟩), .pointer (some ⟨B+5,0,none⟩), .pointer (some ⟨B,0,none⟩), .pointer (some ⟨B+2,0,none⟩), .pointer (some ⟨B+3,0,none⟩), .pointer (some ⟨B+6,0,none⟩)] w
   (pY aP.dbl dk ps ts i j w0 B ((ps.length+1)*(ts.length+1)) 140 pv tv (.func (.func 115) #[] #[]) (.func (.func 116) #[] #[]) tr):=by
 obtain⟨pa,pc,rfl,hpc,hpm,hpx⟩:=hp.shape fo.len;obtain⟨_,ta,tc,rfl,htc,htm,ht0⟩:=htv;unfold maxLen at hpm htm;obtain⟨c0,c1,c2,c3,c5,c6,-,hlen,-,-⟩:=id hst;have HST:=ab hst;have HINV:=ab hinv;have HIH:=ab IH;clear IH;have HPX:=ab hpx;have HT0:=ab ht0;have HLEN:=ab hlen;have hpS:=hp;have HPS:=ab hpS;have HPZ:=ab hps;have HTZ:=ab hts;clear hps hts
 clear hst hinv hpx ht0 hlen hp hpS;obtain⟨N,hN⟩: ∃N:Nat,N=(ps.length+1)*(ts.length+1):=⟨_,rfl⟩;have hpN:i*(ts.length+1)+j<N:=by rw[hN]; exact sy _ _ _ _ hi hj
 have hNb:N<=4295098369:=by
  have h1:(ps.length+1)*(ts.length+1)<=65537*65537:=Nat.mul_le_mul (by omega) (by omega);omega
 have hX:(i:Int)*((ts.length:Int)+1)=((i*(ts.length+1):Nat):Int):=by simp
 have hb1:0<=(i:Int)*((ts.length:Int)+1):=by rw[hX]; omega
 have hb2:(i:Int)*((ts.length:Int)+1)<=4295098369:=by rw[hX]; omega
 have hb3:(i:Int)*((ts.length:Int)+1)+(j:Int)<(N:Int):=by rw[hX]; omega
 obtain⟨b0,hq⟩: ∃b,tr[i*(ts.length+1)+j]? =some b:=⟨tr[i*(ts.length+1)+j]'(by rw[HLEN.out,<-hN]; exact hpN),by simp⟩;have HQ:=ab hq;have c4:=HST.out.cell hq;have f4:=HST.out.free (i*(ts.length+1)+j);rw[<-hN]at c5 HST HIH ⊢;have HN:=ab hN;clear hN hq HLEN hX
 cases b0 with
 | true=>
  go_enter Tryz.func140,Tryz.ntmps140
  go_wp2_with fail;go_ret;have hf:dv aP.dbl dk (ps.drop i) (ts.drop j)=false:=HINV.out.hit hi hj HQ.out;exact⟨tr,by rw[hf]; rfl,HST.out,fun _=>HINV.out,fun _ _=>rfl⟩
 | false=>
  have hst1:=HST.out.mark (i*(ts.length+1)+j);have HST1:=ab hst1;have HINV1:=ab (HINV.out.marked (j:=j) hj);obtain⟨d0,d1,d2,d3,d5,d6,-,-,-,-⟩:=hst1
  by_cases hin:i=ps.length
  ·have e1:((i:Int) == (ps.length:Int))=true:=by rw[hin]; simp
   have HIN:=ab hin;clear hin
   go_enter Tryz.func140,Tryz.ntmps140
   go_wp2_with fail;go_ret;have hdv:=yo (star:=aP.dbl) (M:=dk) HIN.out hj;refine⟨tr.set (i*(ts.length+1)+j) true, ?_,HST1.out,fun hf=>HINV.out.down HINV1.out (fun q' _=>rfl) hf,fun q' hq'=> ?_⟩
   ·rw[hdv];exact aw (by rw[Bool.eq_iff_iff]; simp; omega)
   ·rw[List.getElem?_set_ne];omega
  ·have hin':i<ps.length:=by omega
   have e1:((i:Int) == (ps.length:Int))=false:=by rw[beq_eq_false_iff_ne]; omega
   clear hin;obtain⟨it,hit⟩: ∃it,ps[i]? =some it:=⟨ps[i],by simp[hin']⟩;obtain⟨pb,po,c,rfl,hSb,⟨rv,rfl,hrv⟩,-,hcl⟩:=HPX.out i it hit;have HIT:=ab hit;have HRV:=ab hrv;have q0:=hcl 0 (by omega);have q1:=hcl 1 (by omega);simp only[Nat.add_zero,<-Nat.add_assoc,bN]at q0 q1;have Q0:=ab q0;have Q1:=ab q1;have g0:=cX HST1.out.below hB q0;have g1:=cX HST1.out.below hB q1
   clear hit hrv hcl q0 q1
   cases hs:it.dbl
   ·have HS:=ab hs;clear hs
    go_enter Tryz.func140,Tryz.ntmps140
    go_wp2_with fail;clear c0 c1 c2 c3 c4 c5 c6 f4
    generalize hW:w.setCell ⟨B+4,i*(ts.length+1)+j,none⟩ (.bool true)=W at *
    clear hW hb1 hb2 hb3 hpN hNb;refine ax [some 5,none,some 1] (by kernel_rfl) (by kernel_rfl) (by kernel_rfl) ?_;simp only[bp,List.take_succ_cons,List.take_zero,List.drop_succ_cons,List.drop_zero];have HST2:=ab (HST1.out.grown (Below.refl _ W).drew)
    repeat (first | (refine aB rfl ?_; simp only[Act.put,aC,aD,aE]) | (refine aI rfl (fun K hK=> ?_); go_simp; refine hK _ ?_; clear hK K))
    refine aH ?_;clear d0 d1 d2 d3 d5 d6 g0 g1 HST1
    generalize W.drew=W2 at *
    refine bt rfl (fun K hK=> ?_);go_wp2_with (go_at_call 115; refine(lP it rv _).mono ?_; rintro e w3 ⟨rfl,hb3⟩; rw[HS.out]; have HST3:=ab (HST2.out.grown hb3); clear hb3 HST2)
    repeat (first | (refine aB rfl ?_; simp only[Act.put,aC,aD,aE]) | (refine aI rfl (fun K hK=> ?_); go_simp; refine hK _ ?_; clear hK K))
    refine aH ?_;go_wp2_with fail;obtain⟨d0,d1,d2,d3,d5,d6,-,-,-,-⟩:=id HST3.out;have g0:=cX HST3.out.below hB Q0.out;have g1:=cX HST3.out.below hB Q1.out
    by_cases hjm:j<ts.length
    ·have ejm:decide ((j:Int)<(ts.length:Int))=true:=by simpa using hjm
     obtain⟨x,hx⟩: ∃x,ts[j]? =some x:=⟨ts[j],by simp[hjm]⟩;obtain⟨tb,tof,rfl,hSt,htcl⟩:=HT0.out.resolve_left (by omega);have hx3:=cX HST3.out.below hB (htcl j (.string x) (by simp[hx]));have HX:=ab hx;clear hx htcl
     cases hM:dk it x
     ·have HM:=ab hM;clear hM;have ejm2:(j:Int)<(ts.length:Int):=by omega
      refine ax [some 14,none,some 7,none,some 2] (by kernel_rfl) (by kernel_rfl) (by kernel_rfl) ?_;simp only[bp,List.take_succ_cons,List.take_zero,List.drop_succ_cons,List.drop_zero];have HST3':=ab (HST3.out.grown (Below.refl _ w3).drew)
      repeat (first | (refine aB rfl ?_; simp only[Act.put,aC,aD,aE]) | (refine aI rfl (fun K hK=> ?_); go_simp; refine hK _ ?_; clear hK K))
      refine aH ?_;clear d0 d1 d2 d3 d5 d6 g0 g1 hx3;have hrv4:cO S w3.drew rv it.items:=cO.move HRV.out (fun k hk h=>⟨h,HST3'.out.below.block k (by omega)⟩);have HRV4:=ab hrv4;clear hrv4
      generalize w3.drew=w3d at *
      refine bt rfl (fun K hK=> ?_);go_wp2_with (go_at_call 116; refine(jT S it rv x _ HRV4.out (HPZ.out it (List.mem_of_getElem? HIT.out)) (HTZ.out x (List.mem_of_getElem? HX.out))).mono ?_; rintro e w4 ⟨rfl,hb4⟩; rw[HM.out]; have HST4:=ab (HST3'.out.grown hb4); clear hb4)
      repeat (first | (refine aB rfl ?_; simp only[Act.put,aC,aD,aE]) | (refine aI rfl (fun K hK=> ?_); go_simp; refine hK _ ?_; clear hK K))
      refine aH ?_;refine gK rfl ?_;simp only[Act.put,aC,aD,aE]
      repeat (first | (refine aB rfl ?_; simp only[Act.put,aC,aD,aE]) | (refine aI rfl (fun K hK=> ?_); go_simp; refine hK _ ?_; clear hK K))
      refine aH ?_;go_wp2_with fail;go_ret;have hdv:=show dv aP.dbl dk (ps.drop i) (ts.drop j)=false by rw[qo HIT.out HS.out HX.out,HM.out]; rfl
      refine⟨tr.set (i*(ts.length+1)+j) true,by rw[hdv]; rfl,HST4.out,fun hf=>HINV.out.down HINV1.out (fun _ _=>rfl) hf,fun q hq=> ?_⟩;rw[List.getElem?_set_ne (by omega)]
     ·have HM:=ab hM;clear hM;have ejm2:(j:Int)<(ts.length:Int):=by omega
      refine ax [some 14,none,some 7,none,some 2] (by kernel_rfl) (by kernel_rfl) (by kernel_rfl) ?_;simp only[bp,List.take_succ_cons,List.take_zero,List.drop_succ_cons,List.drop_zero];have HST3':=ab (HST3.out.grown (Below.refl _ w3).drew)
      repeat (first | (refine aB rfl ?_; simp only[Act.put,aC,aD,aE]) | (refine aI rfl (fun K hK=> ?_); go_simp; refine hK _ ?_; clear hK K))
      refine aH ?_;clear d0 d1 d2 d3 d5 d6 g0 g1 hx3;have hrv4:cO S w3.drew rv it.items:=cO.move HRV.out (fun k hk h=>⟨h,HST3'.out.below.block k (by omega)⟩);have HRV4:=ab hrv4;clear hrv4
      generalize w3.drew=w3d at *
      refine bt rfl (fun K hK=> ?_);go_wp2_with (go_at_call 116; refine(jT S it rv x _ HRV4.out (HPZ.out it (List.mem_of_getElem? HIT.out)) (HTZ.out x (List.mem_of_getElem? HX.out))).mono ?_; rintro e w4 ⟨rfl,hb4⟩; rw[HM.out]; have HST4:=ab (HST3'.out.grown hb4); clear hb4);have d6:=HST4.out.c6
      repeat (first | (refine aB rfl ?_; simp only[Act.put,aC,aD,aE]) | (refine aI rfl (fun K hK=> ?_); go_simp; refine hK _ ?_; clear hK K))
      refine aH ?_;refine bt rfl (fun K hK=> ?_);go_wp2_with (go_at_call 140; refine(HIH.out hin' _ _ (j+1) w4 (tr.set (i*(ts.length+1)+j) true) (by omega) (by omega) (by omega) HST4.out HINV1.out).mono ?_; rintro e w5 ⟨tr2,rfl,hst5,hinv5,hsame5⟩; have HST5:=ab hst5; have HINV5:=ab hinv5; have HSM5:=ab hsame5; clear hst5 hinv5 hsame5)
      repeat (first | (refine aB rfl ?_; simp only[Act.put,aC,aD,aE]) | (refine aI rfl (fun K hK=> ?_); go_simp; refine hK _ ?_; clear hK K))
      refine aH ?_;go_wp2_with fail;go_ret;have hdv:dv aP.dbl dk (ps.drop i) (ts.drop j)=dv aP.dbl dk (ps.drop (i+1)) (ts.drop (j+1)):=by rw[qo HIT.out HS.out HX.out,HM.out]; rfl
      refine⟨tr2,by rw[hdv]; rfl,HST5.out,fun hf=>HINV.out.down (HINV5.out (by rw[<-hdv]; exact hf)) (fun q hq=>HSM5.out q hq) hf,fun q hq=> ?_⟩;rw[HSM5.out q (by rw[Nat.add_mul]; omega),List.getElem?_set_ne (by omega)]
    ·have ejm:decide ((j:Int)<(ts.length:Int))=false:=by simpa using hjm
     go_quiet (fail)
     go_wp2_with fail;go_ret;have HST4:=ab (HST3.out.grown (cH (Below.refl _ w3) nq));have hdv:=show dv aP.dbl dk (ps.drop i) (ts.drop j)=false from vd HIT.out HS.out (by omega);refine⟨tr.set (i*(ts.length+1)+j) true,by rw[hdv]; rfl,HST4.out,fun hf=>HINV.out.down HINV1.out (fun _ _=>rfl) hf,fun q hq=> ?_⟩;rw[List.getElem?_set_ne (by omega)]
   ·have HS:=ab hs;clear hs
    go_enter Tryz.func140,Tryz.ntmps140
    go_wp2_with fail;clear c0 c1 c2 c3 c4 c5 c6 f4
    generalize hW:w.setCell ⟨B+4,i*(ts.length+1)+j,none⟩ (.bool true)=W at *
    clear hW hb1 hb2 hb3 hpN hNb;refine ax [some 5,none,some 1] (by kernel_rfl) (by kernel_rfl) (by kernel_rfl) ?_;simp only[bp,List.take_succ_cons,List.take_zero,List.drop_succ_cons,List.drop_zero];have HST2:=ab (HST1.out.grown (Below.refl _ W).drew)
    repeat (first | (refine aB rfl ?_; simp only[Act.put,aC,aD,aE]) | (refine aI rfl (fun K hK=> ?_); go_simp; refine hK _ ?_; clear hK K))
    refine aH ?_;clear d0 d1 d2 d3 d5 d6 g0 g1 HST1
    generalize W.drew=W2 at *
    refine bt rfl (fun K hK=> ?_);go_wp2_with (go_at_call 115; refine(lP it rv _).mono ?_; rintro e w3 ⟨rfl,hb3⟩; rw[HS.out]; have HST3:=ab (HST2.out.grown hb3); clear hb3 HST2)
    repeat (first | (refine aB rfl ?_; simp only[Act.put,aC,aD,aE]) | (refine aI rfl (fun K hK=> ?_); go_simp; refine hK _ ?_; clear hK K))
    refine aH ?_;go_wp2_with fail
    go_loopw [12] (fun en wr=> ∃(k:Nat) (tr':List Bool),j<=k/\k<=ts.length+1/\en= .int .i64 k/\fp w0 B N 140 (.slice (some ⟨pb,po,none⟩) ps.length pc) (.slice ta ts.length tc) (.func (.func 115) #[] #[]) (.func (.func 116) #[] #[]) tr' wr/\
      eN aP.dbl dk ps ts (i+1) tr'/\(∀q,q<(i+1)*(ts.length+1)->tr'[q]? =(tr.set (i*(ts.length+1)+j) true)[q]?)/\dv aP.dbl dk (ps.drop i) (ts.drop j)=(decide (k<=ts.length) && fZ (dv aP.dbl dk (ps.drop (i+1))) (ts.drop k))) (fun en _=>ts.length+1-(intOf en).toNat)
    case atStart=>exact⟨j,_,Nat.le_refl _,by omega,rfl,HST3.out,HINV1.out,fun _ _=>rfl,by rw[ve HIT.out HS.out]; simp[hj]⟩
    case round=>
     obtain⟨k,tr',hjk,hk,rfl,hst4,hinv4,hsm4,hdv4⟩:=hrel;have HST4:=ab hst4;have HINV4:=ab hinv4;have HSM4:=ab hsm4;have HDV4:=ab hdv4;obtain⟨d0,d1,d2,d3,d5,d6,-,-,-,-⟩:=hst4;clear hinv4 hsm4 hdv4
     by_cases hkm:k<=ts.length
     ·cases hdvk:dv aP.dbl dk (ps.drop (i+1)) (ts.drop k)
      ·have HDVK:=ab hdvk;clear hdvk;go_wp2_with (go_at_call 140; refine(HIH.out hin' _ _ k wr tr' (by omega) (by omega) (by omega) HST4.out HINV4.out).mono ?_; rintro e w5 ⟨tr2,rfl,hst5,hinv5,hsame5⟩; rw[HDVK.out]; have HST5:=ab hst5; have HINV5:=ab hinv5; have HSM5:=ab hsame5; clear hst5 hinv5 hsame5)
       go_roundw
       case rel=>
        refine⟨k+1,tr2,by omega,by omega,by go_num,HST5.out,HINV5.out HDVK.out,fun q hq=>(HSM5.out q hq).trans (HSM4.out q hq), ?_⟩;rw[HDV4.out]
        by_cases hlt:k<ts.length
        ·rw[gr _ hlt,HDVK.out]; simp[hkm,show k+1<=ts.length by omega]
        ·rw[ia _ (show k=ts.length by omega),HDVK.out]; simp[show ¬k+1<=ts.length by omega]
       case measure=>simp[intOf]; omega
      ·have HDVK:=ab hdvk;clear hdvk;go_wp2_with (go_at_call 140; refine(HIH.out hin' _ _ k wr tr' (by omega) (by omega) (by omega) HST4.out HINV4.out).mono ?_; rintro e w5 ⟨tr2,rfl,hst5,hinv5,hsame5⟩; rw[HDVK.out]; have HST5:=ab hst5; have HINV5:=ab hinv5; have HSM5:=ab hsame5; clear hst5 hinv5 hsame5);go_ret;have hdv:dv aP.dbl dk (ps.drop i) (ts.drop j)=true:=by
        rw[HDV4.out]
        by_cases hlt:k<ts.length
        ·rw[gr _ hlt,HDVK.out]; simp[hkm]
        ·rw[ia _ (show k=ts.length by omega),HDVK.out]; simp[hkm]
       refine⟨tr2,by rw[hdv]; rfl,HST5.out,(fun hf=>by rw[hdv]at hf; cases hf),fun q hq=> ?_⟩;rw[HSM5.out q (by rw[Nat.add_mul]; omega),HSM4.out q (by rw[Nat.add_mul]; omega),List.getElem?_set_ne (by omega)]
     ·go_wp2_with fail;go_ret;have hdv:dv aP.dbl dk (ps.drop i) (ts.drop j)=false:=by rw[HDV4.out]; simp[hkm]
      refine⟨tr',by rw[hdv]; rfl,HST4.out,fun hf=>HINV.out.down HINV4.out HSM4.out hf,fun q hq=> ?_⟩;rw[HSM4.out q (by rw[Nat.add_mul]; omega),List.getElem?_set_ne (by omega)]
theorem AW (ps:List aP) (ts:List ByteArray) (S:Nat->Prop) (w0:World) (B:Nat) (pv tv:Value) (hB:w0.heap.size=B) (hp:dt S w0 pv ps) (htv:aN S w0 1 tv ts.length (ts.map Value.string))
  (hn:ps.length<=65536) (hm:ts.length<=65536) (hps: ∀c∈ps,c.items.length<=65536) (hts: ∀x∈ts,x.size<=65536): ∀(d i:Nat),ps.length-i=d->i<=ps.length->uN aP.dbl dk ps ts i w0 B ((ps.length+1)*(ts.length+1)) 140 pv tv (.func (.func 115) #[] #[]) (.func (.func 116) #[] #[])
 | 0,i,hd,hi=>by
  intro ii jj j w tr h1 h2 hj hst hinv;subst h1 h2;exact nw ps ts S w0 B pv tv hB hp htv hn hm hps hts i j w tr hi hj (fun h=>by omega) hst hinv
 | d+1,i,hd,hi=>by
  intro ii jj j w tr h1 h2 hj hst hinv;subst h1 h2;exact nw ps ts S w0 B pv tv hB hp htv hn hm hps hts i j w tr hi hj (fun h=>AW ps ts S w0 B pv tv hB hp htv hn hm hps hts d (i+1) (by omega) (by omega)) hst hinv
theorem rt (ps:List aP) (ts:List ByteArray) (S:Nat->Prop) (w:World) (pv tv:Value) (hp:dt S w pv ps) (htv:aN S w 1 tv ts.length (ts.map Value.string)) (hn:ps.length<=65536) (hm:ts.length<=65536) (hps: ∀c∈ps,c.items.length<=65536) (hts: ∀x∈ts,x.size<=65536):
  Calls Tryz.prog 114 #[pv,tv, .func (.func 115) #[] #[], .func (.func 116) #[] #[]] w fun e w'=>e= .returned (.bool (dv aP.dbl dk ps ts))/\Below w.heap.size w w':=by
 obtain⟨pa,pc,rfl,-,-,-⟩:=hp.shape fo.len;obtain⟨_,ta,tc,rfl,-⟩:=id htv;have HF:=ab (AW ps ts S w w.heap.size _ _ rfl hp htv hn hm hps hts ps.length 0 rfl (Nat.zero_le _));clear hp htv hps hts;have hN:(ps.length+1)*(ts.length+1)<=65537*65537:=Nat.mul_le_mul (by omega) (by omega);have hX:((ps.length:Int)+1)*((ts.length:Int)+1)=(((ps.length+1)*(ts.length+1):Nat):Int):=by simp
 have hb1:0<=((ps.length:Int)+1)*((ts.length:Int)+1):=by rw[hX]; omega
 have hb2:((ps.length:Int)+1)*((ts.length:Int)+1)<=4295098369:=by rw[hX]; omega
 have hmk:=lf (P:=Tryz.prog) (t:=203) (e:=4) (z:= .bool false) ((ps.length+1)*(ts.length+1)) [.bool false] Tryz.underlying203 (bytes:=1) (sz:=1) (by kernel_rfl) rfl rfl (by omega) (by omega) (by omega);rw[<-hX]at hmk;clear hX hN
 go_enter Tryz.func114,Tryz.ntmps114
 go_wp2_with fail;refine(HF.out 0 0 0 _ (List.replicate ((ps.length+1)*(ts.length+1)) false) rfl rfl (Nat.zero_le _) (lR w _ _ _ _ _ _ _ _ _ _ _ _) ?_).mono ?_
 ·intro i' j' _ _ _ h;rw[List.getElem?_replicate]at h
  split at h<;> simp at h
 ·rintro e w1 ⟨tr',rfl,hst,-,-⟩;go_wp2_with fail;go_ret;exact⟨rfl,hst.below⟩
theorem yp {P T U:Type} (star:P->Bool) (m:P->T->Bool) (f:U->T): ∀(ps:List P) (us:List U),dv star (fun p u=>m p (f u)) ps us=dv star m ps (us.map f)
 | [],us=>by cases us<;> simp[dv]
 | p::ps,us=>by
  have ih:=yp star m f ps;unfold dv
  split
  ·induction us with
   | nil=>simp[fZ,ih]
   | cons u us ih2=>simp only[fZ,List.map_cons,ih,ih2]
  ·cases us with
   | nil=>simp[rN]
   | cons u us=>simp[rN,ih]
theorem yq (cs:List aP) (xs:List ByteArray):dv aP.dbl dk cs xs=gE cs (xs.map bl):=yp aP.dbl uW bl cs xs
theorem dp (cs:List aP) (xs:List ByteArray) (S:Nat->Prop) (w:World) (pv tv:Value) (hp:dt S w pv cs) (htv:cz S w tv xs) (hn:cs.length<=65536) (hm:xs.length<=65536) (hps: ∀c∈cs,c.items.length<=65536) (hts: ∀x∈xs,x.size<=65536):
  Calls Tryz.prog 75 #[pv,tv] w fun e w'=>e= .returned (.bool (gE cs (xs.map bl)))/\Below w.heap.size w w':=by
 have H:=ab (rt cs xs S w pv tv hp htv hn hm hps hts);clear hp htv hps hts
 go_enter Tryz.func75,Tryz.ntmps75
 go_wp2_with fail;refine H.out.mono ?_;rintro e w1 ⟨rfl,hb⟩;go_wp2_with fail;go_ret;exact⟨aw (yq cs xs),hb⟩
theorem jd {l:List UInt8} {cs:List aP} (h:gT l=some cs):cs.length<=16/\(∀c∈cs,c.items.length<=512)/\l.length<=512:=by
 unfold gT at h
 split at h
 ·simp at h
 ·rename_i h1
  split at h
  ·simp at h
  ·rename_i h2;have h3:=ng h;have h5:l.length<=512:=by omega
   refine⟨by omega,kN h (fun p hp=> ?_),h5⟩;have:=fQ 47 l p hp; omega
theorem te {l:List UInt8} (h:bF l=true):l.length<=512/\(aF 47 l).length<=16:=by
 simp only[bF,Bool.and_eq_true,decide_eq_true_eq]at h; exact⟨h.1.1,h.1.2⟩
theorem ui {xs:List ByteArray} {l:List UInt8} (h:bF l=true) (hx:xs.map bl=aF 47 l):xs.length<=16/\ ∀x∈xs,x.size<=512:=by
 have h1:=te h;refine⟨by have:(xs.map bl).length=_:=congrArg _ hx; rw[List.length_map]at this; omega,fun x hm=> ?_⟩;have:=fQ 47 l (bl x) (by rw[<-hx]; exact List.mem_map.2 ⟨x,hm,rfl⟩);rw[aA]; omega
theorem dt.below {S:Nat->Prop} {w w':World} {v:Value} {cs:List aP} (h:dt S w v cs) (hb:Below w.heap.size w w'):dt (fun _=>True) w' v cs:=h.move (fun k hk _=>⟨trivial,hb.block k hk⟩)
def pH (r:aT):Value:= .agg #[.string ⟨r.pat.toArray⟩, .bool r.keep, .bool r.dir, .bool r.rooted]
theorem cF (s p:ByteArray) (b:Bool) (w:World) (h:Lib.hasPrefix (bl s) (bl p)=b):
  Calls Tryz.prog 71 #[.string s, .string p] w fun e w'=>e= .returned (.bool b)/\w=w':=by rw[<-h]; exact oC s p w
theorem fu (s:ByteArray) (c:UInt8) (b:Bool) (w:World) (h:(bl s).contains c=b):
  Calls Tryz.prog 111 #[.string s, .string ⟨#[c]⟩] w fun e w'=>e= .returned (.bool b)/\w=w':=by rw[<-h]; exact kO s c w
theorem dL (p:ByteArray) (k d r:Bool) (w:World) (he:jx w) (hp:p.size<=9223372036854775807):
  Calls Tryz.prog 74 #[.agg #[.string p, .bool k, .bool d, .bool r]] w (tn (aY ⟨bl p,k,d,r⟩) w):=by
 have HE:=ab he;clear he;have hb0:Below w.heap.size w (w.alloc (.cells #[.string p, .bool k, .bool d, .bool r] 141)):=(Below.refl _ _).alloc (Nat.le_refl _) _;have HB0:=ab hb0;clear hb0
 cases h1:Lib.hasPrefix (bl p) [33]
 ·have H1:=ab h1;clear h1
  cases h2:Lib.hasPrefix (bl p) [35]
  ·have H2:=ab h2;clear h2
   cases h3:(bl p).contains 47 && !r
   ·have HC:Hid (aY ⟨bl p,k,d,r⟩=gT (bl p)):=ab (by unfold aY; simp only[H1.out,H2.out,h3,Bool.or_self,Bool.false_eq_true,if_false]);have h3':(bl p).contains 47=true->r=true:=by intro h; rw[h]at h3; simpa using h3
    have H3:=ab h3';clear h3 h3'
    go_enter Tryz.func74,Tryz.ntmps74
    go_wp2_with fail;refine(cF p ⟨#[33]⟩ false _ H1.out).mono ?_;rintro e w' ⟨rfl,rfl⟩;go_wp2_with fail;refine(cF p ⟨#[35]⟩ false _ H2.out).mono ?_;rintro e w' ⟨rfl,rfl⟩;go_wp2_with fail
    cases h4:(bl p).contains 47
    ·have H4:=ab h4;clear h4;refine(fu p 47 false _ H4.out).mono ?_;rintro e w' ⟨rfl,rfl⟩;go_wp2_with fail
     cases hpat:gT (bl p)with
     | none=>
      have HP:=ab hpat
      clear hpat
      refine(dV p _ (HE.out.below HB0.out) hp).mono ?_;rw[HP.out];rintro e w1 ⟨rfl,hb1⟩;have HB1:=ab hb1;clear hb1;go_wp2_with fail
      go_ret2
      rw[HC.out,HP.out];exact⟨rfl,ag HB0.out HB1.out⟩
     | some cs=>
      have HP:=ab hpat
      clear hpat
      refine(dV p _ (HE.out.below HB0.out) hp).mono ?_;rw[HP.out];rintro e w1 ⟨v,rfl,hv1,hb1⟩;have HV1:=ab hv1;have HB1:=ab hb1;clear hb1 hv1;go_wp2_with fail
      go_ret2
      rw[HC.out,HP.out];exact⟨v,rfl,HV1.out.move (fun k _ hk=>⟨by simp at hk; omega,rfl⟩),ag HB0.out HB1.out⟩
    ·have H4:=ab h4;obtain rfl:r=true:=H3.out h4;clear h4;refine(fu p 47 true _ H4.out).mono ?_;rintro e w' ⟨rfl,rfl⟩;go_wp2_with fail
     cases hpat:gT (bl p)with
     | none=>
      have HP:=ab hpat
      clear hpat
      refine(dV p _ (HE.out.below HB0.out) hp).mono ?_;rw[HP.out];rintro e w1 ⟨rfl,hb1⟩;have HB1:=ab hb1;clear hb1;go_wp2_with fail
      go_ret2
      rw[HC.out,HP.out];exact⟨rfl,ag HB0.out HB1.out⟩
     | some cs=>
      have HP:=ab hpat
      clear hpat
      refine(dV p _ (HE.out.below HB0.out) hp).mono ?_;rw[HP.out];rintro e w1 ⟨v,rfl,hv1,hb1⟩;have HV1:=ab hv1;have HB1:=ab hb1;clear hb1 hv1;go_wp2_with fail
      go_ret2
      rw[HC.out,HP.out];exact⟨v,rfl,HV1.out.move (fun k _ hk=>⟨by simp at hk; omega,rfl⟩),ag HB0.out HB1.out⟩
   ·have HC:Hid (aY ⟨bl p,k,d,r⟩=none):=ab (by unfold aY; simp only[H1.out,H2.out,h3,Bool.or_self,Bool.false_eq_true,if_false,if_true]);rw[Bool.and_eq_true]at h3;obtain⟨h4,h5⟩:=h3;obtain rfl:r=false:=by simpa using h5
    have H4:=ab h4;clear h4 h5
    go_enter Tryz.func74,Tryz.ntmps74
    go_wp2_with fail;refine(cF p ⟨#[33]⟩ false _ H1.out).mono ?_;rintro e w' ⟨rfl,rfl⟩;go_wp2_with fail;refine(cF p ⟨#[35]⟩ false _ H2.out).mono ?_;rintro e w' ⟨rfl,rfl⟩;go_wp2_with fail;refine(fu p 47 true _ H4.out).mono ?_;rintro e w' ⟨rfl,rfl⟩;go_wp2_with fail
    go_ret2
    rw[HC.out];exact⟨rfl,HB0.out⟩
  ·have H2:=ab h2;clear h2;have HC:Hid (aY ⟨bl p,k,d,r⟩=none):=ab (by unfold aY; simp only[H1.out,H2.out,Bool.or_true,if_true])
   go_enter Tryz.func74,Tryz.ntmps74
   go_wp2_with fail;refine(cF p ⟨#[33]⟩ false _ H1.out).mono ?_;rintro e w' ⟨rfl,rfl⟩;go_wp2_with fail;refine(cF p ⟨#[35]⟩ true _ H2.out).mono ?_;rintro e w' ⟨rfl,rfl⟩;go_wp2_with fail
   go_ret2
   rw[HC.out];exact⟨rfl,HB0.out⟩
 ·have H1:=ab h1;clear h1;have HC:Hid (aY ⟨bl p,k,d,r⟩=none):=ab (by unfold aY; simp only[H1.out,Bool.true_or,if_true])
  go_enter Tryz.func74,Tryz.ntmps74
  go_wp2_with fail;refine(cF p ⟨#[33]⟩ true _ H1.out).mono ?_;rintro e w' ⟨rfl,rfl⟩;go_wp2_with fail
  go_ret2
  rw[HC.out];exact⟨rfl,HB0.out⟩
theorem kM (r:aT) (w:World) (he:jx w) (hp:r.pat.length<=9223372036854775807):Calls Tryz.prog 74 #[pH r] w (tn (aY r) w):=by
 have:=dL ⟨r.pat.toArray⟩ r.keep r.dir r.rooted w he (by rw[aA,kI]; exact hp);rw[kI]at this;exact this
def jk (r:aT):List Value:=[.string ⟨r.pat.toArray⟩, .bool r.keep, .bool r.dir, .bool r.rooted]
def oP (c:List Value) (r:aT):Prop:=c=jk r
theorem oP.len (c:List Value) (r:aT) (h:oP c r):c.length=4:=by rw[h]; rfl
def bP (S:Nat->Prop) (w:World) (v:Value) (rs:List aT):Prop:=aR S w 4 oP v rs
theorem bP.below {S:Nat->Prop} {w w':World} {v:Value} {rs:List aT} (h:bP S w v rs) (hb:Below w.heap.size w w'):bP S w' v rs:=aR.below h (by omega) hb (fun _ _ _ h=>h)
theorem bP.cells {S:Nat->Prop} {w:World} {v:Value} {rs:List aT} (h:bP S w v rs):
  ∃a cap,v= .slice a rs.length cap/\rs.length<=cap/\cap<=maxLen/\ ∀(k:Nat) r,rs[k]? =some r-> ∃b o,a=some ⟨b,o,none⟩/\w.cell? ⟨b,o+k*4,none⟩=some (.string ⟨r.pat.toArray⟩)/\
   w.cell? ⟨b,o+k*4+1,none⟩=some (.bool r.keep)/\w.cell? ⟨b,o+k*4+2,none⟩=some (.bool r.dir)/\w.cell? ⟨b,o+k*4+3,none⟩=some (.bool r.rooted):=by
 obtain⟨a,cap,hv,h1,h2,h3⟩:=aR.shape h oP.len;refine⟨a,cap,hv,h1,h2,fun k r hk=> ?_⟩;obtain⟨b,o,c,ha,_,hc,_,hj⟩:=h3 k r hk;rw[oP]at hc;subst hc;have j0:=hj 0 (by omega);have j1:=hj 1 (by omega);have j2:=hj 2 (by omega);have j3:=hj 3 (by omega);exact⟨b,o,ha,j0,j1,j2,j3⟩
theorem lG {S:Nat->Prop} {w:World} {a:Option Addr} {cap n:Nat} {xs:List ByteArray} (h:cz S w (.slice a xs.length cap) xs) (hn:n<=xs.length):cz S w (.slice a n cap) (xs.take n):=by
 obtain⟨_,a',cap',hv,h1,h2,h0⟩:=h
 cases hv
 have hl:(xs.take n).length=n:=by simp; omega
 refine⟨by simp,a,cap,by rw[hl],by omega,h2, ?_⟩
 rcases h0 with h0 | ⟨b,o,ha,hb,hc⟩
 ·left; omega
 ·right
  refine⟨b,o,ha,hb,fun j u hj=>hc j u ?_⟩;rw[List.map_take]at hj;rw[List.getElem?_take]at hj
  split at hj
  ·exact hj
  ·simp at hj
theorem lF {S:Nat->Prop} {w:World} {b o cap n:Nat} {xs:List ByteArray} (h:cz S w (.slice (some ⟨b,o,none⟩) xs.length cap) xs) (hn:n<xs.length) (m:Nat) (hm:n+m<=xs.length):
  cz S w (.slice (some ⟨b,o+n,none⟩) m (cap-n)) ((xs.take (n+m)).drop n):=by
 obtain⟨_,a',cap',hv,h1,h2,h0⟩:=h
 cases hv
 have hl:((xs.take (n+m)).drop n).length=m:=by simp; omega
 refine⟨by simp,_,_,by rw[hl],by omega,by omega, ?_⟩
 rcases h0 with h0 | ⟨b',o',ha,hb,hc⟩
 ·omega
 ·cases ha
  right
  refine⟨b,o+n,rfl,hb,fun j u hj=> ?_⟩;have:=hc (n+j) u (by
   rw[List.map_drop,List.map_take,List.getElem?_drop,List.getElem?_take]at hj
   split at hj
   ·exact hj
   ·simp at hj)
  rw[Nat.add_assoc]; exact this
theorem kA {S:Nat->Prop} {w:World} {a:Option Addr} {cap:Nat} {xs:List ByteArray} (h:cz S w (.slice a xs.length cap) xs) (hn:0<xs.length): ∃b o,a=some ⟨b,o,none⟩:=by
 obtain⟨_,a',cap',hv,h1,h2,h0⟩:=h
 cases hv
 rcases h0 with h0 | ⟨b',o',ha,hb,hc⟩
 ·omega
 ·exact⟨b',o',ha⟩
def pZ (S:Nat->Prop) (w:World) (c:List Value) (cs:List aP):Prop:= ∃v,c=[v]/\dt S w v cs
theorem pZ.len {S:Nat->Prop} {w:World} (c:List Value) (cs:List aP) (h:pZ S w c cs):c.length=1:=by obtain⟨v,rfl,_⟩:=h; rfl
theorem pZ.move {S T:Nat->Prop} {w w':World} {c:List Value} {cs:List aP} (h:pZ S w c cs) (hs: ∀k,k<w.heap.size->S k->T k/\w'.heap[k]? =w.heap[k]?):pZ T w' c cs:=by
 obtain⟨v,rfl,hr⟩:=h;exact⟨v,rfl,hr.move hs⟩
structure ev (w : World) (cb n k : Nat) (us : List (List aP)) (wr : World) : Prop where
 box: ∃done,bq (pZ (cb< ·) wr) done us/\wr.heap[cb]? =some (.cells (done++kf [.slice none 0 0] (n-k)).toArray 147 (0,0))
 below:Below cb w wr
 lt:cb<wr.heap.size
 len:us.length=k
theorem ev.grown {w:World} {cb n k:Nat} {us:List (List aP)} {wr w':World} (h:ev w cb n k us wr) (hb:Below wr.heap.size wr w'):ev w cb n k us w':=by
 obtain⟨⟨done,hr,hbx⟩,hbl,hlt,hl⟩:=h;exact⟨⟨done,hr.mono fun c x _ hc=>hc.move fun k hk h2=>⟨h2,hb.block k hk⟩,by rw[hb.block cb hlt]; exact hbx⟩,hbl.trans (hb.mono (by omega)),Nat.lt_of_lt_of_le hlt hb.size,hl⟩
theorem ev.cell {w:World} {cb n k:Nat} {us:List (List aP)} {wr:World} (h:ev w cb n k us wr) (hk:k<n):wr.cell? ⟨cb,k,none⟩=some (.slice none 0 0)/\wr.frozen? ⟨cb,k,none⟩=false:=by
 obtain⟨⟨done,hr,hbx⟩,hbl,hlt,hl⟩:=h;have hdl:=hr.len pZ.len;obtain⟨m,hm⟩: ∃m,n-k=m+1:=⟨n-k-1,by omega⟩;rw[hm,ez]at hbx;refine⟨?_,ak hbx⟩;rw[ah hbx,List.getElem?_toArray,List.getElem?_append_right (by omega),show k-done.length=0 by omega]; rfl
theorem ev.put {w:World} {cb n k:Nat} {us:List (List aP)} {cs:List aP} {wr:World} {v:Value} (h:ev w cb n k us wr) (hk:k<n) (hv:dt (cb< ·) wr v cs):ev w cb n (k+1) (us++[cs]) (wr.setCell ⟨cb,k,none⟩ v):=by
 obtain⟨⟨done,hr,hbx⟩,hbl,hlt,hl⟩:=h;have hdl:=hr.len pZ.len;obtain⟨m,hm⟩: ∃m,n-k=m+1:=⟨n-k-1,by omega⟩;rw[hm,ez]at hbx;refine⟨⟨done++[v], ?_, ?_⟩,hbl.setCell (by simp) _,by simp[World.setCell]; exact hlt,by simp[hl]⟩
 ·refine bq.snoc (hr.mono fun c x _ hc=>hc.move fun j hj h2=>⟨h2,Below.heap_setCell _ _ _ _ (by simp; omega)⟩) ?_;exact⟨_,rfl,hv.move fun j hj h2=>⟨h2,Below.heap_setCell _ _ _ _ (by simp; omega)⟩⟩
 ·simp only[World.setCell,Array.getElem?_modify,if_true,hbx,Option.map_some];rw[show n-(k+1)=m by omega];simp only[List.setIfInBounds_toArray,Option.some.injEq,Obj.cells.injEq,and_true];rw[show k=done.length by omega];simp
theorem ev.get {w:World} {cb n k:Nat} {us:List (List aP)} {wr:World} (h:ev w cb n k us wr) {i:Nat} {cs:List aP} (hi:us[i]? =some cs): ∃v,wr.cell? ⟨cb,i,none⟩=some v/\dt (cb< ·) wr v cs:=by
 obtain⟨⟨done,hr,hbx⟩,hbl,hlt,hl⟩:=h;obtain⟨c,⟨v,rfl,hv⟩,hj⟩:=hr.get pZ.len hi;have h0:=hj 0 (by omega);simp only[Nat.mul_one,Nat.add_zero,List.getElem?_cons_zero]at h0;refine⟨v, ?_,hv⟩;rw[ah hbx,List.getElem?_toArray,List.getElem?_append_left (List.getElem?_eq_some_iff.1 h0).1];exact h0
theorem iy : ∀(rs:List aT) (r:aT),aU (rs++[r])=match aU rs with | none=>none | some us=>match aY r with | none=>none | some cs=>some (us++[(r,cs)])
 | [],r=>by simp only[List.nil_append,aU]; cases aY r<;> simp
 | q::rs,r=>by
  simp only[List.cons_append,aU];rw[iy rs r]
  cases aY q<;> simp
  cases aU rs<;> simp
  cases aY r<;> simp
theorem mq (rs qs:List aT) (h:aU rs=none):aU (rs++qs)=none:=by
 induction rs with
 | nil=>simp[aU]at h
 | cons r rs ih=>
  simp only[List.cons_append,aU]at h ⊢
  cases hp:aY r with
  | none=>rfl
  | some c=>
   rw[hp]at h;simp only at h
   cases hps:aU rs with
   | none=>simp[ih hps]
   | some cs=>rw[hps]at h; simp at h
theorem eG : ∀ {rs:List aT} {us:List (aT×List aP)},aU rs=some us-> ∀u∈us,aY u.1=some u.2
 | [],us,h=>by simp[aU]at h; subst h; simp
 | r::rs,us,h=>by
  unfold aU at h
  split at h
  ·simp at h
  ·rename_i cs e
   split at h
   ·simp at h
   ·rename_i u2 e2;simp at h; subst h;intro u hu
    rcases List.mem_cons.1 hu with rfl | hu
    ·exact e
    ·exact eG e2 u hu
theorem eF : ∀ {rs:List aT} {us:List (aT×List aP)},aU rs=some us->us.map Prod.fst=rs
 | [],us,h=>by simp[aU]at h; subst h; rfl
 | r::rs,us,h=>by
  unfold aU at h
  split at h
  ·simp at h
  ·split at h
   ·simp at h
   ·rename_i u2 e2;simp at h; subst h;simp[eF e2]
theorem ic {r:aT} {cs:List aP} (h:aY r=some cs):gT r.pat=some cs:=by
 unfold aY at h
 split at h
 ·simp at h
 ·split at h
  ·simp at h
  ·exact h
def BS (o:Bool×Int):Value:= .tuple #[.bool o.1, .int .i64 o.2]
theorem nz {dir:Bool} {parts:List (List UInt8)} {n k:Nat} {us:List (aT×List aP)} {u:aT×List aP} (b:Bool) (h:us[k]? =some u):
  eQ dir parts n (us.drop k) b=eQ dir parts n (us.drop (k+1)) (if eJ dir u.1 u.2 parts n then !u.1.keep else b):=by
 obtain⟨hk,rfl⟩:=List.getElem?_eq_some_iff.1 h;rw[List.drop_eq_getElem_cons hk,eQ]
def xM (dir:Bool) (parts:List (List UInt8)) (us:List (aT×List aP)) (m:Nat) (ig:Bool):Prop:=
 (ig=false->cw dir parts us parts.length 1=cw dir parts us (parts.length-m) (m+1))/\(ig=true->cw dir parts us parts.length 1=true)
theorem AX {dir:Bool} {xs:List ByteArray} {us:List (aT×List aP)} {m:Nat} (h:xM dir (xs.map bl) us m true):cw dir (xs.map bl) us xs.length 1=true:=by
 have:=h.2 rfl;rw[List.length_map]at this; exact this
theorem jl (dir:Bool) (r:aT) (cs:List aP) (parts:List (List UInt8)) (n:Nat) (d:Bool) (hd:(dir || decide (n<parts.length))=d):eJ dir r cs parts n=((d || !r.dir) && gE cs (if r.rooted then parts.take n else(parts.take n).drop (n-1))):=by
 unfold eJ; rw[hd]
def iw (dir:Bool) (parts:List (List UInt8)) (us:List (aT×List aP)) (m k:Nat) (b:Bool):Prop:=
 eQ dir parts (m+1) us false=eQ dir parts (m+1) (us.drop k) b
theorem gR {dir:Bool} {parts:List (List UInt8)} {us:List (aT×List aP)} {m k:Nat} {b:Bool} {r:aT} {cs:List aP} (h:iw dir parts us m k b) (hu:us[k]? =some (r,cs)) (hh:eJ dir r cs parts (m+1)=false):iw dir parts us m (k+1) b:=by
 unfold iw at *;rw[h,nz b hu,hh]; rfl
theorem jD {dir:Bool} {parts:List (List UInt8)} {us:List (aT×List aP)} {m k:Nat} {b:Bool} {r:aT} {cs:List aP} (h:iw dir parts us m k b) (hu:us[k]? =some (r,cs)) (hh:eJ dir r cs parts (m+1)=true):iw dir parts us m (k+1) (!r.keep):=by
 unfold iw at *;rw[h,nz b hu,hh]; rfl
theorem rQ (rs:List aT) (S:Nat->Prop) (v:Value) (s:ByteArray) (dir:Bool) (w:World) (he:jx w) (hv:bP S w v rs) (hp: ∀r∈rs,r.pat.length<=9223372036854775807):
  Calls Tryz.prog 40 #[v, .string s, .bool dir] w fun e w'=>e= .returned (BS (dm rs (bl s) dir))/\Below w.heap.size w w':=by
 have HE:=ab he;have HV:=ab hv;have HP:=ab hp;obtain⟨a,cap,rfl,hc,hcm,-⟩:=hv.cells;clear he hv hp;unfold maxLen at hcm
 go_enter Tryz.func40,Tryz.ntmps40
 go_wp2_with fail;refine(mi s w HE.out).mono ?_;rintro e w1 (⟨hval,tv,xs,rfl,hxs,htv,hb1⟩ | ⟨hval,rfl,hb1⟩)
 ·obtain⟨hx1,hx2⟩:=ui hval hxs;obtain⟨ta,tc,rfl,htc1,htc2,-⟩:=htv.shape;have HB1:=ab hb1;have HTV:=ab htv;have HXS:=ab hxs;have HVAL:=ab hval;have HX2:=ab hx2;clear hb1 htv hxs hval hx2;unfold maxLen at htc2
  by_cases h256:rs.length<=256
  ·have hmk:=lf (P:=Tryz.prog) (t:=146) (e:=147) (z:= .slice none 0 0) rs.length [.slice none 0 0] Tryz.underlying146 (bytes:=24) (sz:=1) (by kernel_rfl) rfl rfl (by omega) (by omega) (by omega);go_wp2_with fail;clear hmk
   go_loopw [37] (fun i wr=> ∃(k:Nat) (us:List (aT×List aP)),k<=rs.length/\i= .int .i64 k/\ev w1 w1.heap.size rs.length k (us.map Prod.snd) wr/\aU (rs.take k)=some us) (fun i _=>rs.length-(intOf i).toNat)
   case atStart=>
    refine⟨0,[],Nat.zero_le _,rfl,⟨⟨[],rfl, ?_⟩,(Below.refl _ _).alloc (Nat.le_refl _) _,by simp,rfl⟩,by simp[aU]⟩;have:=heap_alloc_new w1 (.cells (made [.slice none 0 0] rs.length) 147)
    simpa [made]using this
   case round=>
    obtain⟨k,us,hk,rfl,hI,hcomp⟩:=hrel;have HI:=ab hI;have HC:=ab hcomp;clear hI hcomp;have hBW:Below w1.heap.size w1 wr:=HI.out.below;have HBW:=ab hBW;clear hBW
    by_cases hlt:k<rs.length
    ·obtain⟨r,hr⟩: ∃r,rs[k]? =some r:=⟨rs[k],by simp[hlt]⟩;obtain⟨_,_,hv',_,_,hcells⟩:=(bP.below HV.out (ag HB1.out HBW.out)).cells
     cases hv'
     obtain⟨b,o,rfl,c0,c1,c2,c3⟩:=hcells k r hr;have hrp:=HP.out r (List.mem_of_getElem? hr);have HR:=ab hr;clear hr hcells;have hwb:Below wr.heap.size wr (wr.alloc (.cells #[.string ⟨r.pat.toArray⟩, .bool r.keep, .bool r.dir, .bool r.rooted] 141)):=(Below.refl _ _).alloc (Nat.le_refl _) _;have HWB:=ab hwb;clear hwb;have hsn:aU (rs.take (k+1))=match aY r with | none=>none | some cs=>some (us++[(r,cs)]):=by
      have e1:rs.take (k+1)=rs.take k++[r]:=by rw[List.take_add_one]; simp[HR.out]
      rw[e1,iy,HC.out]; try rfl
     have HSN:=ab hsn;clear hsn;go_wp2_with fail;have hE2:jx (wr.alloc (.cells #[.string ⟨r.pat.toArray⟩, .bool r.keep, .bool r.dir, .bool r.rooted] 141)):=HE.out.below (ag (ag HB1.out HBW.out) HWB.out)
     cases hcs:aY r with
     | none=>
      have HCS:=ab hcs;clear hcs;refine(kM r _ hE2 hrp).mono ?_;rw[HCS.out];rintro e w3 ⟨rfl,hb3⟩;have hb3':Below wr.heap.size wr w3:=ag HWB.out hb3;have HB3:=ab hb3';clear hb3 hb3' hE2;obtain⟨d0,d1⟩:=(HI.out.grown HB3.out).cell hlt;go_wp2_with fail
      go_ret2
      refine⟨?_,ag HB1.out ((HBW.out.trans (HB3.out.mono HBW.out.size)).setCell (by simp) _)⟩;have hnone:aU rs=none:=by
       rw[<-List.take_append_drop (k+1) rs];exact mq _ _ (by rw[HSN.out,HCS.out])
      rw[dm,if_neg (by rw[HVAL.out]; simp; omega),hnone]; rfl
     | some cs=>
      have HCS:=ab hcs;clear hcs;refine(kM r _ hE2 hrp).mono ?_;rw[HCS.out];rintro e w3 ⟨pv,rfl,hv3,hb3⟩;have hb3':Below wr.heap.size wr w3:=ag HWB.out hb3;have HB3:=ab hb3';have HI3:=ab (HI.out.grown hb3');have hcblt:=HI.out.lt;have HV3:=ab (dt.move (T:=(w1.heap.size< ·)) (w':=w3) hv3 (fun j hj h2=>⟨by simp at h2; omega,rfl⟩));obtain⟨av,cv,rfl,hnv,hmv,-⟩:=hv3.shape fo.len
      clear hb3 hb3' hE2 hv3;obtain⟨d0,d1⟩:=HI3.out.cell hlt;go_wp2_with fail
      go_roundw
      case rel=>
       refine⟨k+1,us++[(r,cs)],by omega,by go_num, ?_,by rw[HSN.out,HCS.out]⟩;have:=HI3.out.put hlt HV3.out
       simpa using this
      case measure=>simp[intOf]; omega
    ·obtain rfl:k=rs.length:=by omega
     have hcomp:aU rs=some us:=by rw[<-HC.out,List.take_length]
     have HCA:=ab hcomp;clear hcomp;have hul:us.length=rs.length:=by have:=HI.out.len; rw[List.length_map]at this; exact this
     have hparts:0<xs.length:=by
      have:=ky 47 (bl s); rw[<-HXS.out,List.length_map]at this; omega
     have hfin:dm rs (bl s) dir=(cw dir (xs.map bl) us xs.length 1,0):=by
      rw[dm,if_neg (by rw[HVAL.out]; simp; omega),HCA.out,<-HXS.out,List.length_map]
     have HFIN:=ab hfin;clear hfin;have HUL:=ab hul;clear hul;go_wp2_with fail
     go_loopw [14,15] (fun g n wr2=> ∃(m:Nat) (ig:Bool),m<=xs.length/\g= .bool ig/\n= .int .i64 ((m:Int)+1)/\ev w1 w1.heap.size rs.length rs.length (us.map Prod.snd) wr2/\
       xM dir (xs.map bl) us m ig) (fun _ n _=>xs.length+1-(intOf n).toNat)
     case atStart=>exact⟨0,false,Nat.zero_le _,rfl,rfl,HI.out,fun _=>rfl,fun h=>by cases h⟩
     case round=>
      clear HI HBW;obtain⟨m,ig,hm,rfl,rfl,hI2,hf⟩:=hrel;have HI:=ab hI2;have HF:=ab hf;clear hI2 hf
      cases ig
      ·by_cases hlt:m<xs.length
       ·have e1:decide ((m:Int)+1<=(xs.length:Int))=true:=by simp; omega
        have hstep:cw dir (xs.map bl) us (xs.length-m) (m+1)=if eQ dir (xs.map bl) (m+1) us false then true else cw dir (xs.map bl) us (xs.length-(m+1)) (m+1+1):=by
         rw[show xs.length-m=(xs.length-(m+1))+1 by omega,cw]
        have HSTEP:=ab hstep;clear hstep
        cases dir
        ·by_cases hml:m+1<xs.length
         ·have hml2:decide ((m:Int)+1<(xs.length:Int))=true:=by simp; omega
          have HD:=ab (show(false || decide (m+1<(xs.map bl).length))=true by simp[hml]);go_wp2_with fail
          go_loopw [14,72] (fun g i wr3=> ∃(k:Nat) (b:Bool),k<=rs.length/\g= .bool b/\i= .int .i64 k/\ev w1 w1.heap.size rs.length rs.length (us.map Prod.snd) wr3/\iw false (xs.map bl) us m k b) (fun _ i _=>rs.length-(intOf i).toNat)
          case atStart=>exact⟨0,false,Nat.zero_le _,rfl,rfl,HI.out,rfl⟩
          case round=>
           clear HI;obtain⟨k,b,hk,rfl,rfl,hI2,hin⟩:=hrel;have HI:=ab hI2;have HIN:=ab hin;clear hI2 hin
           by_cases hkl:k<rs.length
           ·obtain⟨r,hr⟩: ∃r,rs[k]? =some r:=⟨rs[k],by simp[hkl]⟩;obtain⟨cs,hu⟩: ∃cs,us[k]? =some (r,cs):=by
             have h1:=eF HCA.out;have hk2:k<us.length:=by rw[HUL.out]; exact hkl
             have h2:(us.map Prod.fst)[k]? =some r:=by rw[h1]; exact hr
             rw[List.getElem?_map,List.getElem?_eq_getElem hk2]at h2;refine⟨us[k].2, ?_⟩;rw[List.getElem?_eq_getElem hk2];simp only[Option.map_some,Option.some.injEq]at h2;rw[<-h2]
            obtain⟨hc1,hc2,-⟩:=jd (ic (eG HCA.out _ (List.mem_of_getElem? hu)));obtain⟨pv,hpc,hpv⟩:=HI.out.get (i:=k) (cs:=cs) (by rw[List.getElem?_map,hu]; rfl);obtain⟨pa,pcap,rfl,-,-,-⟩:=hpv.shape fo.len;have hbig:Below w.heap.size w wr:=ag HB1.out HI.out.below;obtain⟨_,_,hv',_,_,hcells⟩:=(bP.below HV.out hbig).cells
            cases hv'
            obtain⟨b0,o0,rfl,c0,c1,c2,c3⟩:=hcells k r hr;have hst:cz (fun _=>True) wr (.slice ta xs.length tc) xs:=aN.weak (aN.below HTV.out (by omega) HI.out.below) (fun _ _=>trivial);obtain⟨tb,tof,rfl⟩:=kA hst hparts;have HST:=ab hst;have HU:=ab hu;have HC2:=ab hc2;have HPV:=ab hpv;have HH:=ab (jl false r cs (xs.map bl) (m+1) true HD.out)
            obtain⟨rp,rk,rd,rr⟩:=r;simp only at c0 c1 c2 c3;clear hr hu hc2 hcells hbig hpv hst;have hwb:Below wr.heap.size wr (wr.alloc (.cells #[.string ⟨rp.toArray⟩, .bool rk, .bool rd, .bool rr] 141)):=(Below.refl _ _).alloc (Nat.le_refl _) _;have HWB:=ab hwb;have hpc2:=hwb.cell (aG hpc);rw[hpc]at hpc2;have HST2:=ab (show cz (fun _=>True) (wr.alloc (.cells #[.string ⟨rp.toArray⟩, .bool rk, .bool rd, .bool rr] 141)) _ xs from aN.below HST.out (by omega) hwb)
            clear hwb;have k4: ∀w4:World,Below (wr.alloc (.cells #[.string ⟨rp.toArray⟩, .bool rk, .bool rd, .bool rr] 141)).heap.size (wr.alloc (.cells #[.string ⟨rp.toArray⟩, .bool rk, .bool rd, .bool rr] 141)) w4->w4.cell? ⟨wr.heap.size,1,none⟩=some (.bool rk):=fun w4 hb4=>(hb4.cell (p:=⟨wr.heap.size,1,none⟩) (by simp)).trans (by simp)
            have K4:=ab k4;clear k4
            cases rr
            ·cases hmb:gE cs (((xs.take (m+1)).drop m).map bl)
             all_goals (
              have HMB:=ab hmb;clear hmb
              cases rd
              all_goals (
               go_wp2_with (go_at_call 75; refine(dp cs ((xs.take (m+1)).drop m) (fun _=>True) _ _ _ (HPV.out.below HWB.out) (lF HST2.out hlt 1 (by omega)) (by omega) (by simp; omega) (fun c hc=>by have:=HC2.out c hc; omega) (fun x hx=>by have:=HX2.out x (List.mem_of_mem_take (List.mem_of_mem_drop hx)); omega)).mono ?_; rintro e w4 ⟨rfl,hb4⟩; rw[HMB.out]; have c4:=K4.out _ hb4; have HB4:=ab hb4; clear hb4)
               go_roundw
               case rel=>exact⟨k+1,_,by omega,rfl,by go_num,HI.out.grown (by first | exact ag HWB.out HB4.out | exact HWB.out),by first | exact gR HIN.out HU.out (HH.out.trans (by simp[<-List.map_take,<-List.map_drop,HMB.out])) | exact jD HIN.out HU.out (HH.out.trans (by simp[<-List.map_take,<-List.map_drop,HMB.out]))⟩
               case measure=>simp[intOf]; omega))
            ·cases hmb:gE cs ((xs.take (m+1)).map bl)
             all_goals (
              have HMB:=ab hmb;clear hmb
              cases rd
              all_goals (
               go_wp2_with (go_at_call 75; refine(dp cs (xs.take (m+1)) (fun _=>True) _ _ _ (HPV.out.below HWB.out) (lG HST2.out (by omega)) (by omega) (by simp; omega) (fun c hc=>by have:=HC2.out c hc; omega) (fun x hx=>by have:=HX2.out x (List.mem_of_mem_take hx); omega)).mono ?_; rintro e w4 ⟨rfl,hb4⟩; rw[HMB.out]; have c4:=K4.out _ hb4; have HB4:=ab hb4; clear hb4)
               go_roundw
               case rel=>exact⟨k+1,_,by omega,rfl,by go_num,HI.out.grown (by first | exact ag HWB.out HB4.out | exact HWB.out),by first | exact gR HIN.out HU.out (HH.out.trans (by simp[<-List.map_take,HMB.out])) | exact jD HIN.out HU.out (HH.out.trans (by simp[<-List.map_take,HMB.out]))⟩
               case measure=>simp[intOf]; omega))
           ·obtain rfl:k=rs.length:=by omega
            have hat:eQ false (xs.map bl) (m+1) us false=b:=by
             have:=HIN.out;unfold iw at this;rw[this,<-HUL.out,List.drop_length]; rfl
            have HAT:=ab hat
            clear hat
            go_wp2_with fail
            go_roundw
            case rel=>
             refine⟨m+1,b,by omega,rfl,by go_num,HI.out,fun hb=> ?_,fun hb=> ?_⟩
             ·have:=HF.out.1 rfl;rw[this,List.length_map,HSTEP.out,HAT.out,hb]; rfl
             ·have:=HF.out.1 rfl;rw[this,List.length_map,HSTEP.out,HAT.out,hb]; rfl
            case measure=>simp[intOf]; omega
         ·have hml2:decide ((m:Int)+1<(xs.length:Int))=false:=by simp; omega
          have HD:=ab (show(false || decide (m+1<(xs.map bl).length))=false by simp[hml]);go_wp2_with fail
          go_loopw [14,72] (fun g i wr3=> ∃(k:Nat) (b:Bool),k<=rs.length/\g= .bool b/\i= .int .i64 k/\ev w1 w1.heap.size rs.length rs.length (us.map Prod.snd) wr3/\iw false (xs.map bl) us m k b) (fun _ i _=>rs.length-(intOf i).toNat)
          case atStart=>exact⟨0,false,Nat.zero_le _,rfl,rfl,HI.out,rfl⟩
          case round=>
           clear HI;obtain⟨k,b,hk,rfl,rfl,hI2,hin⟩:=hrel;have HI:=ab hI2;have HIN:=ab hin;clear hI2 hin
           by_cases hkl:k<rs.length
           ·obtain⟨r,hr⟩: ∃r,rs[k]? =some r:=⟨rs[k],by simp[hkl]⟩;obtain⟨cs,hu⟩: ∃cs,us[k]? =some (r,cs):=by
             have h1:=eF HCA.out;have hk2:k<us.length:=by rw[HUL.out]; exact hkl
             have h2:(us.map Prod.fst)[k]? =some r:=by rw[h1]; exact hr
             rw[List.getElem?_map,List.getElem?_eq_getElem hk2]at h2;refine⟨us[k].2, ?_⟩;rw[List.getElem?_eq_getElem hk2];simp only[Option.map_some,Option.some.injEq]at h2;rw[<-h2]
            obtain⟨hc1,hc2,-⟩:=jd (ic (eG HCA.out _ (List.mem_of_getElem? hu)));obtain⟨pv,hpc,hpv⟩:=HI.out.get (i:=k) (cs:=cs) (by rw[List.getElem?_map,hu]; rfl);obtain⟨pa,pcap,rfl,-,-,-⟩:=hpv.shape fo.len;have hbig:Below w.heap.size w wr:=ag HB1.out HI.out.below;obtain⟨_,_,hv',_,_,hcells⟩:=(bP.below HV.out hbig).cells
            cases hv'
            obtain⟨b0,o0,rfl,c0,c1,c2,c3⟩:=hcells k r hr;have hst:cz (fun _=>True) wr (.slice ta xs.length tc) xs:=aN.weak (aN.below HTV.out (by omega) HI.out.below) (fun _ _=>trivial);obtain⟨tb,tof,rfl⟩:=kA hst hparts;have HST:=ab hst;have HU:=ab hu;have HC2:=ab hc2;have HPV:=ab hpv;have HH:=ab (jl false r cs (xs.map bl) (m+1) false HD.out)
            obtain⟨rp,rk,rd,rr⟩:=r;simp only at c0 c1 c2 c3;clear hr hu hc2 hcells hbig hpv hst;have hwb:Below wr.heap.size wr (wr.alloc (.cells #[.string ⟨rp.toArray⟩, .bool rk, .bool rd, .bool rr] 141)):=(Below.refl _ _).alloc (Nat.le_refl _) _;have HWB:=ab hwb;have hpc2:=hwb.cell (aG hpc);rw[hpc]at hpc2;have HST2:=ab (show cz (fun _=>True) (wr.alloc (.cells #[.string ⟨rp.toArray⟩, .bool rk, .bool rd, .bool rr] 141)) _ xs from aN.below HST.out (by omega) hwb)
            clear hwb;have k4: ∀w4:World,Below (wr.alloc (.cells #[.string ⟨rp.toArray⟩, .bool rk, .bool rd, .bool rr] 141)).heap.size (wr.alloc (.cells #[.string ⟨rp.toArray⟩, .bool rk, .bool rd, .bool rr] 141)) w4->w4.cell? ⟨wr.heap.size,1,none⟩=some (.bool rk):=fun w4 hb4=>(hb4.cell (p:=⟨wr.heap.size,1,none⟩) (by simp)).trans (by simp)
            have K4:=ab k4;clear k4
            cases rr
            ·cases hmb:gE cs (((xs.take (m+1)).drop m).map bl)
             all_goals (
              have HMB:=ab hmb;clear hmb
              cases rd
              all_goals (
               go_wp2_with (go_at_call 75; refine(dp cs ((xs.take (m+1)).drop m) (fun _=>True) _ _ _ (HPV.out.below HWB.out) (lF HST2.out hlt 1 (by omega)) (by omega) (by simp; omega) (fun c hc=>by have:=HC2.out c hc; omega) (fun x hx=>by have:=HX2.out x (List.mem_of_mem_take (List.mem_of_mem_drop hx)); omega)).mono ?_; rintro e w4 ⟨rfl,hb4⟩; rw[HMB.out]; have c4:=K4.out _ hb4; have HB4:=ab hb4; clear hb4)
               go_roundw
               case rel=>exact⟨k+1,_,by omega,rfl,by go_num,HI.out.grown (by first | exact ag HWB.out HB4.out | exact HWB.out),by first | exact gR HIN.out HU.out (HH.out.trans (by simp[<-List.map_take,<-List.map_drop,HMB.out])) | exact jD HIN.out HU.out (HH.out.trans (by simp[<-List.map_take,<-List.map_drop,HMB.out]))⟩
               case measure=>simp[intOf]; omega))
            ·cases hmb:gE cs ((xs.take (m+1)).map bl)
             all_goals (
              have HMB:=ab hmb;clear hmb
              cases rd
              all_goals (
               go_wp2_with (go_at_call 75; refine(dp cs (xs.take (m+1)) (fun _=>True) _ _ _ (HPV.out.below HWB.out) (lG HST2.out (by omega)) (by omega) (by simp; omega) (fun c hc=>by have:=HC2.out c hc; omega) (fun x hx=>by have:=HX2.out x (List.mem_of_mem_take hx); omega)).mono ?_; rintro e w4 ⟨rfl,hb4⟩; rw[HMB.out]; have c4:=K4.out _ hb4; have HB4:=ab hb4; clear hb4)
               go_roundw
               case rel=>exact⟨k+1,_,by omega,rfl,by go_num,HI.out.grown (by first | exact ag HWB.out HB4.out | exact HWB.out),by first | exact gR HIN.out HU.out (HH.out.trans (by simp[<-List.map_take,HMB.out])) | exact jD HIN.out HU.out (HH.out.trans (by simp[<-List.map_take,HMB.out]))⟩
               case measure=>simp[intOf]; omega))
           ·obtain rfl:k=rs.length:=by omega
            have hat:eQ false (xs.map bl) (m+1) us false=b:=by
             have:=HIN.out;unfold iw at this;rw[this,<-HUL.out,List.drop_length]; rfl
            have HAT:=ab hat
            clear hat
            go_wp2_with fail
            go_roundw
            case rel=>
             refine⟨m+1,b,by omega,rfl,by go_num,HI.out,fun hb=> ?_,fun hb=> ?_⟩
             ·have:=HF.out.1 rfl;rw[this,List.length_map,HSTEP.out,HAT.out,hb]; rfl
             ·have:=HF.out.1 rfl;rw[this,List.length_map,HSTEP.out,HAT.out,hb]; rfl
            case measure=>simp[intOf]; omega
        ·have HD:=ab (show(true || decide (m+1<(xs.map bl).length))=true by simp);go_wp2_with fail
         go_loopw [14,72] (fun g i wr3=> ∃(k:Nat) (b:Bool),k<=rs.length/\g= .bool b/\i= .int .i64 k/\ev w1 w1.heap.size rs.length rs.length (us.map Prod.snd) wr3/\iw true (xs.map bl) us m k b) (fun _ i _=>rs.length-(intOf i).toNat)
         case atStart=>exact⟨0,false,Nat.zero_le _,rfl,rfl,HI.out,rfl⟩
         case round=>
          clear HI;obtain⟨k,b,hk,rfl,rfl,hI2,hin⟩:=hrel;have HI:=ab hI2;have HIN:=ab hin;clear hI2 hin
          by_cases hkl:k<rs.length
          ·obtain⟨r,hr⟩: ∃r,rs[k]? =some r:=⟨rs[k],by simp[hkl]⟩;obtain⟨cs,hu⟩: ∃cs,us[k]? =some (r,cs):=by
            have h1:=eF HCA.out;have hk2:k<us.length:=by rw[HUL.out]; exact hkl
            have h2:(us.map Prod.fst)[k]? =some r:=by rw[h1]; exact hr
            rw[List.getElem?_map,List.getElem?_eq_getElem hk2]at h2;refine⟨us[k].2, ?_⟩;rw[List.getElem?_eq_getElem hk2];simp only[Option.map_some,Option.some.injEq]at h2;rw[<-h2]
           obtain⟨hc1,hc2,-⟩:=jd (ic (eG HCA.out _ (List.mem_of_getElem? hu)));obtain⟨pv,hpc,hpv⟩:=HI.out.get (i:=k) (cs:=cs) (by rw[List.getElem?_map,hu]; rfl);obtain⟨pa,pcap,rfl,-,-,-⟩:=hpv.shape fo.len;have hbig:Below w.heap.size w wr:=ag HB1.out HI.out.below;obtain⟨_,_,hv',_,_,hcells⟩:=(bP.below HV.out hbig).cells
           cases hv'
           obtain⟨b0,o0,rfl,c0,c1,c2,c3⟩:=hcells k r hr;have hst:cz (fun _=>True) wr (.slice ta xs.length tc) xs:=aN.weak (aN.below HTV.out (by omega) HI.out.below) (fun _ _=>trivial);obtain⟨tb,tof,rfl⟩:=kA hst hparts;have HST:=ab hst;have HU:=ab hu;have HC2:=ab hc2;have HPV:=ab hpv;have HH:=ab (jl true r cs (xs.map bl) (m+1) true HD.out)
           obtain⟨rp,rk,rd,rr⟩:=r;simp only at c0 c1 c2 c3;clear hr hu hc2 hcells hbig hpv hst;have hwb:Below wr.heap.size wr (wr.alloc (.cells #[.string ⟨rp.toArray⟩, .bool rk, .bool rd, .bool rr] 141)):=(Below.refl _ _).alloc (Nat.le_refl _) _;have HWB:=ab hwb;have hpc2:=hwb.cell (aG hpc);rw[hpc]at hpc2;have HST2:=ab (show cz (fun _=>True) (wr.alloc (.cells #[.string ⟨rp.toArray⟩, .bool rk, .bool rd, .bool rr] 141)) _ xs from aN.below HST.out (by omega) hwb)
           clear hwb;have k4: ∀w4:World,Below (wr.alloc (.cells #[.string ⟨rp.toArray⟩, .bool rk, .bool rd, .bool rr] 141)).heap.size (wr.alloc (.cells #[.string ⟨rp.toArray⟩, .bool rk, .bool rd, .bool rr] 141)) w4->w4.cell? ⟨wr.heap.size,1,none⟩=some (.bool rk):=fun w4 hb4=>(hb4.cell (p:=⟨wr.heap.size,1,none⟩) (by simp)).trans (by simp)
           have K4:=ab k4;clear k4
           cases rr
           ·cases hmb:gE cs (((xs.take (m+1)).drop m).map bl)
            all_goals (
             have HMB:=ab hmb;clear hmb
             cases rd
             all_goals (
              go_wp2_with (go_at_call 75; refine(dp cs ((xs.take (m+1)).drop m) (fun _=>True) _ _ _ (HPV.out.below HWB.out) (lF HST2.out hlt 1 (by omega)) (by omega) (by simp; omega) (fun c hc=>by have:=HC2.out c hc; omega) (fun x hx=>by have:=HX2.out x (List.mem_of_mem_take (List.mem_of_mem_drop hx)); omega)).mono ?_; rintro e w4 ⟨rfl,hb4⟩; rw[HMB.out]; have c4:=K4.out _ hb4; have HB4:=ab hb4; clear hb4)
              go_roundw
              case rel=>exact⟨k+1,_,by omega,rfl,by go_num,HI.out.grown (by first | exact ag HWB.out HB4.out | exact HWB.out),by first | exact gR HIN.out HU.out (HH.out.trans (by simp[<-List.map_take,<-List.map_drop,HMB.out])) | exact jD HIN.out HU.out (HH.out.trans (by simp[<-List.map_take,<-List.map_drop,HMB.out]))⟩
              case measure=>simp[intOf]; omega))
           ·cases hmb:gE cs ((xs.take (m+1)).map bl)
            all_goals (
             have HMB:=ab hmb;clear hmb
             cases rd
             all_goals (
              go_wp2_with (go_at_call 75; refine(dp cs (xs.take (m+1)) (fun _=>True) _ _ _ (HPV.out.below HWB.out) (lG HST2.out (by omega)) (by omega) (by simp; omega) (fun c hc=>by have:=HC2.out c hc; omega) (fun x hx=>by have:=HX2.out x (List.mem_of_mem_take hx); omega)).mono ?_; rintro e w4 ⟨rfl,hb4⟩; rw[HMB.out]; have c4:=K4.out _ hb4; have HB4:=ab hb4; clear hb4)
              go_roundw
              case rel=>exact⟨k+1,_,by omega,rfl,by go_num,HI.out.grown (by first | exact ag HWB.out HB4.out | exact HWB.out),by first | exact gR HIN.out HU.out (HH.out.trans (by simp[<-List.map_take,HMB.out])) | exact jD HIN.out HU.out (HH.out.trans (by simp[<-List.map_take,HMB.out]))⟩
              case measure=>simp[intOf]; omega))
          ·obtain rfl:k=rs.length:=by omega
           have hat:eQ true (xs.map bl) (m+1) us false=b:=by
            have:=HIN.out;unfold iw at this;rw[this,<-HUL.out,List.drop_length]; rfl
           have HAT:=ab hat
           clear hat
           go_wp2_with fail
           go_roundw
           case rel=>
            refine⟨m+1,b,by omega,rfl,by go_num,HI.out,fun hb=> ?_,fun hb=> ?_⟩
            ·have:=HF.out.1 rfl;rw[this,List.length_map,HSTEP.out,HAT.out,hb]; rfl
            ·have:=HF.out.1 rfl;rw[this,List.length_map,HSTEP.out,HAT.out,hb]; rfl
           case measure=>simp[intOf]; omega
       ·have e1:decide ((m:Int)+1<=(xs.length:Int))=false:=by simp; omega
        go_wp2_with fail
        go_ret2
        refine⟨?_,ag HB1.out HI.out.below⟩;have:=HF.out.1 rfl;rw[List.length_map,show xs.length-m=0 by omega]at this;rw[HFIN.out,this]; rfl
      ·by_cases hlt:m<xs.length
       ·have e1:decide ((m:Int)+1<=(xs.length:Int))=true:=by simp; omega
        go_wp2_with fail
        go_ret2
        exact⟨by rw[HFIN.out,AX HF.out]; rfl,ag HB1.out HI.out.below⟩
       ·have e1:decide ((m:Int)+1<=(xs.length:Int))=false:=by simp; omega
        go_wp2_with fail
        go_ret2
        exact⟨by rw[HFIN.out,AX HF.out]; rfl,ag HB1.out HI.out.below⟩
  ·have h256':256<rs.length:=by omega
   go_wp2_with fail
   go_ret2
   exact⟨by rw[dm,if_pos (.inr h256')]; rfl,HB1.out⟩
 ·have HB1:=ab hb1;have HVAL:=ab hval;clear hb1 hval;go_wp2_with fail
  go_ret2
  exact⟨by rw[dm,if_pos (.inl HVAL.out)]; rfl,HB1.out⟩
def th :Value:= .agg #[.string ⟨#[]⟩, .bool false, .bool false, .bool false]
def fb (o:Option aT):Value:=match o with
 | some r=> .tuple #[pH r, .bool true]
 | none=> .tuple #[th, .bool false]
def BN (s p:ByteArray) (w:World) (e:Ending) (w':World):Prop:= ∃s1 b,e= .returned (.tuple #[.string s1, .bool b])/\bl s1=Lib.trimPrefix (bl s) (bl p)/\b=Lib.hasPrefix (bl s) (bl p)/\w=w'
def BO (s p:ByteArray) (w:World) (e:Ending) (w':World):Prop:= ∃s1 b,e= .returned (.tuple #[.string s1, .bool b])/\bl s1=Lib.trimSuffix (bl s) (bl p)/\b=Lib.hasSuffix (bl s) (bl p)/\w=w'
theorem kP (s p:ByteArray) (w:World):Calls Tryz.prog 109 #[.string s, .string p] w (BN s p w):=
 (oA s p w).mono fun _ _ ⟨he,hw⟩=>⟨_,_,he,kI _,rfl,hw⟩
theorem qm (s p:ByteArray) (w:World) (hs:s.size<=9223372036854775807):Calls Tryz.prog 110 #[.string s, .string p] w (BO s p w):=
 (oB s p w hs).mono fun _ _ ⟨he,hw⟩=>⟨_,_,he,kI _,rfl,hw⟩
theorem jr (l p:List UInt8):(Lib.trimPrefix l p).length<=l.length:=by
 unfold Lib.trimPrefix; split<;> simp
theorem oo (l p:List UInt8):(Lib.trimSuffix l p).length<=l.length:=by
 unfold Lib.trimSuffix; split<;> simp<;> omega
theorem jZ (s:ByteArray) (w:World) (he:jx w) (hs:s.size<=65536):
  Calls Tryz.prog 72 #[.string s] w fun e w'=>e= .returned (fb (bX (bl s)))/\Below w.heap.size w w':=by
 have HE:=ab he;clear he
 go_enter Tryz.func72,Tryz.ntmps72
 go_wp2_with fail;refine(kP s ⟨#[33]⟩ _).mono ?_;rintro e w' ⟨s1,b1,rfl,h1,h1',rfl⟩;have H1:=ab h1;have H1':=ab h1';have hl1:s1.size<=65536:=by have:=jr (bl s) (bl ⟨#[33]⟩); rw[<-h1,<-aA,<-aA]at this; omega
 clear h1 h1';go_wp2_with fail;refine(kP s1 ⟨#[47]⟩ _).mono ?_;rintro e w' ⟨s2,b2,rfl,h2,h2',rfl⟩;have H2:=ab h2;have H2':=ab h2';have hl2:s2.size<=65536:=by have:=jr (bl s1) (bl ⟨#[47]⟩); rw[<-h2,<-aA,<-aA]at this; omega
 clear h2 h2';go_wp2_with fail;refine(qm s2 ⟨#[47]⟩ _ (by omega)).mono ?_;rintro e w' ⟨s3,b3,rfl,h3,h3',rfl⟩;have H3:=ab h3;have H3':=ab h3';have hl3:s3.size<=65536:=by have:=oo (bl s2) (bl ⟨#[47]⟩); rw[<-h3,<-aA,<-aA]at this; omega
 clear h3 h3';have hru:pG (bl s)=⟨bl s3,b1,b3,b2 || (bl s3).contains 47⟩:=by
  rw[H3.out,H1'.out,H3'.out,H2'.out,H2.out,H1.out]; rfl
 cases b2
 ·rw[Bool.false_or]at hru
  cases hct:(bl s3).contains 47
  ·have HCT:=ab hct;rw[hct]at hru;have HRU:=ab hru;clear hct hru;go_wp2_with fail;refine(fu s3 47 false _ HCT.out).mono ?_;rintro e w' ⟨rfl,rfl⟩;go_wp2_with fail;have hcp:aY (pG (bl s))=aY ⟨bl s3,b1,b3,false⟩:=by rw[HRU.out]
   have HCP:=ab hcp;clear hcp;have hb0:Below w.heap.size w ((w.alloc (.cells #[.string ⟨#[]⟩, .bool false, .bool false, .bool false] 141)).alloc (.cells #[.string s3, .bool b1, .bool b3, .bool false] 141)):=((Below.refl _ _).alloc (Nat.le_refl _) _).alloc (by simp) _;have HB0:=ab hb0;clear hb0
   cases hcs:aY ⟨bl s3,b1,b3,false⟩with
   | none=>
    have HCS:=ab hcs;clear hcs;refine(dL s3 b1 b3 false _ (HE.out.below HB0.out) (by omega)).mono ?_;rw[HCS.out];rintro e w3 ⟨rfl,hb3⟩;have hres:w3.heap[w.heap.size]? =some (.cells #[.string ⟨#[]⟩, .bool false, .bool false, .bool false] 141 (0,0)):=by
     rw[hb3.block _ (by simp; omega),Below.heap_alloc _ _ _ (by simp)]; exact heap_alloc_new w _
    have hb3':=ag HB0.out hb3;have HB3:=ab hb3';clear hb3 hb3';have r0:w3.cell? ⟨w.heap.size,0,none⟩=some (.string ⟨#[]⟩):=by rw[ah hres]; rfl
    have r1:w3.cell? ⟨w.heap.size,1,none⟩=some (.bool false):=by rw[ah hres]; rfl
    have r2:w3.cell? ⟨w.heap.size,2,none⟩=some (.bool false):=by rw[ah hres]; rfl
    have r3:w3.cell? ⟨w.heap.size,3,none⟩=some (.bool false):=by rw[ah hres]; rfl
    have f0:w3.frozen? ⟨w.heap.size,0,none⟩=false:=ak hres;have f1:w3.frozen? ⟨w.heap.size,1,none⟩=false:=ak hres;have f2:w3.frozen? ⟨w.heap.size,2,none⟩=false:=ak hres;have f3:w3.frozen? ⟨w.heap.size,3,none⟩=false:=ak hres;have HR:=ab hres;clear hres;go_wp2_with fail;obtain⟨W,hW⟩: ∃W,W=((((w3.setCell ⟨w.heap.size,0,none⟩ (.string ⟨#[]⟩)).setCell ⟨w.heap.size,1,none⟩ (.bool false)).setCell ⟨w.heap.size,2,none⟩ (.bool false)).setCell ⟨w.heap.size,3,none⟩ (.bool false)):=⟨_,rfl⟩
    rw[<-hW];have h4:=jo HR.out (.string ⟨#[]⟩) (.bool false) (.bool false) (.bool false);rw[<-hW]at h4;obtain⟨h41,h42⟩:=h4;have m0:W.cell? ⟨w.heap.size,0,none⟩=some (.string ⟨#[]⟩):=by rw[ah h41]; rfl
    have m1:W.cell? ⟨w.heap.size,1,none⟩=some (.bool false):=by rw[ah h41]; rfl
    have m2:W.cell? ⟨w.heap.size,2,none⟩=some (.bool false):=by rw[ah h41]; rfl
    have m3:W.cell? ⟨w.heap.size,3,none⟩=some (.bool false):=by rw[ah h41]; rfl
    clear hW;refine bodyPost_ret (v:= .tuple #[.agg #[.string ⟨#[]⟩, .bool false, .bool false, .bool false], .bool false]) (by simp[results,Tryz.results72,go_sem,m0,m1,m2,m3]) rfl ?_;refine⟨?_,HB3.out.grown h42 HB3.out.size (fun k hk=>by cases hk; exact Nat.le_refl _)⟩;rw[bX,HCP.out,HCS.out]; rfl
   | some cs=>
    have HCS:=ab hcs;clear hcs;refine(dL s3 b1 b3 false _ (HE.out.below HB0.out) (by omega)).mono ?_;rw[HCS.out];rintro e w3 ⟨pv,rfl,hpv,hb3⟩;clear hpv;have hres:w3.heap[w.heap.size]? =some (.cells #[.string ⟨#[]⟩, .bool false, .bool false, .bool false] 141 (0,0)):=by
     rw[hb3.block _ (by simp; omega),Below.heap_alloc _ _ _ (by simp)]; exact heap_alloc_new w _
    have hbox:w3.heap[w.heap.size+1]? =some (.cells #[.string s3, .bool b1, .bool b3, .bool false] 141 (0,0)):=by
     rw[hb3.block _ (by simp)];have:=heap_alloc_new (w.alloc (.cells #[.string ⟨#[]⟩, .bool false, .bool false, .bool false] 141)) (.cells #[.string s3, .bool b1, .bool b3, .bool false] 141)
     simpa using this
    have n0:w3.cell? ⟨w.heap.size+1,0,none⟩=some (.string s3):=by rw[ah hbox]; rfl
    have n1:w3.cell? ⟨w.heap.size+1,1,none⟩=some (.bool b1):=by rw[ah hbox]; rfl
    have n2:w3.cell? ⟨w.heap.size+1,2,none⟩=some (.bool b3):=by rw[ah hbox]; rfl
    have n3:w3.cell? ⟨w.heap.size+1,3,none⟩=some (.bool false):=by rw[ah hbox]; rfl
    clear hbox;have hb3':=ag HB0.out hb3;have HB3:=ab hb3';clear hb3 hb3';have r0:w3.cell? ⟨w.heap.size,0,none⟩=some (.string ⟨#[]⟩):=by rw[ah hres]; rfl
    have r1:w3.cell? ⟨w.heap.size,1,none⟩=some (.bool false):=by rw[ah hres]; rfl
    have r2:w3.cell? ⟨w.heap.size,2,none⟩=some (.bool false):=by rw[ah hres]; rfl
    have r3:w3.cell? ⟨w.heap.size,3,none⟩=some (.bool false):=by rw[ah hres]; rfl
    have f0:w3.frozen? ⟨w.heap.size,0,none⟩=false:=ak hres;have f1:w3.frozen? ⟨w.heap.size,1,none⟩=false:=ak hres;have f2:w3.frozen? ⟨w.heap.size,2,none⟩=false:=ak hres;have f3:w3.frozen? ⟨w.heap.size,3,none⟩=false:=ak hres;have HR:=ab hres;clear hres;go_wp2_with fail;obtain⟨W,hW⟩: ∃W,W=((((w3.setCell ⟨w.heap.size,0,none⟩ (.string s3)).setCell ⟨w.heap.size,1,none⟩ (.bool b1)).setCell ⟨w.heap.size,2,none⟩ (.bool b3)).setCell ⟨w.heap.size,3,none⟩ (.bool false)):=⟨_,rfl⟩
    rw[<-hW];have h4:=jo HR.out (.string s3) (.bool b1) (.bool b3) (.bool false);rw[<-hW]at h4;obtain⟨h41,h42⟩:=h4;have m0:W.cell? ⟨w.heap.size,0,none⟩=some (.string s3):=by rw[ah h41]; rfl
    have m1:W.cell? ⟨w.heap.size,1,none⟩=some (.bool b1):=by rw[ah h41]; rfl
    have m2:W.cell? ⟨w.heap.size,2,none⟩=some (.bool b3):=by rw[ah h41]; rfl
    have m3:W.cell? ⟨w.heap.size,3,none⟩=some (.bool false):=by rw[ah h41]; rfl
    clear hW;refine bodyPost_ret (v:= .tuple #[.agg #[.string s3, .bool b1, .bool b3, .bool false], .bool true]) (by simp[results,Tryz.results72,go_sem,m0,m1,m2,m3]) rfl ?_;refine⟨?_,HB3.out.grown h42 HB3.out.size (fun k hk=>by cases hk; exact Nat.le_refl _)⟩;rw[bX,HCP.out,HCS.out];simp only[Option.isSome_some,if_true,HRU.out,fb,pH,nE]
  ·have HCT:=ab hct;rw[hct]at hru;have HRU:=ab hru;clear hct hru;go_wp2_with fail;refine(fu s3 47 true _ HCT.out).mono ?_;rintro e w' ⟨rfl,rfl⟩;go_wp2_with fail;have hcp:aY (pG (bl s))=aY ⟨bl s3,b1,b3,true⟩:=by rw[HRU.out]
   have HCP:=ab hcp;clear hcp;have hb0:Below w.heap.size w ((w.alloc (.cells #[.string ⟨#[]⟩, .bool false, .bool false, .bool false] 141)).alloc (.cells #[.string s3, .bool b1, .bool b3, .bool true] 141)):=((Below.refl _ _).alloc (Nat.le_refl _) _).alloc (by simp) _;have HB0:=ab hb0;clear hb0
   cases hcs:aY ⟨bl s3,b1,b3,true⟩with
   | none=>
    have HCS:=ab hcs;clear hcs;refine(dL s3 b1 b3 true _ (HE.out.below HB0.out) (by omega)).mono ?_;rw[HCS.out];rintro e w3 ⟨rfl,hb3⟩;have hres:w3.heap[w.heap.size]? =some (.cells #[.string ⟨#[]⟩, .bool false, .bool false, .bool false] 141 (0,0)):=by
     rw[hb3.block _ (by simp; omega),Below.heap_alloc _ _ _ (by simp)]; exact heap_alloc_new w _
    have hb3':=ag HB0.out hb3;have HB3:=ab hb3';clear hb3 hb3';have r0:w3.cell? ⟨w.heap.size,0,none⟩=some (.string ⟨#[]⟩):=by rw[ah hres]; rfl
    have r1:w3.cell? ⟨w.heap.size,1,none⟩=some (.bool false):=by rw[ah hres]; rfl
    have r2:w3.cell? ⟨w.heap.size,2,none⟩=some (.bool false):=by rw[ah hres]; rfl
    have r3:w3.cell? ⟨w.heap.size,3,none⟩=some (.bool false):=by rw[ah hres]; rfl
    have f0:w3.frozen? ⟨w.heap.size,0,none⟩=false:=ak hres;have f1:w3.frozen? ⟨w.heap.size,1,none⟩=false:=ak hres;have f2:w3.frozen? ⟨w.heap.size,2,none⟩=false:=ak hres;have f3:w3.frozen? ⟨w.heap.size,3,none⟩=false:=ak hres;have HR:=ab hres;clear hres;go_wp2_with fail;obtain⟨W,hW⟩: ∃W,W=((((w3.setCell ⟨w.heap.size,0,none⟩ (.string ⟨#[]⟩)).setCell ⟨w.heap.size,1,none⟩ (.bool false)).setCell ⟨w.heap.size,2,none⟩ (.bool false)).setCell ⟨w.heap.size,3,none⟩ (.bool false)):=⟨_,rfl⟩
    rw[<-hW];have h4:=jo HR.out (.string ⟨#[]⟩) (.bool false) (.bool false) (.bool false);rw[<-hW]at h4;obtain⟨h41,h42⟩:=h4;have m0:W.cell? ⟨w.heap.size,0,none⟩=some (.string ⟨#[]⟩):=by rw[ah h41]; rfl
    have m1:W.cell? ⟨w.heap.size,1,none⟩=some (.bool false):=by rw[ah h41]; rfl
    have m2:W.cell? ⟨w.heap.size,2,none⟩=some (.bool false):=by rw[ah h41]; rfl
    have m3:W.cell? ⟨w.heap.size,3,none⟩=some (.bool false):=by rw[ah h41]; rfl
    clear hW;refine bodyPost_ret (v:= .tuple #[.agg #[.string ⟨#[]⟩, .bool false, .bool false, .bool false], .bool false]) (by simp[results,Tryz.results72,go_sem,m0,m1,m2,m3]) rfl ?_;refine⟨?_,HB3.out.grown h42 HB3.out.size (fun k hk=>by cases hk; exact Nat.le_refl _)⟩;rw[bX,HCP.out,HCS.out]; rfl
   | some cs=>
    have HCS:=ab hcs;clear hcs;refine(dL s3 b1 b3 true _ (HE.out.below HB0.out) (by omega)).mono ?_;rw[HCS.out];rintro e w3 ⟨pv,rfl,hpv,hb3⟩;clear hpv;have hres:w3.heap[w.heap.size]? =some (.cells #[.string ⟨#[]⟩, .bool false, .bool false, .bool false] 141 (0,0)):=by
     rw[hb3.block _ (by simp; omega),Below.heap_alloc _ _ _ (by simp)]; exact heap_alloc_new w _
    have hbox:w3.heap[w.heap.size+1]? =some (.cells #[.string s3, .bool b1, .bool b3, .bool true] 141 (0,0)):=by
     rw[hb3.block _ (by simp)];have:=heap_alloc_new (w.alloc (.cells #[.string ⟨#[]⟩, .bool false, .bool false, .bool false] 141)) (.cells #[.string s3, .bool b1, .bool b3, .bool true] 141)
     simpa using this
    have n0:w3.cell? ⟨w.heap.size+1,0,none⟩=some (.string s3):=by rw[ah hbox]; rfl
    have n1:w3.cell? ⟨w.heap.size+1,1,none⟩=some (.bool b1):=by rw[ah hbox]; rfl
    have n2:w3.cell? ⟨w.heap.size+1,2,none⟩=some (.bool b3):=by rw[ah hbox]; rfl
    have n3:w3.cell? ⟨w.heap.size+1,3,none⟩=some (.bool true):=by rw[ah hbox]; rfl
    clear hbox;have hb3':=ag HB0.out hb3;have HB3:=ab hb3';clear hb3 hb3';have r0:w3.cell? ⟨w.heap.size,0,none⟩=some (.string ⟨#[]⟩):=by rw[ah hres]; rfl
    have r1:w3.cell? ⟨w.heap.size,1,none⟩=some (.bool false):=by rw[ah hres]; rfl
    have r2:w3.cell? ⟨w.heap.size,2,none⟩=some (.bool false):=by rw[ah hres]; rfl
    have r3:w3.cell? ⟨w.heap.size,3,none⟩=some (.bool false):=by rw[ah hres]; rfl
    have f0:w3.frozen? ⟨w.heap.size,0,none⟩=false:=ak hres;have f1:w3.frozen? ⟨w.heap.size,1,none⟩=false:=ak hres;have f2:w3.frozen? ⟨w.heap.size,2,none⟩=false:=ak hres;have f3:w3.frozen? ⟨w.heap.size,3,none⟩=false:=ak hres;have HR:=ab hres;clear hres;go_wp2_with fail;obtain⟨W,hW⟩: ∃W,W=((((w3.setCell ⟨w.heap.size,0,none⟩ (.string s3)).setCell ⟨w.heap.size,1,none⟩ (.bool b1)).setCell ⟨w.heap.size,2,none⟩ (.bool b3)).setCell ⟨w.heap.size,3,none⟩ (.bool true)):=⟨_,rfl⟩
    rw[<-hW];have h4:=jo HR.out (.string s3) (.bool b1) (.bool b3) (.bool true);rw[<-hW]at h4;obtain⟨h41,h42⟩:=h4;have m0:W.cell? ⟨w.heap.size,0,none⟩=some (.string s3):=by rw[ah h41]; rfl
    have m1:W.cell? ⟨w.heap.size,1,none⟩=some (.bool b1):=by rw[ah h41]; rfl
    have m2:W.cell? ⟨w.heap.size,2,none⟩=some (.bool b3):=by rw[ah h41]; rfl
    have m3:W.cell? ⟨w.heap.size,3,none⟩=some (.bool true):=by rw[ah h41]; rfl
    clear hW;refine bodyPost_ret (v:= .tuple #[.agg #[.string s3, .bool b1, .bool b3, .bool true], .bool true]) (by simp[results,Tryz.results72,go_sem,m0,m1,m2,m3]) rfl ?_;refine⟨?_,HB3.out.grown h42 HB3.out.size (fun k hk=>by cases hk; exact Nat.le_refl _)⟩;rw[bX,HCP.out,HCS.out];simp only[Option.isSome_some,if_true,HRU.out,fb,pH,nE]
 ·rw[Bool.true_or]at hru;have HRU:=ab hru;clear hru;go_wp2_with fail;have hcp:aY (pG (bl s))=aY ⟨bl s3,b1,b3,true⟩:=by rw[HRU.out]
  have HCP:=ab hcp;clear hcp;have hb0:Below w.heap.size w ((w.alloc (.cells #[.string ⟨#[]⟩, .bool false, .bool false, .bool false] 141)).alloc (.cells #[.string s3, .bool b1, .bool b3, .bool true] 141)):=((Below.refl _ _).alloc (Nat.le_refl _) _).alloc (by simp) _;have HB0:=ab hb0;clear hb0
  cases hcs:aY ⟨bl s3,b1,b3,true⟩with
  | none=>
   have HCS:=ab hcs;clear hcs;refine(dL s3 b1 b3 true _ (HE.out.below HB0.out) (by omega)).mono ?_;rw[HCS.out];rintro e w3 ⟨rfl,hb3⟩;have hres:w3.heap[w.heap.size]? =some (.cells #[.string ⟨#[]⟩, .bool false, .bool false, .bool false] 141 (0,0)):=by
    rw[hb3.block _ (by simp; omega),Below.heap_alloc _ _ _ (by simp)]; exact heap_alloc_new w _
   have hb3':=ag HB0.out hb3;have HB3:=ab hb3';clear hb3 hb3';have r0:w3.cell? ⟨w.heap.size,0,none⟩=some (.string ⟨#[]⟩):=by rw[ah hres]; rfl
   have r1:w3.cell? ⟨w.heap.size,1,none⟩=some (.bool false):=by rw[ah hres]; rfl
   have r2:w3.cell? ⟨w.heap.size,2,none⟩=some (.bool false):=by rw[ah hres]; rfl
   have r3:w3.cell? ⟨w.heap.size,3,none⟩=some (.bool false):=by rw[ah hres]; rfl
   have f0:w3.frozen? ⟨w.heap.size,0,none⟩=false:=ak hres;have f1:w3.frozen? ⟨w.heap.size,1,none⟩=false:=ak hres;have f2:w3.frozen? ⟨w.heap.size,2,none⟩=false:=ak hres;have f3:w3.frozen? ⟨w.heap.size,3,none⟩=false:=ak hres;have HR:=ab hres;clear hres;go_wp2_with fail;obtain⟨W,hW⟩: ∃W,W=((((w3.setCell ⟨w.heap.size,0,none⟩ (.string ⟨#[]⟩)).setCell ⟨w.heap.size,1,none⟩ (.bool false)).setCell ⟨w.heap.size,2,none⟩ (.bool false)).setCell ⟨w.heap.size,3,none⟩ (.bool false)):=⟨_,rfl⟩
   rw[<-hW];have h4:=jo HR.out (.string ⟨#[]⟩) (.bool false) (.bool false) (.bool false);rw[<-hW]at h4;obtain⟨h41,h42⟩:=h4;have m0:W.cell? ⟨w.heap.size,0,none⟩=some (.string ⟨#[]⟩):=by rw[ah h41]; rfl
   have m1:W.cell? ⟨w.heap.size,1,none⟩=some (.bool false):=by rw[ah h41]; rfl
   have m2:W.cell? ⟨w.heap.size,2,none⟩=some (.bool false):=by rw[ah h41]; rfl
   have m3:W.cell? ⟨w.heap.size,3,none⟩=some (.bool false):=by rw[ah h41]; rfl
   clear hW;refine bodyPost_ret (v:= .tuple #[.agg #[.string ⟨#[]⟩, .bool false, .bool false, .bool false], .bool false]) (by simp[results,Tryz.results72,go_sem,m0,m1,m2,m3]) rfl ?_;refine⟨?_,HB3.out.grown h42 HB3.out.size (fun k hk=>by cases hk; exact Nat.le_refl _)⟩;rw[bX,HCP.out,HCS.out]; rfl
  | some cs=>
   have HCS:=ab hcs;clear hcs;refine(dL s3 b1 b3 true _ (HE.out.below HB0.out) (by omega)).mono ?_;rw[HCS.out];rintro e w3 ⟨pv,rfl,hpv,hb3⟩;clear hpv;have hres:w3.heap[w.heap.size]? =some (.cells #[.string ⟨#[]⟩, .bool false, .bool false, .bool false] 141 (0,0)):=by
    rw[hb3.block _ (by simp; omega),Below.heap_alloc _ _ _ (by simp)]; exact heap_alloc_new w _
   have hbox:w3.heap[w.heap.size+1]? =some (.cells #[.string s3, .bool b1, .bool b3, .bool true] 141 (0,0)):=by
    rw[hb3.block _ (by simp)];have:=heap_alloc_new (w.alloc (.cells #[.string ⟨#[]⟩, .bool false, .bool false, .bool false] 141)) (.cells #[.string s3, .bool b1, .bool b3, .bool true] 141)
    simpa using this
   have n0:w3.cell? ⟨w.heap.size+1,0,none⟩=some (.string s3):=by rw[ah hbox]; rfl
   have n1:w3.cell? ⟨w.heap.size+1,1,none⟩=some (.bool b1):=by rw[ah hbox]; rfl
   have n2:w3.cell? ⟨w.heap.size+1,2,none⟩=some (.bool b3):=by rw[ah hbox]; rfl
   have n3:w3.cell? ⟨w.heap.size+1,3,none⟩=some (.bool true):=by rw[ah hbox]; rfl
   clear hbox;have hb3':=ag HB0.out hb3;have HB3:=ab hb3';clear hb3 hb3';have r0:w3.cell? ⟨w.heap.size,0,none⟩=some (.string ⟨#[]⟩):=by rw[ah hres]; rfl
   have r1:w3.cell? ⟨w.heap.size,1,none⟩=some (.bool false):=by rw[ah hres]; rfl
   have r2:w3.cell? ⟨w.heap.size,2,none⟩=some (.bool false):=by rw[ah hres]; rfl
   have r3:w3.cell? ⟨w.heap.size,3,none⟩=some (.bool false):=by rw[ah hres]; rfl
   have f0:w3.frozen? ⟨w.heap.size,0,none⟩=false:=ak hres;have f1:w3.frozen? ⟨w.heap.size,1,none⟩=false:=ak hres;have f2:w3.frozen? ⟨w.heap.size,2,none⟩=false:=ak hres;have f3:w3.frozen? ⟨w.heap.size,3,none⟩=false:=ak hres;have HR:=ab hres;clear hres;go_wp2_with fail;obtain⟨W,hW⟩: ∃W,W=((((w3.setCell ⟨w.heap.size,0,none⟩ (.string s3)).setCell ⟨w.heap.size,1,none⟩ (.bool b1)).setCell ⟨w.heap.size,2,none⟩ (.bool b3)).setCell ⟨w.heap.size,3,none⟩ (.bool true)):=⟨_,rfl⟩
   rw[<-hW];have h4:=jo HR.out (.string s3) (.bool b1) (.bool b3) (.bool true);rw[<-hW]at h4;obtain⟨h41,h42⟩:=h4;have m0:W.cell? ⟨w.heap.size,0,none⟩=some (.string s3):=by rw[ah h41]; rfl
   have m1:W.cell? ⟨w.heap.size,1,none⟩=some (.bool b1):=by rw[ah h41]; rfl
   have m2:W.cell? ⟨w.heap.size,2,none⟩=some (.bool b3):=by rw[ah h41]; rfl
   have m3:W.cell? ⟨w.heap.size,3,none⟩=some (.bool true):=by rw[ah h41]; rfl
   clear hW;refine bodyPost_ret (v:= .tuple #[.agg #[.string s3, .bool b1, .bool b3, .bool true], .bool true]) (by simp[results,Tryz.results72,go_sem,m0,m1,m2,m3]) rfl ?_;refine⟨?_,HB3.out.grown h42 HB3.out.size (fun k hk=>by cases hk; exact Nat.le_refl _)⟩;rw[bX,HCP.out,HCS.out];simp only[Option.isSome_some,if_true,HRU.out,fb,pH,nE]
theorem nW : ∀rs:List aT,bq oP (rs.flatMap jk) rs
 | []=>rfl
 | r::rs=>⟨jk r,rs.flatMap jk,by rw[List.flatMap_cons],rfl,nW rs⟩
theorem Tryz.appRules :cI Tryz.prog 86 141 4 24:=cI.mk' (z:= .agg #[.string ByteArray.empty, .bool false, .bool false, .bool false]) Tryz.underlying86 (by kernel_rfl) rfl (by decide) (by decide)
theorem oL {w:World} {base:Nat} {v:Value} {rs:List aT} (h:w.ownsRow base 141 4 v rs.length (rs.flatMap jk)):bP (base<= ·) w v rs:=
 ⟨rs.flatMap jk,(bm h).weak (fun _ hk=>hk.1),nW rs⟩
theorem so {w w':World} {base:Nat} {e:TypeId} {sz:Nat} {v:Value} {n:Nat} {xs:List Value} (h:w.ownsRow base e sz v n xs) (hb:Below w.heap.size w w'):w'.ownsRow base e sz v n xs:=
 h.kept (grownBy.of_below (r:=none) hb) (by cases v.ownBlock<;> simp)
theorem tw (w:World) (o:Obj):(w.alloc o).heap.size=w.heap.size+1:=by simp
def xO (o:List aT×Int×Int) (w:World) (e:Ending) (w':World):Prop:=
 ∃v,e= .returned (.tuple #[v, .int .i64 o.2.1, .int .i64 o.2.2])/\bP (w.heap.size<= ·) w' v o.1/\Below w.heap.size w w'
theorem lC {S:Nat->Prop} {w:World} :bP S w (.slice none 0 0) []:=aR.nil
theorem nJ {ls:List (List UInt8)} {k:Nat} {acc:List aT} {l:List UInt8} (h:ls[k]? =some l) (hl:l=[]\/Lib.hasPrefix l [35]=true):cS (ls.drop k) k acc=cS (ls.drop (k+1)) (k+1) acc:=by
 obtain⟨hk,rfl⟩:=List.getElem?_eq_some_iff.1 h;rw[List.drop_eq_getElem_cons hk,cS,if_pos hl]
theorem pA {ls:List (List UInt8)} {k:Nat} {acc:List aT} {l:List UInt8} (h:ls[k]? =some l) (h1:l≠[]) (h2:Lib.hasPrefix l [35]=false) (hp:bX l=none):cS (ls.drop k) k acc=([],(k:Int)+1,3):=by
 obtain⟨hk,rfl⟩:=List.getElem?_eq_some_iff.1 h;rw[List.drop_eq_getElem_cons hk,cS,if_neg (by rw[h2]; simp[h1]),hp]
theorem nI {ls:List (List UInt8)} {k:Nat} {acc:List aT} {l:List UInt8} {r:aT} (h:ls[k]? =some l) (h1:l≠[]) (h2:Lib.hasPrefix l [35]=false) (hp:bX l=some r) (ha:acc.length=256):cS (ls.drop k) k acc=([],(k:Int)+1,2):=by
 obtain⟨hk,rfl⟩:=List.getElem?_eq_some_iff.1 h;rw[List.drop_eq_getElem_cons hk,cS,if_neg (by rw[h2]; simp[h1]),hp];simp[ha]
theorem wA {ls:List (List UInt8)} {k:Nat} {acc:List aT} {l:List UInt8} {r:aT} (h:ls[k]? =some l) (h1:l≠[]) (h2:Lib.hasPrefix l [35]=false) (hp:bX l=some r) (ha: ¬acc.length=256):cS (ls.drop k) k acc=cS (ls.drop (k+1)) (k+1) (acc++[r]):=by
 obtain⟨hk,rfl⟩:=List.getElem?_eq_some_iff.1 h;rw[List.drop_eq_getElem_cons hk,cS,if_neg (by rw[h2]; simp[h1]),hp];simp[ha]
theorem wB (s:ByteArray) (w:World) (he:jx w):Calls Tryz.prog 37 #[.string s] w (xO (cl (bl s)) w):=by
 have HE:=ab he;clear he
 by_cases h6:s.size<=65536
 ·have hpe:cl (bl s)=cS (aF 10 (bl s)) 0 []:=by unfold cl; rw[if_neg (by rw[<-aA]; omega)]
  have HPE:=ab hpe;clear hpe
  go_enter Tryz.func37,Tryz.ntmps37
  go_wp2_with fail;refine(lE s 10 w HE.out (by omega)).mono ?_;rintro e w' ⟨xs,hx,rfl,rfl⟩;have hxl:xs.length<=65537:=by
   have h1:(aF 10 (bl s)).length=xs.length:=by rw[<-hx]; simp
   have h2:=dI 10 (bl s);rw[<-aA]at h2;omega
  have HX:=ab hx;clear hx;go_wp2_with fail
  go_loopw [5,16] (fun v i wr=> ∃(k:Nat) (rs:List aT),k<=xs.length/\rs.length<=256/\i= .int .i64 k/\wr.ownsRow (w.heap.size+1) 141 4 v rs.length (rs.flatMap jk)/\
    Below (w.heap.size+1) (w.alloc (.cells (xs.map Value.string).toArray 9)) wr/\cS (aF 10 (bl s)) 0 []=cS ((xs.map bl).drop k) k rs) (fun _ i _=>xs.length-(intOf i).toNat)
  case atStart=>exact⟨0,[],Nat.zero_le _,Nat.zero_le _,rfl,World.ownsRow_nil _ _ _ _,Below.refl _ _,by rw[HX.out]; rfl⟩
  case round=>
   obtain⟨k,rs,hk,hrs,rfl,hown,hb,hc⟩:=hrel;have HC:=ab hc;have HB:=ab hb;have HO:=ab hown;have hsz:w.heap.size+1<=wr.heap.size:=by have:=hb.size; simpa using this
   have hbw:Below w.heap.size w wr:=ag ((Below.refl _ _).alloc (Nat.le_refl _) _) (by simpa using hb);have HBW:=ab hbw;obtain⟨av,cv,rfl,hnv,hmv⟩:=au hown;clear hbw
   by_cases hlt:k<xs.length
   ·obtain⟨x,hx⟩: ∃x,xs[k]? =some x:=⟨xs[k],by simp[hlt]⟩;have hcell:wr.cell? ⟨w.heap.size,k,none⟩=some (.string x):=(hb.cell (p:=⟨w.heap.size,k,none⟩) (by simp)).trans (lc (qu hx));have hxs:x.size<=65536:=by have:=jI HX.out hx; omega
    have HK:=ab hx;clear hx hb hc hown;have HP:=ab (show(xs.map bl)[k]? =some (bl x) by simp[HK.out])
    by_cases h0:bl x=[]
    ·have e0:x.toList.isEmpty=true:=by rw[aV,h0]; rfl
     have H0:=ab h0;clear h0;go_wp2_with fail
     go_roundw
     case rel=>exact⟨k+1,rs,by omega,hrs,by go_num,HO.out,HB.out,by rw[HC.out]; exact nJ HP.out (.inl H0.out)⟩
     case measure=>simp[intOf]; omega
    ·have e0:x.toList.isEmpty=false:=by rw[aV]; simpa using h0
     have H0:=ab h0;clear h0
     cases hh:Lib.hasPrefix (bl x) [35]
     ·have HH:=ab hh;clear hh;go_wp2_with fail;refine(cF x ⟨#[35]⟩ false _ HH.out).mono ?_;rintro e w' ⟨rfl,rfl⟩;go_wp2_with fail
      cases hpl:bX (bl x)with
      | none=>
       have HPL:=ab hpl;clear hpl;refine(jZ x wr (HE.out.below HBW.out) hxs).mono ?_;rw[HPL.out];rintro e w2 ⟨rfl,hb2⟩;have HB2:=ab hb2;clear hb2;simp only[fb,th];go_wp2_with fail
       go_ret3
       refine⟨.slice none 0 0, ?_, ?_,ag (ag HBW.out HB2.out) ((Below.refl _ _).alloc (Nat.le_refl _) _)⟩
       ·rw[HPE.out,HC.out,pA HP.out H0.out HH.out HPL.out]; rfl
       ·rw[HPE.out,HC.out,pA HP.out H0.out HH.out HPL.out]; exact lC
      | some r=>
       have HPL:=ab hpl;clear hpl;refine(jZ x wr (HE.out.below HBW.out) hxs).mono ?_;rw[HPL.out];rintro e w2 ⟨rfl,hb2⟩;have HB2:=ab hb2;have hsz2:=hb2.size;clear hb2;obtain⟨rp,rk,rd,rr⟩:=r;simp only[fb,pH]
       by_cases hfull:rs.length=256
       ·have ef:((rs.length:Int) == 256)=true:=by rw[hfull]; rfl
        have HF:=ab hfull;clear hfull;go_wp2_with fail
        go_ret3
        refine⟨.slice none 0 0, ?_, ?_,ag (ag HBW.out HB2.out) ((Below.refl _ _).alloc (Nat.le_refl _) _)⟩
        ·rw[HPE.out,HC.out,nI HP.out H0.out HH.out HPL.out HF.out]; rfl
        ·rw[HPE.out,HC.out,nI HP.out H0.out HH.out HPL.out HF.out]; exact lC
       ·have ef:((rs.length:Int) == 256)=false:=by rw[beq_eq_false_iff_ne]; omega
        have HF:=ab hfull;have hlt2:rs.length<256:=by omega
        clear hfull;have HO2:=ab (show World.ownsRow (w2.alloc (.cells #[.string ⟨rp.toArray⟩, .bool rk, .bool rd, .bool rr] 141)) (w.heap.size+1) 141 4 (.slice av rs.length cv) rs.length (rs.flatMap jk)from(so HO.out HB2.out).alloc _);go_wp2_with (at_builtin; go_must (refine fC Tryz.appRules rfl _ _ rfl (w.heap.size+1) (.slice av rs.length cv) rs.length (rs.flatMap jk) rfl (w2.alloc (.cells #[.string ⟨rp.toArray⟩, .bool rk, .bool rd, .bool rr] 141)) (jk ⟨rp,rk,rd,rr⟩) _ (by rw[tw]; rfl) rfl (by simp[jk]; exact⟨rfl,rfl,rfl,rfl⟩) HO2.out (by omega) (by simp; omega) ?_); intro v' w3 hown1 hgrow1 _)
        have HO1:=ab hown1;have HG1:=ab hgrow1;clear hown1 hgrow1;go_wp2_with fail
        go_roundw
        case rel=>
         refine⟨k+1,rs++[⟨rp,rk,rd,rr⟩],by omega,by simp; omega,by go_num, ?_, ?_,by rw[HC.out]; exact wA HP.out H0.out HH.out HPL.out HF.out⟩
         ·have:=HO1.out; simpa using this
         ·exact aS (((HB.out.trans (HB2.out.mono hsz)).alloc (by omega) _)) HO2.out HG1.out (Nat.le_refl _) (by simp; omega)
        case measure=>simp[intOf]; omega
     ·have HH:=ab hh;clear hh;go_wp2_with fail;refine(cF x ⟨#[35]⟩ true _ HH.out).mono ?_;rintro e w' ⟨rfl,rfl⟩;go_wp2_with fail
      go_roundw
      case rel=>exact⟨k+1,rs,by omega,hrs,by go_num,HO.out,HB.out,by rw[HC.out]; exact nJ HP.out (.inr HH.out)⟩
      case measure=>simp[intOf]; omega
   ·clear hb hc hown;go_wp2_with fail
    go_ret3
    have hfin:cl (bl s)=(rs,0,0):=by
     rw[HPE.out,HC.out,List.drop_eq_nil_of_le (by simp; omega)]; rfl
    refine⟨.slice av rs.length cv,by rw[hfin]; rfl, ?_,HBW.out⟩;rw[hfin];exact aR.mono (oL HO.out) (by omega) (fun k _ hk=>by omega) (fun _ _ _ h=>h)
 ·have hpe:cl (bl s)=([],0,2):=by unfold cl; rw[if_pos (by rw[<-aA]; omega)]
  have HPE:=ab hpe;clear hpe
  go_enter Tryz.func37,Tryz.ntmps37
  go_wp2_with fail
  go_ret3
  exact⟨.slice none 0 0,by rw[HPE.out]; rfl,by rw[HPE.out]; exact lC,Below.refl _ _⟩
open Go Go.RowKit Go.Maps
section
variable {w : World} {b : Nat} {a0 a1 a2 a3 a4 a5 x0 x1 x2 x3 x4 x5 : Value}
theorem BJ (h:w.heap[b]? =some (.cells #[a0,a1,a2,a3,a4,a5] 54 (0,0))):
  ((((((w.setCell ⟨b,0,none⟩ x0).setCell ⟨b,1,none⟩ x1).setCell ⟨b,2,none⟩ x2).setCell ⟨b,3,none⟩ x3).setCell ⟨b,4,none⟩ x4).setCell ⟨b,5,none⟩ x5).heap[b]? =some (.cells #[x0,x1,x2,x3,x4,x5] 54 (0,0)):=by
 have h0:=oc (k:=0) h x0;have h1:=oc (k:=1) h0 x1;have h2:=oc (k:=2) h1 x2;have h3:=oc (k:=3) h2 x3;have h4:=oc (k:=4) h3 x4;have h5:=oc (k:=5) h4 x5
 simpa using h5
theorem AC {a:Act} {e7:Value} (h:w.heap[b]? =some (.cells #[x0,x1,x2,x3,x4,x5] 54 (0,0)))
  (h10:a.tmps[10]? =some (.pointer (some ⟨b,0,none⟩))) (h11:a.tmps[11]? =some e7):(results Tryz.f20 a.tmps).run Tryz.prog w= .ok (.tuple #[.agg #[x0,x1,x2,x3,x4,x5],e7]) w:=by
 have m0:=ai (k:=0) h;have m1:=ai (k:=1) h;have m2:=ai (k:=2) h;have m3:=ai (k:=3) h;have m4:=ai (k:=4) h;have m5:=ai (k:=5) h;simp only[gx]at m0 m1 m2 m3 m4 m5;simp[results,Tryz.results20,go_sem,h10,h11,m0,m1,m2,m3,m4,m5]
theorem jK {a:Act} {e7:Value} {Q:Ending->World->Prop} (h:w.heap[b]? =some (.cells #[a0,a1,a2,a3,a4,a5] 54 (0,0)))
  (h10:a.tmps[10]? =some (.pointer (some ⟨b,0,none⟩))) (h11:a.tmps[11]? =some e7) (hd:a.defers=[])
  (hQ:Q (.returned (.tuple #[.agg #[x0,x1,x2,x3,x4,x5],e7])) ((((((w.setCell ⟨b,0,none⟩ x0).setCell ⟨b,1,none⟩ x1).setCell ⟨b,2,none⟩ x2).setCell ⟨b,3,none⟩ x3).setCell ⟨b,4,none⟩ x4).setCell ⟨b,5,none⟩ x5)):
  bodyPost Tryz.prog Tryz.f20 Q Exit.ret a ((((((w.setCell ⟨b,0,none⟩ x0).setCell ⟨b,1,none⟩ x1).setCell ⟨b,2,none⟩ x2).setCell ⟨b,3,none⟩ x3).setCell ⟨b,4,none⟩ x4).setCell ⟨b,5,none⟩ x5):=bodyPost_ret (AC (BJ h) h10 h11) hd hQ
theorem uc {k:Nat} (hk:k≠b):((((((w.setCell ⟨b,0,none⟩ x0).setCell ⟨b,1,none⟩ x1).setCell ⟨b,2,none⟩ x2).setCell ⟨b,3,none⟩ x3).setCell ⟨b,4,none⟩ x4).setCell ⟨b,5,none⟩ x5).heap[k]? =w.heap[k]? :=by
 rw[Below.heap_setCell _ _ _ _ (by exact hk),Below.heap_setCell _ _ _ _ (by exact hk),Below.heap_setCell _ _ _ _ (by exact hk),Below.heap_setCell _ _ _ _ (by exact hk),Below.heap_setCell _ _ _ _ (by exact hk),Below.heap_setCell _ _ _ _ (by exact hk)]
theorem lr {B:Nat} {u:World} (hb:Below B u w) (hB:B<=b) (hz:B<=w.heap.size):Below B u ((((((w.setCell ⟨b,0,none⟩ x0).setCell ⟨b,1,none⟩ x1).setCell ⟨b,2,none⟩ x2).setCell ⟨b,3,none⟩ x3).setCell ⟨b,4,none⟩ x4).setCell ⟨b,5,none⟩ x5):=by
 have hk: ∀(i:Nat),(some b)=some i->B<=i:=fun i e=>by cases e; exact hB
 have g: ∀ {v:World} (k:Nat) (x:Value),B<=v.heap.size->Below B u v->Below B u (v.setCell ⟨b,k,none⟩ x)/\B<=(v.setCell ⟨b,k,none⟩ x).heap.size:=fun k x hz h=>⟨h.grown (bw _ _ _ _) hz hk,Nat.le_trans hz (bw _ b k x).size⟩
 obtain⟨c0,z0⟩:=g 0 x0 hz hb;obtain⟨c1,z1⟩:=g 1 x1 z0 c0;obtain⟨c2,z2⟩:=g 2 x2 z1 c1;obtain⟨c3,z3⟩:=g 3 x3 z2 c2;obtain⟨c4,z4⟩:=g 4 x4 z3 c3;exact(g 5 x5 z4 c4).1
end
def AR :Value:= .agg #[.int .i64 0, .slice none 0 0, .slice none 0 0, .slice none 0 0, .int .i64 0, .int .i64 0]
def kE (res:Except Int xQ) (w:World) (e:Ending) (w':World):Prop:=Below w.heap.size w w'/\match res with
 | .error x=>e= .returned (.tuple #[AR, .int .i64 x])/\x≠0
 | .ok r=> ∃fv cv nv,e= .returned (.tuple #[.agg #[.int .i64 r.idx.tm,fv,cv,nv, .int .i64 (r.read:Int), .int .i64 (r.kept:Int)], .int .i64 0])/\bR w' w.heap.size fv r.idx.files/\w'.ownsRow w.heap.size 60 2 cv r.chg.length (cr r.chg)/\cK w.heap.size nv r.news w'
theorem cZ (S:Nat->Prop) (x:cJ) (fv:Value) (b:Bool) (w:World) (hx:aO S w fv x.files) (henv:jx w) (h:ci x=b):Calls Tryz.prog 12 #[cG fv x.tm] w fun e w'=>e= .returned (.bool b)/\Below w.heap.size w w':=by
 rw[<-h]; exact qG S x fv w hx henv
theorem tU (rs:List aT) (S:Nat->Prop) (v:Value) (s:ByteArray) (dir ig:Bool) (w:World) (he:jx w) (hv:bP S w v rs) (hp: ∀r∈rs,r.pat.length<=9223372036854775807) (h:dm rs (bl s) dir=(ig,0)):
  Calls Tryz.prog 40 #[v, .string s, .bool dir] w fun e w'=>e= .returned (.tuple #[.bool ig, .int .i64 0])/\Below w.heap.size w w':=by
 have:=rQ rs S v s dir w he hv hp;rw[h]at this;exact this
theorem ze {S:Nat->Prop} {w:World} {v:Value} {rs:List aT} (h:bP S w v rs):bP (· <w.heap.size) w v rs:=by
 obtain⟨cells,h1,h2⟩:=h;exact⟨cells,aN.mono h1 (fun k hk _=>hk) (by omega),h2⟩
theorem zf {S T:Nat->Prop} {w:World} {v:Value} {rs:List aT} (h:bP S w v rs) (hs: ∀k,S k->T k):bP T w v rs:=by
 obtain⟨cells,h1,h2⟩:=h;exact⟨cells,h1.weak hs,h2⟩
theorem nY {prev:cJ} {tm:Int} {tree:List bv} {rules:List UInt8} {c:eA} (h: ¬(ci prev=true/\prev.tm<=tm/\eM c=true)):eK prev tm tree rules c= .error 1:=by unfold eK; rw[if_neg h]
theorem uw {prev:cJ} {tm:Int} {tree:List bv} {rules:List UInt8} {c:eA} {rs:List aT} {n x:Int} (h:ci prev=true/\prev.tm<=tm/\eM c=true) (hp:cl rules=(rs,n,x)) (hx: ¬x=0):eK prev tm tree rules c= .error x:=by
 unfold eK; rw[if_pos h,hp,if_neg hx]
theorem xg {prev:cJ} {tm x:Int} {tree:List bv} {rules:List UInt8} {c:eA} {rs:List aT} {n:Int} (h:ci prev=true/\prev.tm<=tm/\eM c=true) (hp:cl rules=(rs,n,0)) (hx:bV tree=x) (h0: ¬x=0):eK prev tm tree rules c= .error x:=by
 unfold eK; rw[if_pos h,hp,if_pos rfl,hx,if_neg h0]
theorem AB {prev:cJ} {tm:Int} {tree:List bv} {rules:List UInt8} {c:eA} {rs:List aT} {n:Int} {s:jP} (h:ci prev=true/\prev.tm<=tm/\eM c=true) (hp:cl rules=(rs,n,0)) (hx:bV tree=0) (hs:s=dA prev.tm prev.files c (cV rs tree)):eK prev tm tree rules c= .ok ⟨⟨tm,s.files⟩,iR prev.files s.files,s.news,s.read,s.kept⟩:=by
 unfold eK; rw[if_pos h,hp,if_pos rfl,if_pos hx,hs]
theorem Ag {x:cJ} (h:ci x=true):x.files.length<=4096:=by
 unfold ci at h;simp only[Bool.and_eq_true,decide_eq_true_eq]at h;exact h.1.1.2
theorem zi {tm:Int} {prev:List ay} {c:eA} (hc:eM c=true) {K:List bv} (hv: ∀e∈K,cg e=true):(dA tm prev c K).news.length<=K.length*1048576:=by
 show(List.foldl bE (pd prev,[]) _).2.length<=_
 refine Nat.le_trans (yW _ _) ?_;simp only[List.length_nil,Nat.zero_add];have key: ∀(L:List bv),(∀e∈L,cg e=true/\e.kind=1)->(L.flatMap fun e=>bW c e.data).length<=L.length*1048576:=by
  intro L
  induction L with
  | nil=>simp
  | cons e L ih=>
   intro h;rw[List.flatMap_cons,List.length_append,List.length_cons];have h1:=ih fun x hx=>h x (by simp[hx])
   have h2:=ym hc e.data;have h3:=(kS (h e (by simp)).1).1 (h e (by simp)).2;omega
 refine Nat.le_trans (key _ fun e he=> ?_) (Nat.mul_le_mul_right _ (List.length_filter_le _ _));rw[List.mem_filter]at he;refine⟨hv e he.1, ?_⟩;have:=he.2;unfold pD at this;rw[Bool.and_eq_true]at this;exact of_decide_eq_true this.1
theorem bP.old {base:Nat} {w w':World} {v:Value} {rs:List aT} (h:bP (· <base) w v rs) (hb:Below base w w'):bP (· <base) w' v rs:=by
 obtain⟨cells,h1,h2⟩:=h;exact⟨cells,aN.same h1 (fun k hk=>hb.block k hk),h2⟩
theorem yM {S:Nat->Prop} {w:World} {v:Value} {l:List bC} (h:aK S w v l):aK (· <w.heap.size) w v l:=by
 obtain⟨cells,h1,h2⟩:=h;exact⟨cells,aN.mono h1 (fun k hk _=>hk) (by omega),h2⟩
theorem yx {S:Nat->Prop} {w:World} {v:Value} {l:List ay} (h:aO S w v l):aO (· <w.heap.size) w v l:=by
 obtain⟨cells,h1,h2⟩:=h;exact⟨cells,aN.mono h1 (fun k hk _=>hk) (by omega),h2.mono fun c x _ ⟨u,e1,e2,e3⟩=>⟨u,e1,yM e2,e3⟩⟩
theorem yO {S T:Nat->Prop} {w:World} {v:Value} {l:List bC} (h:aK S w v l) (hs: ∀k,S k->T k):aK T w v l:=by
 obtain⟨cells,h1,h2⟩:=h;exact⟨cells,h1.weak hs,h2⟩
theorem yy {S T:Nat->Prop} {w:World} {v:Value} {l:List ay} (h:aO S w v l) (hs: ∀k,S k->T k):aO T w v l:=by
 obtain⟨cells,h1,h2⟩:=h;exact⟨cells,h1.weak hs,h2.mono fun c x _ ⟨u,e1,e2,e3⟩=>⟨u,e1,yO e2 hs,e3⟩⟩
theorem Ab {S:Nat->Prop} {w:World} {v:Value} {l:List bv} (h:bS S w v l):bS (· <w.heap.size) w v l:=by
 obtain⟨cells,h1,h2⟩:=h;exact⟨cells,aN.mono h1 (fun k hk _=>hk) (by omega),h2.mono fun c x _ ⟨u,e1,e2,e3⟩=>⟨u,e1,aN.mono e2 (fun k hk _=>hk) (by omega),e3⟩⟩
theorem Ac {S T:Nat->Prop} {w:World} {v:Value} {l:List bv} (h:bS S w v l) (hs: ∀k,S k->T k):bS T w v l:=by
 obtain⟨cells,h1,h2⟩:=h;exact⟨cells,h1.weak hs,h2.mono fun c x _ ⟨u,e1,e2,e3⟩=>⟨u,e1,e2.weak hs,e3⟩⟩
theorem yv {base:Nat} {w w':World} {v:Value} {l:List bv} (h:bS (· <base) w v l) (hb:Below base w w'):bS (· <base) w' v l:=by
 obtain⟨cells,h1,h2⟩:=h;refine⟨cells,aN.same h1 (fun k hk=>hb.block k hk),h2.mono fun c x _ ⟨u,e1,e2,e3⟩=>⟨u,e1,aN.same e2 (fun k hk=>hb.block k hk),e3⟩⟩
theorem nX (S T:Nat->Prop) (prev:cJ) (fv tv:Value) (tm:Int) (tree:List bv) (rules:ByteArray) (c:eA) (w:World) (hf:aO S w fv prev.files) (ht:bS T w tv tree) (he:iG w) (hs:c.seed<18446744073709551616) (hpl: ∀f∈prev.files,f.parts.length<=1048576):
  Calls Tryz.prog 20 #[cG fv prev.tm, .int .i64 tm,tv, .string rules,gD c] w (kE (eK prev tm tree (bl rules) c) w):=by
 obtain⟨fa,fc,rfl,hfc,hfm,-⟩:=aR.shape hf dj.len;obtain⟨ta,tc,rfl,htc,htm,-⟩:=aR.shape ht kg.len;unfold maxLen at htm;have HF:=ab hf;have HT:=ab ht;have HE:=ab he;have HPL:=ab hpl;clear hf ht he hpl;obtain⟨fl,hfl⟩: ∃fl,fl=prev.files.length:=⟨_,rfl⟩;rw[<-hfl]at HF hfc ⊢;have HFL:=ab hfl;obtain⟨tl,htl⟩: ∃tl,tl=tree.length:=⟨_,rfl⟩;rw[<-htl]at HT htc ⊢
 have HTL:=ab htl;clear hfl htl;obtain⟨W,hW⟩: ∃W,W=((w.alloc (.cells #[.int .i64 prev.tm, .slice fa fl fc] 24)).alloc (.cells #[.int .i64 c.mn, .int .i64 c.mx, .int .i64 c.win, .int .i64 c.bits, .int .u64 (c.seed:Int)] 48)).alloc (.cells #[.int .i64 0, .slice none 0 0, .slice none 0 0, .slice none 0 0, .int .i64 0, .int .i64 0] 54):=⟨_,rfl⟩;have HBW:=ab (show Below w.heap.size w W by rw[hW]; exact(((Below.refl _ _).alloc (Nat.le_refl _) _).alloc (by simp) _).alloc (by simp; omega) _)
 have HX:=ab (show W.heap[w.heap.size]? =some (.cells #[.int .i64 prev.tm, .slice fa fl fc] 24 (0,0)) by rw[hW]; exact kh (kh (heap_alloc_new w _) _) _);have HC:=ab (show W.heap[w.heap.size+1]? =some (.cells #[.int .i64 c.mn, .int .i64 c.mx, .int .i64 c.win, .int .i64 c.bits, .int .u64 (c.seed:Int)] 48 (0,0)) by rw[hW]; exact kh (heap_alloc2_new w _ _) _);have HR:=ab (show W.heap[w.heap.size+1+1]? =some (.cells #[.int .i64 0, .slice none 0 0, .slice none 0 0, .slice none 0 0, .int .i64 0, .int .i64 0] 54 (0,0)) by
  rw[hW];have h:=heap_alloc_new ((w.alloc (.cells #[.int .i64 prev.tm, .slice fa fl fc] 24)).alloc (.cells #[.int .i64 c.mn, .int .i64 c.mx, .int .i64 c.win, .int .i64 c.bits, .int .u64 (c.seed:Int)] 48)) (.cells #[.int .i64 0, .slice none 0 0, .slice none 0 0, .slice none 0 0, .int .i64 0, .int .i64 0] 54);have e2:((w.alloc (.cells #[.int .i64 prev.tm, .slice fa fl fc] 24)).alloc (.cells #[.int .i64 c.mn, .int .i64 c.mx, .int .i64 c.win, .int .i64 c.bits, .int .u64 (c.seed:Int)] 48)).heap.size=w.heap.size+1+1:=by simp
  rw[e2]at h;exact h)
 have HSZ:=ab (show W.heap.size=w.heap.size+3 by rw[hW]; simp);unfold cG gD
 go_enter Tryz.func20,Tryz.ntmps20
 go_upto_region 1 with fail
 change Code.wp _ _ _ _ (((w.alloc (.cells #[.int .i64 prev.tm, .slice fa fl fc] 24)).alloc (.cells #[.int .i64 c.mn, .int .i64 c.mx, .int .i64 c.win, .int .i64 c.bits, .int .u64 (c.seed:Int)] 48)).alloc (.cells #[.int .i64 0, .slice none 0 0, .slice none 0 0, .slice none 0 0, .int .i64 0, .int .i64 0] 54))
 rw[<-hW];clear hW;have HFW:=ab (show aO S W (.slice fa fl fc) prev.files from HF.out.below HBW.out);have HEW:=ab (HE.out.below HBW.out);have x0:=ai (k:=0) HX.out;have x1:=ai (k:=1) HX.out;simp only[List.getElem?_toArray,bN]at x0 x1
 cases hvx:ci prev with
 | false=>
  have HBAD:=ab (show eK prev tm tree (bl rules) c= .error 1 from nY (fun h=>by rw[hvx]at h; cases h.1));have HVX:=ab hvx;clear hvx
  go_upto_region 2 with(go_at_call 12; refine(cZ S prev (.slice fa fl fc) false W HFW.out HEW.out.env HVX.out).mono ?_; rintro e w1 ⟨rfl,hb1⟩; have HB1:=ab hb1; clear hb1)
  have HR1:=ab ((HB1.out.block _ (lt_of_block HR.out)).trans HR.out);have z0:=ai (k:=0) HR1.out;have z1:=ai (k:=1) HR1.out;have z2:=ai (k:=2) HR1.out;have z3:=ai (k:=3) HR1.out;have z4:=ai (k:=4) HR1.out;have z5:=ai (k:=5) HR1.out;simp only[List.getElem?_toArray,bN]at z0 z1 z2 z3 z4 z5;have g0:=al (k:=0) HR1.out;have g1:=al (k:=1) HR1.out
  have g2:=al (k:=2) HR1.out;have g3:=al (k:=3) HR1.out;have g4:=al (k:=4) HR1.out;have g5:=al (k:=5) HR1.out;go_wp2_with fail;refine jK HR1.out rfl rfl rfl ?_;refine⟨lr (HBW.out.trans (HB1.out.mono (by have:=HSZ.out; omega))) (by omega) (by have:=HB1.out.size; have:=HSZ.out; omega), ?_⟩;rw[HBAD.out];exact⟨rfl,by decide⟩
 | true=>
  have HVX:=ab hvx;clear hvx
  by_cases hlt:tm<prev.tm
  ·have HBAD:=ab (show eK prev tm tree (bl rules) c= .error 1 from nY (fun h=>by omega))
   go_upto_region 2 with(go_at_call 12; refine(cZ S prev (.slice fa fl fc) true W HFW.out HEW.out.env HVX.out).mono ?_; rintro e w1 ⟨rfl,hb1⟩; have HB1:=ab hb1; have y0:=(hb1.cell (p:=⟨w.heap.size,0,none⟩) (aG x0)).trans x0; clear hb1)
   have HR1:=ab ((HB1.out.block _ (lt_of_block HR.out)).trans HR.out);have z0:=ai (k:=0) HR1.out;have z1:=ai (k:=1) HR1.out;have z2:=ai (k:=2) HR1.out;have z3:=ai (k:=3) HR1.out;have z4:=ai (k:=4) HR1.out;have z5:=ai (k:=5) HR1.out;simp only[List.getElem?_toArray,bN]at z0 z1 z2 z3 z4 z5;have g0:=al (k:=0) HR1.out;have g1:=al (k:=1) HR1.out
   have g2:=al (k:=2) HR1.out;have g3:=al (k:=3) HR1.out;have g4:=al (k:=4) HR1.out;have g5:=al (k:=5) HR1.out;go_wp2_with fail;refine jK HR1.out rfl rfl rfl ?_;refine⟨lr (HBW.out.trans (HB1.out.mono (by have:=HSZ.out; omega))) (by omega) (by have:=HB1.out.size; have:=HSZ.out; omega), ?_⟩;rw[HBAD.out];exact⟨rfl,by decide⟩
  ·cases hvc:eM c with
   | false=>
    have HBAD:=ab (show eK prev tm tree (bl rules) c= .error 1 from nY (fun h=>by rw[hvc]at h; cases h.2.2));have HVC:=ab hvc;clear hvc
    go_upto_region 2 with(first | (go_at_call 12; refine(cZ S prev (.slice fa fl fc) true W HFW.out HEW.out.env HVX.out).mono ?_; rintro e w1 ⟨rfl,hb1⟩; have HB1:=ab hb1; have y0:=(hb1.cell (p:=⟨w.heap.size,0,none⟩) (aG x0)).trans x0; have HC1:=ab ((hb1.block _ (lt_of_block HC.out)).trans HC.out); have c0:=ai (k:=0) HC1.out; have c1:=ai (k:=1) HC1.out; have c2:=ai (k:=2) HC1.out; have c3:=ai (k:=3) HC1.out; have c4:=ai (k:=4) HC1.out; simp only[List.getElem?_toArray,bN]at c0 c1 c2 c3 c4; clear hb1) | (go_at_call 36; refine(gt c false _ HVC.out).mono ?_; rintro e w2 ⟨rfl,hb2⟩; have HB2:=ab hb2; clear hb2))
    have HB12:=ab (ag HB1.out HB2.out);have HR1:=ab ((HB12.out.block _ (lt_of_block HR.out)).trans HR.out);have z0:=ai (k:=0) HR1.out;have z1:=ai (k:=1) HR1.out;have z2:=ai (k:=2) HR1.out;have z3:=ai (k:=3) HR1.out;have z4:=ai (k:=4) HR1.out;have z5:=ai (k:=5) HR1.out;simp only[List.getElem?_toArray,bN]at z0 z1 z2 z3 z4 z5;have g0:=al (k:=0) HR1.out
    have g1:=al (k:=1) HR1.out;have g2:=al (k:=2) HR1.out;have g3:=al (k:=3) HR1.out;have g4:=al (k:=4) HR1.out;have g5:=al (k:=5) HR1.out;go_wp2_with fail;refine jK HR1.out rfl rfl rfl ?_;refine⟨lr (HBW.out.trans (HB12.out.mono (by have:=HSZ.out; omega))) (by omega) (by have:=HB12.out.size; have:=HSZ.out; omega), ?_⟩;rw[HBAD.out];exact⟨rfl,by decide⟩
   | true=>
    have HVC:=ab hvc;have HOK:=ab (show ci prev=true/\prev.tm<=tm/\eM c=true from⟨HVX.out,by omega,hvc⟩);clear hvc
    go_upto_region 3 with(first | (go_at_call 12; refine(cZ S prev (.slice fa fl fc) true W HFW.out HEW.out.env HVX.out).mono ?_; rintro e w1 ⟨rfl,hb1⟩; have HB1:=ab hb1; have y0:=(hb1.cell (p:=⟨w.heap.size,0,none⟩) (aG x0)).trans x0; have HC1:=ab ((hb1.block _ (lt_of_block HC.out)).trans HC.out); have c0:=ai (k:=0) HC1.out; have c1:=ai (k:=1) HC1.out; have c2:=ai (k:=2) HC1.out; have c3:=ai (k:=3) HC1.out; have c4:=ai (k:=4) HC1.out; simp only[List.getElem?_toArray,bN]at c0 c1 c2 c3 c4; clear hb1) | (go_at_call 36; refine(gt c true _ HVC.out).mono ?_; rintro e w2 ⟨rfl,hb2⟩; have HB2:=ab (ag HB1.out hb2); clear hb2))
    clear x0 x1 y0 c0 c1 c2 c3 c4 hlt;have HE2:=ab (HEW.out.below HB2.out);obtain⟨rs,rn,rx,hpe⟩: ∃rs rn rx,cl (bl rules)=(rs,rn,rx):=⟨_,_,_,rfl⟩;have HPE:=ab hpe;have hpa:=wB rules w2 HE2.out.env;rw[hpe]at hpa;have HPA:=ab hpa;clear hpe hpa
    go_upto_region 4 with(go_at_call 37; refine HPA.out.mono ?_; rintro e w3 ⟨rv,rfl,hru,hb3⟩; have HB3:=ab (ag HB2.out hb3); have HRU:=ab hru; have hz23:=hb3.size; clear hru hb3)
    by_cases hx:rx=0
    ·subst hx;obtain⟨z,hz⟩: ∃z,bV tree=z:=⟨_,rfl⟩;have HZ:=ab hz;have HE3:=ab (HEW.out.below HB3.out);have HT3:=ab (show bS T w3 (.slice ta tl tc) tree from(HT.out.below HBW.out).below HB3.out);clear hz
     go_upto_region 7 with(go_at_call 34; refine(qW T tree (.slice ta tl tc) z _ HT3.out HE3.out.env HZ.out).mono ?_; rintro e w4 ⟨rfl,hb4⟩; have HB4:=ab (ag HB3.out hb4); have HB34:=ab hb4; have hz34:=hb4.size; clear hb4)
     by_cases hz0:z=0
     ·subst hz0;have hz12:w.heap.size+3<=w4.heap.size:=by have:=HB4.out.size; have:=HSZ.out; omega
      go_upto_region 9 with fail
      obtain⟨W0,hW0⟩: ∃W0:World,W0=w4.drew:=⟨_,rfl⟩;have HBZ:=ab (show Below W.heap.size W W0 by rw[hW0]; exact HB4.out.drew);have HB40:=ab (show Below w4.heap.size w4 W0 by rw[hW0]; exact(Below.refl _ _).drew);have hz0:W0.heap.size=w4.heap.size:=by rw[hW0]; rfl
      have HX0:=ab ((HBZ.out.block _ (lt_of_block HX.out)).trans HX.out);have HC0:=ab ((HBZ.out.block _ (lt_of_block HC.out)).trans HC.out);have HR0:=ab ((HBZ.out.block _ (lt_of_block HR.out)).trans HR.out);obtain⟨base,hbase⟩: ∃base,base=W0.heap.size:=⟨_,rfl⟩;have HBS:=ab hbase;have HFB:=ab (show aO (· <base) W0 (.slice fa fl fc) prev.files from yy (yx (HFW.out.below HBZ.out)) (fun k hk=>by rw[hbase]; exact hk))
      have HTB:=ab (show bS (· <base) W0 (.slice ta tl tc) tree from Ac (Ab ((HT.out.below HBW.out).below HBZ.out)) (fun k hk=>by rw[hbase]; exact hk));have HE0:=ab (HEW.out.below HBZ.out);have hvi:=HVX.out;have hlen:prev.files.length<=4096:=Ag hvi;have HND:=ab (show(prev.files.map ay.path).Nodup from by
       have h1:=qq hvi;unfold vG at h1;unfold List.Nodup;rw[List.pairwise_map];exact h1.imp fun h=>dQ h)
      clear hvi;have S0:=ab (And.intro HX0.out HC0.out);refine cu (fun w'=>w'.heap[w.heap.size]? =some (.cells #[.int .i64 prev.tm, .slice fa fl fc] 24 (0,0))/\w'.heap[w.heap.size+1]? =some (.cells #[.int .i64 c.mn, .int .i64 c.mx, .int .i64 c.win, .int .i64 c.bits, .int .u64 (c.seed:Int)] 48 (0,0))) (by kernel_rfl) ?_;rw[<-hW0];clear hW0 hbase;refine af 0 rfl (by kernel_rfl) (by kernel_rfl) (by kernel_rfl) (fun _ _ _ h=>h) rfl S0.out (by rintro w' ⟨hw1,hw2⟩; have o0:=ai (k:=0) hw1; have o1:=ai (k:=1) hw1; have c0:=ai (k:=0) hw2; have c1:=ai (k:=1) hw2; have c2:=ai (k:=2) hw2; have c3:=ai (k:=3) hw2; have c4:=ai (k:=4) hw2; simp only[List.getElem?_toArray,bN]at o0 o1 c0 c1 c2 c3 c4; clear hw1 hw2; go_simp; rfl) ?_
      simp only[Act.put,aC,aD,aE];refine af 1 rfl (by kernel_rfl) (by kernel_rfl) (by kernel_rfl) (fun _ _ _ h=>h) rfl S0.out (by rintro w' ⟨hw1,hw2⟩; have o0:=ai (k:=0) hw1; have o1:=ai (k:=1) hw1; have c0:=ai (k:=0) hw2; have c1:=ai (k:=1) hw2; have c2:=ai (k:=2) hw2; have c3:=ai (k:=3) hw2; have c4:=ai (k:=4) hw2; simp only[List.getElem?_toArray,bN]at o0 o1 c0 c1 c2 c3 c4; clear hw1 hw2; go_simp; rfl) ?_
      simp only[Act.put,aC,aD,aE];refine af 2 rfl (by kernel_rfl) (by kernel_rfl) (by kernel_rfl) (fun _ _ _ h=>h) rfl S0.out (by rintro w' ⟨hw1,hw2⟩; have o0:=ai (k:=0) hw1; have o1:=ai (k:=1) hw1; have c0:=ai (k:=0) hw2; have c1:=ai (k:=1) hw2; have c2:=ai (k:=2) hw2; have c3:=ai (k:=3) hw2; have c4:=ai (k:=4) hw2; simp only[List.getElem?_toArray,bN]at o0 o1 c0 c1 c2 c3 c4; clear hw1 hw2; go_simp; rfl) ?_
      simp only[Act.put,aC,aD,aE];refine af 4 rfl (by kernel_rfl) (by kernel_rfl) (by kernel_rfl) (fun _ _ _ h=>h) rfl S0.out (by rintro w' ⟨hw1,hw2⟩; have o0:=ai (k:=0) hw1; have o1:=ai (k:=1) hw1; have c0:=ai (k:=0) hw2; have c1:=ai (k:=1) hw2; have c2:=ai (k:=2) hw2; have c3:=ai (k:=3) hw2; have c4:=ai (k:=4) hw2; simp only[List.getElem?_toArray,bN]at o0 o1 c0 c1 c2 c3 c4; clear hw1 hw2; go_simp; rfl) ?_
      simp only[Act.put,aC,aD,aE];refine af 6 rfl (by kernel_rfl) (by kernel_rfl) (by kernel_rfl) (fun _ _ _ h=>h) rfl S0.out (by rintro w' ⟨hw1,hw2⟩; have o0:=ai (k:=0) hw1; have o1:=ai (k:=1) hw1; have c0:=ai (k:=0) hw2; have c1:=ai (k:=1) hw2; have c2:=ai (k:=2) hw2; have c3:=ai (k:=3) hw2; have c4:=ai (k:=4) hw2; simp only[List.getElem?_toArray,bN]at o0 o1 c0 c1 c2 c3 c4; clear hw1 hw2; go_simp; rfl) ?_
      simp only[Act.put,aC,aD,aE];refine az 3 rfl (by kernel_rfl) rfl (fun K hK=> ?_);go_wp2_with (go_at_call 38; refine(rB (· <base) prev (.slice fa fl fc) W0 HFB.out HND.out hlen).mono ?_; rintro e w5 ⟨mb,rfl,hmb,hfm,hb5⟩; have HB5:=ab hb5; have HFM:=ab hfm; have hz5:=hb5.size; clear hb5 hfm);have S5:=ab (And.intro ((HB5.out.block _ (lt_of_block HX0.out)).trans HX0.out) ((HB5.out.block _ (lt_of_block HC0.out)).trans HC0.out))
      refine⟨S5.out, ?_⟩;refine az 5 rfl (by kernel_rfl) rfl (fun K hK=> ?_);go_wp2_with (go_at_call 39; refine(ql (· <base) prev (.slice fa fl fc) w5 (HFB.out.below HB5.out)).mono ?_; rintro e w6 ⟨kb,rfl,hkb,hkn,hb6⟩; have HB6:=ab hb6; have HKN:=ab hkn; have hz6:=hb6.size; clear hb6 hkn);have HB06:=ab (ag HB5.out HB6.out);have S6:=ab (And.intro ((HB06.out.block _ (lt_of_block HX0.out)).trans HX0.out) ((HB06.out.block _ (lt_of_block HC0.out)).trans HC0.out))
      refine⟨S6.out, ?_⟩;refine af 7 rfl (by kernel_rfl) (by kernel_rfl) (by kernel_rfl) (fun _ _ _ h=>h) rfl S6.out (by rintro w' ⟨hw1,hw2⟩; have o0:=ai (k:=0) hw1; have o1:=ai (k:=1) hw1; have c0:=ai (k:=0) hw2; have c1:=ai (k:=1) hw2; have c2:=ai (k:=2) hw2; have c3:=ai (k:=3) hw2; have c4:=ai (k:=4) hw2; simp only[List.getElem?_toArray,bN]at o0 o1 c0 c1 c2 c3 c4; clear hw1 hw2; go_simp; rfl) ?_
      simp only[Act.put,aC,aD,aE];refine az 8 rfl (by kernel_rfl) rfl (fun K hK=> ?_);go_wp2_with fail;obtain⟨wc,hwc⟩: ∃wc,wc=w6.alloc (.cells (cB ⟨0, .slice none 0 0, .slice none 0 0,0,0,prev.tm,mb,c⟩ kb (.slice none 0 0)).toArray 95):=⟨_,rfl⟩;have HBC:=ab (show Below w6.heap.size w6 wc by rw[hwc]; exact(Below.refl _ _).alloc (Nat.le_refl _) _);have HCB:=ab (show wc.heap[w6.heap.size]? =some (.cells (cB ⟨0, .slice none 0 0, .slice none 0 0,0,0,prev.tm,mb,c⟩ kb (.slice none 0 0)).toArray 95 (0,0)) by rw[hwc]; exact heap_alloc_new w6 _)
      have hwc2:=hwc;simp only[cB,cD,List.cons_append,List.nil_append]at hwc2;have HB0C:=ab (ag HB06.out HBC.out);have SC:=ab (And.intro ((HB0C.out.block _ (lt_of_block HX0.out)).trans HX0.out) ((HB0C.out.block _ (lt_of_block HC0.out)).trans HC0.out));have hb0:=HBS.out;have HCO:=ab (show dh W0 wc base w6.heap.size kb ⟨0, .slice none 0 0, .slice none 0 0,0,0,prev.tm,mb,c⟩ (.slice none 0 0) prev.files ⟨[],pd prev.files,[],0,0⟩from
       ⟨⟨HCB.out,⟨[],rfl,World.ownsRow_nil _ _ _ _,by simp⟩,HKN.out.below HBC.out⟩,bR.nil _ _,(HFM.out.below HB6.out).below HBC.out,by rw[hb0]; exact HB0C.out,by have:=HFM.out.lt; show mb≠kb; omega,rfl,rfl⟩)
      have hzc:w6.heap.size<wc.heap.size:=lt_of_block HCB.out;have hwc3:w6.alloc (.cells #[.int .i64 0, .slice none 0 0, .slice none 0 0, .slice none 0 0, .int .i64 0, .int .i64 0, .int .i64 prev.tm, .map (some mb), .map (some kb), .int .i64 c.mn, .int .i64 c.mx, .int .i64 c.win, .int .i64 c.bits, .int .u64 (c.seed:Int)] 95)=wc:=hwc.symm;rw[hwc3];clear hwc hwc2 hwc3;refine⟨SC.out, ?_⟩
      refine af 9 rfl (by kernel_rfl) (by kernel_rfl) (by kernel_rfl) (fun _ _ _ h=>h) rfl SC.out (by rintro w' ⟨hw1,hw2⟩; have o0:=ai (k:=0) hw1; have o1:=ai (k:=1) hw1; have c0:=ai (k:=0) hw2; have c1:=ai (k:=1) hw2; have c2:=ai (k:=2) hw2; have c3:=ai (k:=3) hw2; have c4:=ai (k:=4) hw2; simp only[List.getElem?_toArray,bN]at o0 o1 c0 c1 c2 c3 c4; clear hw1 hw2; go_simp; rfl) ?_
      simp only[Act.put,aC,aD,aE];refine aZ (by kernel_rfl) ?_;have k0:=ai (k:=0) HCB.out;have f0:=al (k:=0) HCB.out;simp only[cB,cD,List.cons_append,List.nil_append,List.getElem?_toArray,List.getElem?_cons_zero]at k0
      go_upto_region 11 with fail
      obtain⟨wd,hwd⟩: ∃wd,wd=wc.setCell ⟨w6.heap.size,0,none⟩ (.int .i64 tm):=⟨_,rfl⟩;rw[<-hwd];obtain⟨cb,hcb⟩: ∃cb,cb=w6.heap.size:=⟨_,rfl⟩;have HCO2:=ab (show dh W0 wd base cb kb ⟨tm, .slice none 0 0, .slice none 0 0,0,0,prev.tm,mb,c⟩ (.slice none 0 0) prev.files ⟨[],pd prev.files,[],0,0⟩ by
       rw[hwd,hcb];exact HCO.out.setq 0 (.int .i64 tm) (q':=⟨tm, .slice none 0 0, .slice none 0 0,0,0,prev.tm,mb,c⟩) (by simp[cB]) rfl rfl rfl rfl rfl rfl rfl (by omega) (by omega))
      have hzd:wd.heap.size=wc.heap.size:=by rw[hwd]; simp[World.setCell]
      rw[<-hcb];have hcbb:base<=cb:=by omega
      have hkbb:base<=kb:=by omega
      clear hwd k0 f0 hcb;have h6:6<=base:=by have:=HE0.out.six; omega
      have hTO:=eU.1 HZ.out;have HVE:=ab hTO.val;have htl2:tl<=4096:=by have h1:=hTO.len; rwa [<-HTL.out]at h1
      obtain⟨us,hus,hig⟩:=yC HPE.out;have HIG:=ab hig;have HPT:=ab (show ∀r∈rs,r.pat.length<=9223372036854775807 from fun r hr=>by have:=(sr HPE.out).2.2.2 r hr; omega);have hz34':w3.heap.size<=base:=by have:=HBS.out; omega
      have HRB:=ab (show bP (· <base) W0 rv rs from zf (ze (bP.below (bP.below HRU.out HB34.out) HB40.out)) (fun k hk=>by have:=HBS.out; rw[this]; exact hk));clear hTO hus hig;go_wp2_with fail
      go_loopw [70] (fun i wr=> ∃(k:Nat) (fv' nv':Value) (rd kp:Nat),k<=tl/\i= .int .i64 k/\dh W0 wr base cb kb ⟨tm,fv', .slice none 0 0,rd,kp,prev.tm,mb,c⟩ nv' prev.files (dA prev.tm prev.files c (cV rs (tree.take k)))) (fun i _=>tl-(intOf i).toNat)
      case atStart=>exact⟨0,_,_,0,0,Nat.zero_le _,rfl,HCO2.out⟩
      case round=>
       obtain⟨k,fv',nv',rd,kp,hk,rfl,hco⟩:=hrel;have HCK:=ab hco;have HBK:=ab hco.old;have hzk:=hco.old.size;clear hco
       by_cases hlt:k<tl
       ·obtain⟨e,he⟩: ∃e,tree[k]? =some e:=⟨_,List.getElem?_eq_getElem (show k<tree.length by rw[<-HTL.out]; exact hlt)⟩;have HTK:=ab (yv HTB.out HBK.out);obtain⟨b,o,dv,rfl,-,-,hd,heok,-,q0,q1,q2,q3,q4,q5⟩:=ij HTK.out he;obtain⟨da,dc,rfl,hd1,hd2⟩:=hd.slice;have HAT:=ab he;have HDA:=ab hd;have HEO:=ab heok;have hve:=HVE.out e (List.mem_of_getElem? he)
        have HVL:=ab hve;have hk256:(tree.take k).length<=k:=List.length_take_le _ _;have hKl:(cV rs (tree.take k)).length<=k:=Nat.le_trans (List.length_filter_le _ _) hk256;have HKV:=ab (show ∀x∈cV rs (tree.take k),cg x=true from fun x hx=>HVE.out x (List.take_subset _ _ (kW hx).1));obtain⟨ig,hig⟩: ∃ig,dm rs (bl e.path) (e.kind == 2)=(ig,0):=⟨_,HIG.out _ _ (bY hve)⟩
        have HIGE:=ab hig;have HIGK:=ab (show oE rs e=ig by unfold oE; rw[show decide (e.kind=2)=(e.kind == 2)from rfl,hig]);have HAL:=ab ((Below.refl wr.heap.size wr).alloc (Nat.le_refl _) (.cells #[.string e.path, .int .i64 e.kind, .int .i64 e.mode, .int .i64 e.time, .slice da e.data.length dc, .string e.link] 30));have HRK:=ab (bP.below (bP.old HRB.out HBK.out) HAL.out)
        have HEK:=ab ((HE0.out.keep HBK.out h6).below HAL.out);clear he hd heok hve hig
        go_upto_region 15 with(go_at_call 40; refine(tU rs (· <base) rv e.path (e.kind == 2) ig _ HEK.out.env HRK.out HPT.out HIGE.out).mono ?_; rintro e8 w8 ⟨rfl,hb8⟩; have HB8:=ab (ag HAL.out hb8); have HY8:=ab ((hb8.block _ (by simp)).trans (heap_alloc_new wr (.cells #[.string e.path, .int .i64 e.kind, .int .i64 e.mode, .int .i64 e.time, .slice da e.data.length dc, .string e.link] 30))); clear hb8)
        have hz8:=HB8.out.size;have HC8:=ab (HCK.out.below HB8.out (by omega))
        cases hg:ig with
        | true=>
         subst hg;go_wp2_with fail
         go_roundw
         case rel=>
          refine⟨k+1,fv',nv',rd,kp,by omega,rfl, ?_⟩;rw[aX HAT.out,we HIGK.out];exact HC8.out
         case measure=>simp only[intOf,Int.toNat_natCast]; omega
        | false=>
         subst hg;have HD8:=ab (show cy (· <base) w8 (.slice da e.data.length dc) e.data from aN.same HDA.out (fun i hi=>HB8.out.block i (by omega)));have HE8:=ab (HE0.out.keep HC8.out.old h6);have x0:=ai (k:=0) HY8.out;have x1:=ai (k:=1) HY8.out;have x2:=ai (k:=2) HY8.out;have x3:=ai (k:=3) HY8.out;have x4:=ai (k:=4) HY8.out;have x5:=ai (k:=5) HY8.out
         simp only[List.getElem?_toArray,bN]at x0 x1 x2 x3 x4 x5;have hnw:=zi (tm:=prev.tm) (prev:=prev.files) HVC.out HKV.out;have hadd:=xb W0 base cb kb ⟨tm,fv', .slice none 0 0,rd,kp,prev.tm,mb,c⟩ nv' (.slice da e.data.length dc) prev.files (dA prev.tm prev.files c (cV rs (tree.take k))) e w8 HC8.out HD8.out HEO.out HVL.out HVC.out hs HE8.out hcbb hkbb (by omega) h6 (by omega)
          (by show(List.map _ _).length<=_; rw[List.length_map]; omega) (by show(List.filter _ _).length<=_; exact Nat.le_trans (List.length_filter_le _ _) (by omega)) (by show(List.filter _ _).length<=_; exact Nat.le_trans (List.length_filter_le _ _) (by omega)) HPL.out
         have HADD:=ab hadd;clear hnw hadd
         go_upto_region 19 with(go_at_call 41; refine HADD.out.mono ?_; rintro e9 w9 ⟨fv2,nv2,rd2,kp2,rfl,hco9,hb9⟩; have HC9:=ab hco9; clear hco9 hb9)
         go_wp2_with fail
         go_roundw
         case rel=>
          refine⟨k+1,fv2,nv2,rd2,kp2,by omega,rfl, ?_⟩;rw[aX HAT.out,wg HIGK.out,zh];exact HC9.out
         case measure=>simp only[intOf,Int.toNat_natCast]; omega
       ·have hkt:k=tl:=by omega
        subst hkt;have htk:tree.take k=tree:=List.take_of_length_le (by rw[<-HTL.out]; exact Nat.le_refl _);rw[htk]at HCK;clear htk
        go_upto_region 22 with fail
        obtain⟨s,hss⟩: ∃s,s=dA prev.tm prev.files c (cV rs tree):=⟨_,rfl⟩;rw[<-hss]at HCK;have HSK:=ab hss;obtain⟨zsF,-,hzrF,-⟩:=HCK.out.files.row;obtain⟨fva,fvc,hfv,-,-⟩:=au hzrF;obtain⟨ysN,-,hysN,-⟩:=HCK.out.col.news;obtain⟨nva,nvc,hnv,-,-⟩:=au hysN;obtain⟨fvn,hfvn⟩: ∃n,n=zsF.length:=⟨_,rfl⟩;obtain⟨nvn,hnvn⟩: ∃n,n=ysN.length:=⟨_,rfl⟩
        rw[<-hfvn]at hfv;rw[<-hnvn]at hnv;have hfv:fv'= .slice fva fvn fvc:=hfv;have hnv:nv'= .slice nva nvn nvc:=hnv;clear hzrF hysN hfvn hnvn;subst hfv hnv;have HOUT:=ab (AB (tree:=tree) HOK.out HPE.out HZ.out hss);have hsf:s.files.length<=4096:=by
         rw[hss]
         show(List.map _ _).length<=_
         rw[List.length_map];have h1:(cV rs tree).length<=tree.length:=List.length_filter_le _ _;have:=HTL.out;omega
        obtain⟨q,hq⟩: ∃q:gH,q=⟨tm,(.slice fva fvn fvc), .slice none 0 0,rd,kp,prev.tm,mb,c⟩:=⟨_,rfl⟩;have HQ:=ab hq;obtain⟨WE,hWE⟩: ∃WE:World,WE=wr.drew:=⟨_,rfl⟩;have HBE:=ab (show Below wr.heap.size wr WE by rw[hWE]; exact(Below.refl _ _).drew);have HCE:=ab (HCK.out.below HBE.out (by omega));have HBXE:=ab (show WE.heap[cb]? =some (.cells (cB ⟨tm,(.slice fva fvn fvc), .slice none 0 0,rd,kp,prev.tm,mb,c⟩ kb (.slice nva nvn nvc)).toArray 95 (0,0))from HCE.out.col.box)
        have hzE:=HBE.out.size;have hwb:w.heap.size<base:=by omega
        have HXE:=ab ((HCE.out.old.block _ hwb).trans HX0.out);have HFE:=ab (show aO (fun i=>base<=i) WE (.slice fva fvn fvc) s.files from HCE.out.files.at);have HFP:=ab (show aO (· <base) WE (.slice fa fl fc) prev.files from by
         obtain⟨cells,h1,h2⟩:=HFB.out;exact⟨cells,aN.same h1 (fun i hi=>HCE.out.old.block i hi),h2.mono fun c x _ ⟨u,e1,e2,e3⟩=>⟨u,e1,e2.old HCE.out.old,e3⟩⟩)
        have SE:=ab (And.intro HXE.out HBXE.out);clear hss hq;refine dF (fun w'=>w'.heap[w.heap.size]? =some (.cells #[.int .i64 prev.tm, .slice fa fl fc] 24 (0,0))/\w'.heap[cb]? =some (.cells (cB ⟨tm,(.slice fva fvn fvc), .slice none 0 0,rd,kp,prev.tm,mb,c⟩ kb (.slice nva nvn nvc)).toArray 95 (0,0))) (by kernel_rfl) (by kernel_rfl) ?_;simp only[List.dropLast_cons_cons,List.dropLast_singleton,List.length_cons,List.length_nil,Nat.reduceAdd,Nat.reduceSub]
        rw[<-hWE];clear hWE;refine af 0 rfl (by kernel_rfl) (by kernel_rfl) (by kernel_rfl) (fun _ _ _ h=>h) rfl SE.out (by rintro w' ⟨hw1,hw2⟩; have o0:=ai (k:=0) hw1; have o1:=ai (k:=1) hw1; have c0:=ai (k:=0) hw2; have c1:=ai (k:=1) hw2; simp only[cB,cD,List.cons_append,List.nil_append,List.getElem?_toArray,bN]at o0 o1 c0 c1; clear hw1 hw2; go_simp; rfl) ?_
        simp only[Act.put,aC,aD,aE];refine af 1 rfl (by kernel_rfl) (by kernel_rfl) (by kernel_rfl) (fun _ _ _ h=>h) rfl SE.out (by rintro w' ⟨hw1,hw2⟩; have o0:=ai (k:=0) hw1; have o1:=ai (k:=1) hw1; have c0:=ai (k:=0) hw2; have c1:=ai (k:=1) hw2; simp only[cB,cD,List.cons_append,List.nil_append,List.getElem?_toArray,bN]at o0 o1 c0 c1; clear hw1 hw2; go_simp; rfl) ?_
        simp only[Act.put,aC,aD,aE];refine af 2 rfl (by kernel_rfl) (by kernel_rfl) (by kernel_rfl) (fun _ _ _ h=>h) rfl SE.out (by rintro w' ⟨hw1,hw2⟩; have o0:=ai (k:=0) hw1; have o1:=ai (k:=1) hw1; have c0:=ai (k:=0) hw2; have c1:=ai (k:=1) hw2; simp only[cB,cD,List.cons_append,List.nil_append,List.getElem?_toArray,bN]at o0 o1 c0 c1; clear hw1 hw2; go_simp; rfl) ?_
        simp only[Act.put,aC,aD,aE];refine af 3 rfl (by kernel_rfl) (by kernel_rfl) (by kernel_rfl) (fun _ _ _ h=>h) rfl SE.out (by rintro w' ⟨hw1,hw2⟩; have o0:=ai (k:=0) hw1; have o1:=ai (k:=1) hw1; have c0:=ai (k:=0) hw2; have c1:=ai (k:=1) hw2; simp only[cB,cD,List.cons_append,List.nil_append,List.getElem?_toArray,bN]at o0 o1 c0 c1; clear hw1 hw2; go_simp; rfl) ?_
        simp only[Act.put,aC,aD,aE];refine af 4 rfl (by kernel_rfl) (by kernel_rfl) (by kernel_rfl) (fun _ _ _ h=>h) rfl SE.out (by rintro w' ⟨hw1,hw2⟩; have o0:=ai (k:=0) hw1; have o1:=ai (k:=1) hw1; have c0:=ai (k:=0) hw2; have c1:=ai (k:=1) hw2; simp only[cB,cD,List.cons_append,List.nil_append,List.getElem?_toArray,bN]at o0 o1 c0 c1; clear hw1 hw2; go_simp; rfl) ?_
        simp only[Act.put,aC,aD,aE];refine af 5 rfl (by kernel_rfl) (by kernel_rfl) (by kernel_rfl) (fun _ _ _ h=>h) rfl SE.out (by rintro w' ⟨hw1,hw2⟩; have o0:=ai (k:=0) hw1; have o1:=ai (k:=1) hw1; have c0:=ai (k:=0) hw2; have c1:=ai (k:=1) hw2; simp only[cB,cD,List.cons_append,List.nil_append,List.getElem?_toArray,bN]at o0 o1 c0 c1; clear hw1 hw2; go_simp; rfl) ?_
        simp only[Act.put,aC,aD,aE];refine af 6 rfl (by kernel_rfl) (by kernel_rfl) (by kernel_rfl) (fun _ _ _ h=>h) rfl SE.out (by rintro w' ⟨hw1,hw2⟩; have o0:=ai (k:=0) hw1; have o1:=ai (k:=1) hw1; have c0:=ai (k:=0) hw2; have c1:=ai (k:=1) hw2; simp only[cB,cD,List.cons_append,List.nil_append,List.getElem?_toArray,bN]at o0 o1 c0 c1; clear hw1 hw2; go_simp; rfl) ?_
        simp only[Act.put,aC,aD,aE];refine az 7 rfl (by kernel_rfl) rfl (fun K hK=> ?_);have hlen2:prev.files.length<=4096:=hlen;go_wp2_with (go_at_call 42; refine(lO (· <base) (fun i=>base<=i) prev ⟨tm,s.files⟩ (.slice fa fl fc) (.slice fva fvn fvc) WE HFP.out HFE.out hlen2 hsf).mono ?_; rintro e9 w9 ⟨cv,rfl,ho9,hb9⟩; obtain⟨va,vc,rfl,-,-⟩:=au ho9; have HO9:=ab ho9; have HB9:=ab hb9; have hz9:=hb9.size; clear ho9 hb9)
        obtain⟨vn,hvn⟩: ∃n,n=(iR prev.files s.files).length:=⟨_,rfl⟩;rw[<-hvn]at HO9 ⊢;have HVN:=ab hvn;clear hvn;have HC9:=ab (HCE.out.below HB9.out (by omega));have HBX9:=ab (show w9.heap[cb]? =some (.cells (cB ⟨tm,(.slice fva fvn fvc), .slice none 0 0,rd,kp,prev.tm,mb,c⟩ kb (.slice nva nvn nvc)).toArray 95 (0,0))from HC9.out.col.box);have S9:=ab (And.intro ((HB9.out.block _ (lt_of_block HXE.out)).trans HXE.out) HBX9.out)
        refine⟨S9.out, ?_⟩;refine af 8 rfl (by kernel_rfl) (by kernel_rfl) (by kernel_rfl) (fun _ _ _ h=>h) rfl S9.out (by rintro w' ⟨hw1,hw2⟩; have o0:=ai (k:=0) hw1; have o1:=ai (k:=1) hw1; have c0:=ai (k:=0) hw2; have c1:=ai (k:=1) hw2; simp only[cB,cD,List.cons_append,List.nil_append,List.getElem?_toArray,bN]at o0 o1 c0 c1; clear hw1 hw2; go_simp; rfl) ?_
        simp only[Act.put,aC,aD,aE];refine af 9 rfl (by kernel_rfl) (by kernel_rfl) (by kernel_rfl) (fun _ _ _ h=>h) rfl S9.out (by rintro w' ⟨hw1,hw2⟩; have o0:=ai (k:=0) hw1; have o1:=ai (k:=1) hw1; have c0:=ai (k:=0) hw2; have c1:=ai (k:=1) hw2; simp only[cB,cD,List.cons_append,List.nil_append,List.getElem?_toArray,bN]at o0 o1 c0 c1; clear hw1 hw2; go_simp; rfl) ?_
        simp only[Act.put,aC,aD,aE];refine af 10 rfl (by kernel_rfl) (by kernel_rfl) (by kernel_rfl) (fun _ _ _ h=>h) rfl S9.out (by rintro w' ⟨hw1,hw2⟩; have o0:=ai (k:=0) hw1; have o1:=ai (k:=1) hw1; have c0:=ai (k:=0) hw2; have c1:=ai (k:=1) hw2; simp only[cB,cD,List.cons_append,List.nil_append,List.getElem?_toArray,bN]at o0 o1 c0 c1; clear hw1 hw2; go_simp; rfl) ?_
        simp only[Act.put,aC,aD,aE];refine aZ (by kernel_rfl) ?_;refine dP rfl rfl (fun K hK=> ?_);have k2:=ai (k:=2) HBX9.out;have f2:=al (k:=2) HBX9.out;simp only[cB,cD,List.cons_append,List.nil_append,List.getElem?_toArray,bN]at k2
        go_upto_region 23 with fail
        obtain⟨WF,hWF⟩: ∃WF,WF=w9.setCell ⟨cb,2,none⟩ (.slice va vn vc):=⟨_,rfl⟩;rw[<-hWF];have HCF:=ab (show dh W0 WF base cb kb ⟨tm,(.slice fva fvn fvc),(.slice va vn vc),rd,kp,prev.tm,mb,c⟩ (.slice nva nvn nvc) prev.files s by
         rw[hWF];exact HC9.out.setq 2 (.slice va vn vc) (q':=⟨tm,(.slice fva fvn fvc),(.slice va vn vc),rd,kp,prev.tm,mb,c⟩) (by simp[cB]) rfl rfl rfl rfl rfl HC9.out.rd HC9.out.kp hcbb (by omega))
        have HOF:=ab (show WF.ownsRow WE.heap.size 60 2 (.slice va vn vc) vn (cr (iR prev.files s.files)) by
         rw[hWF];refine bz HO9.out (fun i hi hv=>Below.heap_setCell _ _ _ _ (fun e1=> ?_));obtain⟨cs2,hc2⟩:=aJ HO9.out hv;rw[e1]at hc2;exact absurd (aL HBX9.out hc2) (by decide))
        have HBXF:=ab (show WF.heap[cb]? =some (.cells (cB ⟨tm,(.slice fva fvn fvc),(.slice va vn vc),rd,kp,prev.tm,mb,c⟩ kb (.slice nva nvn nvc)).toArray 95 (0,0))from HCF.out.col.box);have hzF:=HCF.out.old.size;have HRF:=ab ((HCF.out.old.block _ (show w.heap.size+1+1<base by omega)).trans HR0.out);have m0:=ai (k:=0) HBXF.out;have m1:=ai (k:=1) HBXF.out;have m2:=ai (k:=2) HBXF.out
        have m3:=ai (k:=3) HBXF.out;have m4:=ai (k:=4) HBXF.out;have m5:=ai (k:=5) HBXF.out;simp only[cB,cD,List.cons_append,List.nil_append,List.getElem?_toArray,bN]at m0 m1 m2 m3 m4 m5;clear hWF k2 f2;have z0:=ai (k:=0) HRF.out;have z1:=ai (k:=1) HRF.out;have z2:=ai (k:=2) HRF.out;have z3:=ai (k:=3) HRF.out;have z4:=ai (k:=4) HRF.out
        have z5:=ai (k:=5) HRF.out;simp only[List.getElem?_toArray,bN]at z0 z1 z2 z3 z4 z5;have g0:=al (k:=0) HRF.out;have g1:=al (k:=1) HRF.out;have g2:=al (k:=2) HRF.out;have g3:=al (k:=3) HRF.out;have g4:=al (k:=4) HRF.out;have g5:=al (k:=5) HRF.out;go_wp2_with fail;refine jK HRF.out rfl rfl rfl ?_;have hzW:w.heap.size+3<=base:=by omega
        have hBWF:Below w.heap.size w WF:=(HBW.out.trans (HBZ.out.mono (by have:=HSZ.out; omega))).trans (HCF.out.old.mono (by omega));refine⟨lr hBWF (by omega) (by omega), ?_⟩;rw[HOUT.out];have hrd:rd=s.read:=HCF.out.rd;have hkp:kp=s.kept:=HCF.out.kp;refine⟨_,_,_,by rw[hrd,hkp]; rfl, ?_, ?_, ?_⟩
        ·exact(HCF.out.files.le (show w.heap.size<=base by omega)).same fun i cs2 t2 hi hib hc2 ht2=>uc (fun e1=>by
          rw[e1]at hc2;have h1:=aL HRF.out hc2
          rcases ht2 with⟨rfl,_⟩ | rfl
          ·exact absurd h1 (by decide)
          ·exact absurd h1 (by decide))
        ·rw[show(iR prev.files s.files).length=vn from HVN.out.symm];refine bz (bK HOF.out (by omega)) (fun i hi hv=>uc (fun e1=> ?_));have:=(HOF.out.lt i hv).1;omega
        ·exact(HCF.out.col.news.le (show w.heap.size<=base by omega)).same fun i cs2 t2 hi hib hc2 ht2=>uc (fun e1=>by
          rw[e1]at hc2;have h1:=aL HRF.out hc2
          rcases ht2 with ht2 | rfl
          ·obtain⟨ys,_,h3,_⟩:=HCF.out.col.news;obtain⟨cs3,h4⟩:=aJ h3 ht2;rw[e1]at h4;exact absurd (aL HRF.out h4) (by decide)
          ·exact absurd h1 (by decide))
     ·have HBAD:=ab (xg (tree:=tree) HOK.out HPE.out HZ.out hz0);have HR1:=ab ((HB4.out.block _ (lt_of_block HR.out)).trans HR.out);have z0:=ai (k:=0) HR1.out;have z1:=ai (k:=1) HR1.out;have z2:=ai (k:=2) HR1.out;have z3:=ai (k:=3) HR1.out;have z4:=ai (k:=4) HR1.out;have z5:=ai (k:=5) HR1.out;simp only[List.getElem?_toArray,bN]at z0 z1 z2 z3 z4 z5
      have g0:=al (k:=0) HR1.out;have g1:=al (k:=1) HR1.out;have g2:=al (k:=2) HR1.out;have g3:=al (k:=3) HR1.out;have g4:=al (k:=4) HR1.out;have g5:=al (k:=5) HR1.out;go_wp2_with fail;refine jK HR1.out rfl rfl rfl ?_;refine⟨lr (HBW.out.trans (HB4.out.mono (by have:=HSZ.out; omega))) (by omega) (by have:=HB4.out.size; have:=HSZ.out; omega), ?_⟩
      rw[HBAD.out];exact⟨rfl,hz0⟩
    ·have HBAD:=ab (uw (tree:=tree) HOK.out HPE.out hx);have HR1:=ab ((HB3.out.block _ (lt_of_block HR.out)).trans HR.out);have z0:=ai (k:=0) HR1.out;have z1:=ai (k:=1) HR1.out;have z2:=ai (k:=2) HR1.out;have z3:=ai (k:=3) HR1.out;have z4:=ai (k:=4) HR1.out;have z5:=ai (k:=5) HR1.out;simp only[List.getElem?_toArray,bN]at z0 z1 z2 z3 z4 z5
     have g0:=al (k:=0) HR1.out;have g1:=al (k:=1) HR1.out;have g2:=al (k:=2) HR1.out;have g3:=al (k:=3) HR1.out;have g4:=al (k:=4) HR1.out;have g5:=al (k:=5) HR1.out;go_wp2_with fail;refine jK HR1.out rfl rfl rfl ?_;refine⟨lr (HBW.out.trans (HB3.out.mono (by have:=HSZ.out; omega))) (by omega) (by have:=HB3.out.size; have:=HSZ.out; omega), ?_⟩
     rw[HBAD.out];exact⟨rfl,hx⟩
theorem Tryz.appParts22 :cI Tryz.prog 40 85 2 24:=cI.mk' (z:= .agg #[.string ⟨#[]⟩, .int .i64 0]) Tryz.underlying40 (by kernel_rfl) rfl (by decide) (by decide)
theorem BU {w:World} {b:Nat} {a0 a1 a2 a3 a4 a5 a6 x0 x1 x2 x3 x4 x5 x6:Value} {t:TypeId} (h:w.heap[b]? =some (.cells #[a0,a1,a2,a3,a4,a5,a6] t (0,0))):(((((((w.setCell ⟨b,0,none⟩ x0).setCell ⟨b,1,none⟩ x1).setCell ⟨b,2,none⟩ x2).setCell ⟨b,3,none⟩ x3).setCell ⟨b,4,none⟩ x4).setCell ⟨b,5,none⟩ x5).setCell ⟨b,6,none⟩ x6).heap[b]? =some (.cells #[x0,x1,x2,x3,x4,x5,x6] t (0,0)):=by
 have h7:=(heap_setCell_same _ b 6 _ _ x6 (heap_setCell_same _ b 5 _ _ x5 (heap_setCell_same _ b 4 _ _ x4 (heap_setCell_same _ b 3 _ _ x3 (heap_setCell_same _ b 2 _ _ x2 (heap_setCell_same _ b 1 _ _ x1 (heap_setCell_same _ b 0 _ _ x0 h)))))))
 simpa using h7
theorem vY {b k:Nat} {w:World} {x0 x1 x2 x3 x4 x5 x6:Value} (hk:k≠b):(((((((w.setCell ⟨b,0,none⟩ x0).setCell ⟨b,1,none⟩ x1).setCell ⟨b,2,none⟩ x2).setCell ⟨b,3,none⟩ x3).setCell ⟨b,4,none⟩ x4).setCell ⟨b,5,none⟩ x5).setCell ⟨b,6,none⟩ x6).heap[k]? =w.heap[k]? :=
 (Below.heap_setCell _ _ _ _ hk).trans ((Below.heap_setCell _ _ _ _ hk).trans ((Below.heap_setCell _ _ _ _ hk).trans ((Below.heap_setCell _ _ _ _ hk).trans ((Below.heap_setCell _ _ _ _ hk).trans ((Below.heap_setCell _ _ _ _ hk).trans (Below.heap_setCell _ _ _ _ hk))))))
theorem tB {B b:Nat} {a w:World} {x0 x1 x2 x3 x4 x5 x6:Value} (h:Below B a w) (hb:B<=b):Below B a (((((((w.setCell ⟨b,0,none⟩ x0).setCell ⟨b,1,none⟩ x1).setCell ⟨b,2,none⟩ x2).setCell ⟨b,3,none⟩ x3).setCell ⟨b,4,none⟩ x4).setCell ⟨b,5,none⟩ x5).setCell ⟨b,6,none⟩ x6):=
 (Below.setCell (Below.setCell (Below.setCell (Below.setCell (Below.setCell (Below.setCell (Below.setCell h hb _) hb _) hb _) hb _) hb _) hb _) hb _)
theorem su (l:List bC) (p:bC):bh (l++[p])=bh l++me p:=by simp[bh]
structure BP (w W2 wr : World) (b : Nat) (f : ay) (v : Value) (k : Nat) : Prop where
 below:Below b W2 wr
 box:wr.heap[b]? =some (.cells (bO v f).toArray 42 (0,0))
 own:wr.ownsRow w.heap.size 85 2 v k (bh (f.parts.take k))
theorem tM (S:Nat->Prop) (f:ay) (pv:Value) (w:World) (hp:aK S w pv f.parts) (hn2:f.parts.length<=1048576):Calls Tryz.prog 17 #[dZ pv f] w fun e w'=> ∃pv2,e= .returned (dZ pv2 f)/\w'.ownsRow w.heap.size 85 2 pv2 f.parts.length (bh f.parts)/\Below w.heap.size w w':=by
 obtain⟨a,cap,rfl,hc,hm,-⟩:=aR.shape hp dq.len;have HP:=ab hp;clear hp;obtain⟨n,hn⟩: ∃n,n=f.parts.length:=⟨_,rfl⟩;rw[<-hn]at HP hn2 ⊢;have HN:=ab hn;clear hn hc hm;unfold dZ
 go_enter Tryz.func17,Tryz.ntmps17
 go_upto_region 2 with fail
 obtain⟨W2,hW2⟩: ∃W2,W2=((w.alloc (.cells #[.string f.path, .int .i64 f.kind, .int .i64 f.mode, .int .i64 f.time, .int .i64 f.size, .string f.link, .slice a n cap] 27)).alloc (.cells #[.string ⟨#[]⟩, .int .i64 0, .int .i64 0, .int .i64 0, .int .i64 0, .string ⟨#[]⟩, .slice none 0 0] 42)).alloc (.cells #[.string f.path, .int .i64 f.kind, .int .i64 f.mode, .int .i64 f.time, .int .i64 f.size, .string f.link, .slice none 0 0] 42):=⟨_,rfl⟩
 rw[<-hW2];have hzw:W2.heap.size=w.heap.size+3:=by rw[hW2]; simp
 have HBW:=ab (show Below w.heap.size w W2 by rw[hW2]; exact(((Below.refl _ _).alloc (Nat.le_refl _) _).alloc (by simp) _).alloc (by simp; omega) _);have HX:=ab (show W2.heap[w.heap.size]? =some (.cells #[.string f.path, .int .i64 f.kind, .int .i64 f.mode, .int .i64 f.time, .int .i64 f.size, .string f.link, .slice a n cap] 27 (0,0)) by
  rw[hW2,heap_alloc_old _ _ (by simp; omega),heap_alloc_old _ _ (by simp)]; exact heap_alloc_new w _)
 have HR:=ab (show W2.heap[w.heap.size+1]? =some (.cells #[.string ⟨#[]⟩, .int .i64 0, .int .i64 0, .int .i64 0, .int .i64 0, .string ⟨#[]⟩, .slice none 0 0] 42 (0,0)) by
  rw[hW2,heap_alloc_old _ _ (by simp)];have h:=heap_alloc_new (w.alloc (.cells #[.string f.path, .int .i64 f.kind, .int .i64 f.mode, .int .i64 f.time, .int .i64 f.size, .string f.link, .slice a n cap] 27)) (.cells #[.string ⟨#[]⟩, .int .i64 0, .int .i64 0, .int .i64 0, .int .i64 0, .string ⟨#[]⟩, .slice none 0 0] 42);rw[show(w.alloc (.cells #[.string f.path, .int .i64 f.kind, .int .i64 f.mode, .int .i64 f.time, .int .i64 f.size, .string f.link, .slice a n cap] 27)).heap.size=w.heap.size+1 by simp]at h; exact h)
 have HY:=ab (show W2.heap[w.heap.size+1+1]? =some (.cells (bO (.slice none 0 0) f).toArray 42 (0,0)) by
  rw[hW2];have h:=heap_alloc_new ((w.alloc (.cells #[.string f.path, .int .i64 f.kind, .int .i64 f.mode, .int .i64 f.time, .int .i64 f.size, .string f.link, .slice a n cap] 27)).alloc (.cells #[.string ⟨#[]⟩, .int .i64 0, .int .i64 0, .int .i64 0, .int .i64 0, .string ⟨#[]⟩, .slice none 0 0] 42)) (.cells #[.string f.path, .int .i64 f.kind, .int .i64 f.mode, .int .i64 f.time, .int .i64 f.size, .string f.link, .slice none 0 0] 42)
  rw[show((w.alloc (.cells #[.string f.path, .int .i64 f.kind, .int .i64 f.mode, .int .i64 f.time, .int .i64 f.size, .string f.link, .slice a n cap] 27)).alloc (.cells #[.string ⟨#[]⟩, .int .i64 0, .int .i64 0, .int .i64 0, .int .i64 0, .string ⟨#[]⟩, .slice none 0 0] 42)).heap.size=w.heap.size+1+1 by simp]at h; exact h)
 have HP2:=ab (HP.out.below HBW.out);have hzl:=hzw;clear hW2 hzw;go_wp2_with fail
 go_loopw [4] (fun i wr=> ∃(k:Nat) (v:Value),k<=n/\i= .int .i64 k/\BP w W2 wr (w.heap.size+1+1) f v k) (fun i _=>n-(intOf i).toNat)
 case atStart=>exact⟨0, .slice none 0 0,Nat.zero_le _,rfl,⟨Below.refl _ _,HY.out,World.ownsRow_nil _ _ _ _⟩⟩
 case round=>
  obtain⟨k,v,hk,rfl,hfo⟩:=hrel;have HFO:=ab hfo;have p6:=(hfo.below.cell (p:=⟨w.heap.size,6,none⟩) (by show w.heap.size<w.heap.size+1+1; omega)).trans (ai (k:=6) HX.out);have hzr:=hfo.below.size;simp only[List.getElem?_toArray,bN]at p6;clear hfo
  by_cases hlt:k<n
  ·obtain⟨p,hpk⟩: ∃p,f.parts[k]? =some p:=⟨_,List.getElem?_eq_getElem (show k<f.parts.length by rw[<-HN.out]; exact hlt)⟩;obtain⟨va,vc,rfl,-,-⟩:=au HFO.out.own
   go_upto_region 5 with fail
   obtain⟨W5,hW5⟩: ∃W5:World,W5=wr.drew:=⟨_,rfl⟩;have HB5:=ab (show Below wr.heap.size wr W5 by rw[hW5]; exact(Below.refl _ _).drew);have HBr:=ab (show Below w.heap.size w wr from HBW.out.trans (HFO.out.below.mono (by omega)));obtain⟨pb,po,hpa,-,hpb,hpok,q0,q1⟩:=dS HP.out (HBr.out.trans (HB5.out.mono HBr.out.size)) hpk;subst hpa;have hb2:w.heap.size+1+1<wr.heap.size:=lt_of_block HFO.out.box
   have k6:=(HB5.out.cell (p:=⟨w.heap.size+1+1,6,none⟩) hb2).trans (ai (k:=6) HFO.out.box);have p6':=(HB5.out.cell (p:=⟨w.heap.size,6,none⟩) (by show w.heap.size<wr.heap.size; omega)).trans p6;have e6:(bO (.slice va k vc) f).toArray[6]? =some (.slice va k vc):=rfl;rw[e6]at k6;have S5:=ab (And.intro k6 (And.intro p6' (And.intro q0 q1)));have HO5:=ab (aM HFO.out.own HB5.out)
   have HY5:=ab ((HB5.out.block _ hb2).trans HFO.out.box);have hz5:=HB5.out.size;have HPK:=ab hpk;clear e6 k6 p6 p6' q0 q1 hpk;refine dF (fun w'=>w'.cell? ⟨w.heap.size+1+1,6,none⟩=some (.slice va k vc)/\w'.cell? ⟨w.heap.size,6,none⟩=some (.slice (some ⟨pb,po,none⟩) n cap)/\w'.cell? ⟨pb,po+k*2,none⟩=some (.string p.sum)/\w'.cell? ⟨pb,po+k*2+1,none⟩=some (.int .i64 p.size)) (by kernel_rfl) (by kernel_rfl) ?_
   simp only[List.dropLast_cons_cons,List.dropLast_singleton,List.length_cons,List.length_nil,Nat.reduceAdd,Nat.reduceSub];rw[<-hW5];clear hW5;refine af 0 rfl (by kernel_rfl) (by kernel_rfl) (by kernel_rfl) (fun _ _ _ h=>h) rfl S5.out (by rintro w' ⟨hw1,hw2,hw3,hw4⟩; go_simp; rfl) ?_;simp only[Act.put,aC,aD,aE];refine af 1 rfl (by kernel_rfl) (by kernel_rfl) (by kernel_rfl) (fun _ _ _ h=>h) rfl S5.out (by rintro w' ⟨hw1,hw2,hw3,hw4⟩; go_simp; rfl) ?_
   simp only[Act.put,aC,aD,aE];refine af 2 rfl (by kernel_rfl) (by kernel_rfl) (by kernel_rfl) (fun _ _ _ h=>h) rfl S5.out (by rintro w' ⟨hw1,hw2,hw3,hw4⟩; go_simp; rfl) ?_;simp only[Act.put,aC,aD,aE];refine af 3 rfl (by kernel_rfl) (by kernel_rfl) (by kernel_rfl) (fun _ _ _ h=>h) rfl S5.out (by rintro w' ⟨hw1,hw2,hw3,hw4⟩; go_simp; rfl) ?_;simp only[Act.put,aC,aD,aE]
   refine af 4 rfl (by kernel_rfl) (by kernel_rfl) (by kernel_rfl) (fun _ _ _ h=>h) rfl S5.out (by rintro w' ⟨hw1,hw2,hw3,hw4⟩; go_simp; rfl) ?_;simp only[Act.put,aC,aD,aE];refine af 5 rfl (by kernel_rfl) (by kernel_rfl) (by kernel_rfl) (fun _ _ _ h=>h) rfl S5.out (by rintro w' ⟨hw1,hw2,hw3,hw4⟩; go_simp; rfl) ?_;simp only[Act.put,aC,aD,aE];refine af 6 rfl (by kernel_rfl) (by kernel_rfl) (by kernel_rfl) (fun _ _ _ h=>h) rfl S5.out (by rintro w' ⟨hw1,hw2,hw3,hw4⟩; go_simp; rfl) ?_
   simp only[Act.put,aC,aD,aE];refine az 7 rfl (by kernel_rfl) rfl (fun K hK=> ?_);go_wp2_with fail;have hal:=(Below.refl W5.heap.size W5).alloc (Nat.le_refl _) (.cells #[.string p.sum, .int .i64 p.size] 85);refine⟨⟨(hal.cell (p:=⟨w.heap.size+1+1,6,none⟩) (by show w.heap.size+1+1<W5.heap.size; omega)).trans S5.out.1,(hal.cell (p:=⟨w.heap.size,6,none⟩) (by show w.heap.size<W5.heap.size; omega)).trans S5.out.2.1,(hal.cell (p:=⟨pb,po+k*2,none⟩) (by show pb<W5.heap.size; omega)).trans S5.out.2.2.1,(hal.cell (p:=⟨pb,po+k*2+1,none⟩) (by show pb<W5.heap.size; omega)).trans S5.out.2.2.2⟩, ?_⟩
   refine az 8 rfl (by kernel_rfl) rfl (fun K hK=> ?_);go_wp2_with (at_builtin; go_must (refine bU Tryz.appParts22 rfl _ _ rfl w.heap.size (.slice va k vc) k (bh (f.parts.take k)) rfl W5 [.string p.sum, .int .i64 p.size] _ rfl rfl (by simp[Value.oneCell']) HO5.out (by omega) (by omega) ?_); intro vp wc hown3 hg3 _ hpl3; obtain⟨ea,ec,rfl,-,-⟩:=au hown3);have HX5:=ab ((HB5.out.block _ (by omega)).trans ((HFO.out.below.block w.heap.size (by omega)).trans HX.out))
   have HR5:=ab ((HB5.out.block _ (by omega)).trans ((HFO.out.below.block (w.heap.size+1) (by omega)).trans HR.out));have n0:(Value.slice va k vc).ownBlock≠some w.heap.size:=fun e1=>by
    obtain⟨cs2,hc2⟩:=aJ HO5.out e1;exact absurd (aL HX5.out hc2) (by decide)
   have n1:(Value.slice va k vc).ownBlock≠some (w.heap.size+1):=fun e1=>by
    obtain⟨cs2,hc2⟩:=aJ HO5.out e1;exact absurd (aL HR5.out hc2) (by decide)
   have n2:(Value.slice va k vc).ownBlock≠some (w.heap.size+1+1):=fun e1=>by
    obtain⟨cs2,hc2⟩:=aJ HO5.out e1;exact absurd (aL HY5.out hc2) (by decide)
   have n3:(Value.slice va k vc).ownBlock≠some pb:=fun e1=>by
    have:=(HO5.out.lt pb e1).1;omega
   have wcell: ∀i j,i<W5.heap.size->(Value.slice va k vc).ownBlock≠some i->wc.cell? ⟨i,j,none⟩=W5.cell? ⟨i,j,none⟩:=fun i j hi hne=>World.cell?_of_block (hg3.block i hi (fun e1=>hne e1.symm))
   have HYc:=ab ((hg3.block _ (lt_of_block HY5.out) (fun e1=>n2 e1.symm)).trans HY5.out);have hzc:=hg3.size;have HBc:=ab (show Below (w.heap.size+1+1) W2 wc from(HFO.out.below.trans (HB5.out.mono (by omega))).grown hg3 (by omega) (fun i e1=>by
    have h1:=(HO5.out.lt i e1).1;have h2:i≠w.heap.size:=fun e2=>n0 (e2▸e1)
    have h3:i≠w.heap.size+1:=fun e2=>n1 (e2▸e1)
    omega))
   have HOc:=ab (show wc.ownsRow w.heap.size 85 2 (.slice ea (k+1) ec) (k+1) (bh (f.parts.take (k+1))) by
    rw[aX HPK.out,su]; exact hown3)
   have SC:=ab (show wc.cell? ⟨w.heap.size+1+1,6,none⟩=some (.slice va k vc)/\wc.cell? ⟨w.heap.size,6,none⟩=some (.slice (some ⟨pb,po,none⟩) n cap)/\wc.cell? ⟨pb,po+k*2,none⟩=some (.string p.sum)/\wc.cell? ⟨pb,po+k*2+1,none⟩=some (.int .i64 p.size)from
    ⟨(wcell _ _ (by omega) n2).trans S5.out.1,(wcell _ _ (by omega) n0).trans S5.out.2.1,(wcell _ _ (by omega) n3).trans S5.out.2.2.1,(wcell _ _ (by omega) n3).trans S5.out.2.2.2⟩)
   have k6:=SC.out.1;have f6:wc.frozen? ⟨w.heap.size+1+1,6,none⟩=false:=al (k:=6) HYc.out;clear hown3 hg3 hpl3 n0 n1 n2 n3 wcell hal;refine⟨SC.out, ?_⟩;refine af 9 rfl (by kernel_rfl) (by kernel_rfl) (by kernel_rfl) (fun _ _ _ h=>h) rfl SC.out (by rintro w' ⟨hw1,hw2,hw3,hw4⟩; go_simp; rfl) ?_;simp only[Act.put,aC,aD,aE];refine aZ (by kernel_rfl) ?_;refine dP rfl rfl (fun K hK=> ?_)
   go_wp2_with fail
   go_roundw
   case rel=>
    refine⟨k+1, .slice ea (k+1) ec,by omega,rfl,⟨HBc.out.setCell (by show w.heap.size+1+1<=w.heap.size+1+1; omega) _, ?_,bz HOc.out (fun i hi hv=> ?_)⟩⟩
    ·rw[heap_setCell_same _ _ _ _ _ _ HYc.out]; rfl
    ·refine heap_setCell_other _ _ _ _ (fun e1=> ?_);obtain⟨cs2,hc2⟩:=aJ HOc.out hv;rw[show i=w.heap.size+1+1 from e1]at hc2;exact absurd (aL HYc.out hc2) (by decide)
   case measure=>simp only[intOf,Int.toNat_natCast]; omega
  ·have hkn:k=n:=by omega
   subst hkn;obtain⟨va,vc,rfl,-,-⟩:=au HFO.out.own;have HYr:=ab HFO.out.box;have HRr:=ab ((HFO.out.below.block (w.heap.size+1) (by omega)).trans HR.out);have y0:=ai (k:=0) HYr.out;have y1:=ai (k:=1) HYr.out;have y2:=ai (k:=2) HYr.out;have y3:=ai (k:=3) HYr.out;have y4:=ai (k:=4) HYr.out;have y5:=ai (k:=5) HYr.out;have y6:=ai (k:=6) HYr.out
   simp only[bO,List.getElem?_toArray,bN]at y0 y1 y2 y3 y4 y5 y6;have r0:=ai (k:=0) HRr.out;have r1:=ai (k:=1) HRr.out;have r2:=ai (k:=2) HRr.out;have r3:=ai (k:=3) HRr.out;have r4:=ai (k:=4) HRr.out;have r5:=ai (k:=5) HRr.out;have r6:=ai (k:=6) HRr.out;simp only[List.getElem?_toArray,bN]at r0 r1 r2 r3 r4 r5 r6;have f0:wr.frozen? ⟨w.heap.size+1,0,none⟩=false:=al (k:=0) HRr.out
   have f1:wr.frozen? ⟨w.heap.size+1,1,none⟩=false:=al (k:=1) HRr.out;have f2:wr.frozen? ⟨w.heap.size+1,2,none⟩=false:=al (k:=2) HRr.out;have f3:wr.frozen? ⟨w.heap.size+1,3,none⟩=false:=al (k:=3) HRr.out;have f4:wr.frozen? ⟨w.heap.size+1,4,none⟩=false:=al (k:=4) HRr.out;have f5:wr.frozen? ⟨w.heap.size+1,5,none⟩=false:=al (k:=5) HRr.out
   have f6:wr.frozen? ⟨w.heap.size+1,6,none⟩=false:=al (k:=6) HRr.out;go_wp2_with fail;have hn1:(Value.slice va k vc).ownBlock≠some (w.heap.size+1):=fun e1=>by
    obtain⟨cs2,hc2⟩:=aJ HFO.out.own e1;exact absurd (aL HRr.out hc2) (by decide)
   have HFIN:=ab (bz HFO.out.own (fun i _ hv=>vY (b:=w.heap.size+1) (x0:= .string f.path) (x1:= .int .i64 f.kind) (x2:= .int .i64 f.mode) (x3:= .int .i64 f.time) (x4:= .int .i64 f.size) (x5:= .string f.link) (x6:= .slice va k vc) (fun e1=>hn1 (e1▸hv))));have HBF:=ab (HBW.out.trans (HFO.out.below.mono (show w.heap.size<=w.heap.size+1+1 by omega)));have htk:f.parts.take k=f.parts:=List.take_of_length_le (by rw[<-HN.out]; exact Nat.le_refl _)
   rw[htk]at HFIN;refine bodyPost_ret (results_cell_row rfl _ _ (w.heap.size+1) _ _ _ _ rfl (BU HRr.out) Tryz.underlying42 rfl (by kernel_rfl)) rfl ?_;exact⟨_,rfl,HFIN.out,tB HBF.out (by omega)⟩
structure am (w : World) (base : Nat) (fv : Value) (fs : List ay) : Prop where
 row: ∃zs:List jR,zs.map Prod.snd=fs/\w.ownsRow base 42 7 fv zs.length (dg zs)/\ ∀z∈zs,w.ownsRow base 85 2 z.1 z.2.parts.length (bh z.2.parts)/\du z.2/\ ∀p∈z.2.parts,dd p
theorem am.nil (w:World) (base:Nat):am w base (.slice none 0 0) []:=⟨[],rfl,World.ownsRow_nil _ _ _ _,by simp⟩
theorem am.at {w:World} {base:Nat} {fv:Value} {fs:List ay} (h:am w base fv fs):aO (fun k=>base<=k) w fv fs:=by
 obtain⟨zs,rfl,h2,h3⟩:=h.row;refine⟨dg zs, ?_,iV fun z hz=>⟨?_,(h3 z hz).2.1⟩⟩
 ·rw[List.length_map];exact(bm h2).weak fun k hk=>hk.1
 ·exact⟨_,(bm (h3 z hz).1).weak fun k hk=>hk.1,eC (h3 z hz).2.2⟩
theorem am.same {w w':World} {base:Nat} {fv:Value} {fs:List ay} (h:am w base fv fs) (hs: ∀k cs t,k<w.heap.size->base<=k->w.heap[k]? =some (.cells cs t (0,0))->((t=42/\fv.ownBlock=some k)\/t=85)->w'.heap[k]? =w.heap[k]?):am w' base fv fs:=by
 obtain⟨zs,h1,h2,h3⟩:=h.row;refine⟨zs,h1,bz h2 (fun k hk hv=> ?_),fun z hz=>⟨bz (h3 z hz).1 (fun k hk hv=> ?_),(h3 z hz).2⟩⟩
 ·obtain⟨cs,hc⟩:=aJ h2 hv;exact hs k cs _ hk (h2.lt k hv).1 hc (.inl ⟨rfl,hv⟩)
 ·obtain⟨cs,hc⟩:=aJ (h3 z hz).1 hv;exact hs k cs _ hk ((h3 z hz).1.lt k hv).1 hc (.inr rfl)
theorem am.below {w w':World} {base:Nat} {fv:Value} {fs:List ay} (h:am w base fv fs) (hb:Below w.heap.size w w'):am w' base fv fs:=h.same fun k _ _ hk _ _ _=>hb.block k hk
theorem am.le {w:World} {base B:Nat} {fv:Value} {fs:List ay} (h:am w base fv fs) (hb:B<=base):am w B fv fs:=by
 obtain⟨zs,h1,h2,h3⟩:=h.row;exact⟨zs,h1,bK h2 hb,fun z hz=>⟨bK (h3 z hz).1 hb,(h3 z hz).2⟩⟩
theorem Tryz.appFiles22 :cI Tryz.prog 34 42 7 88:=cI.mk' (z:=lp) Tryz.underlying34 (by kernel_rfl) rfl (by decide) (by decide)
theorem zv {w:World} (o p q:Obj):Below w.heap.size w (((w.alloc o).alloc p).alloc q)/\(((w.alloc o).alloc p).alloc q).heap.size=w.heap.size+3/\(((w.alloc o).alloc p).alloc q).heap[w.heap.size]? =some o/\(((w.alloc o).alloc p).alloc q).heap[w.heap.size+1]? =some p/\(((w.alloc o).alloc p).alloc q).heap[w.heap.size+1+1]? =some q:=by
 have e1:(w.alloc o).heap.size=w.heap.size+1:=by simp
 have e2:((w.alloc o).alloc p).heap.size=w.heap.size+1+1:=by simp
 refine⟨(((Below.refl _ _).alloc (Nat.le_refl _) _).alloc (by omega) _).alloc (by omega) _,by simp, ?_, ?_, ?_⟩
 ·rw[heap_alloc_old _ _ (by omega),heap_alloc_old _ _ (by omega)]; exact heap_alloc_new w _
 ·rw[heap_alloc_old _ _ (by omega),<-e1]; exact heap_alloc_new _ _
 ·rw[<-e2]; exact heap_alloc_new _ _
theorem dE {w:World} {b:Nat} {a0 a1 x0 x1:Value} {t:TypeId} (h:w.heap[b]? =some (.cells #[a0,a1] t (0,0))):((w.setCell ⟨b,0,none⟩ x0).setCell ⟨b,1,none⟩ x1).heap[b]? =some (.cells #[x0,x1] t (0,0)):=by
 have h2:=heap_setCell_same _ b 1 _ _ x1 (heap_setCell_same _ b 0 _ _ x0 h)
 simpa using h2
structure BQ (w W2 wr : World) (b : Nat) (x : cJ) (v : Value) (k : Nat) : Prop where
 below:Below b W2 wr
 box:wr.heap[b]? =some (.cells #[.int .i64 x.tm,v] 36 (0,0))
 own:am wr w.heap.size v (x.files.take k)
theorem bH (S:Nat->Prop) (x:cJ) (fv:Value) (w:World) (hx:aO S w fv x.files) (hlen:x.files.length<=1048576) (hpl: ∀f∈x.files,f.parts.length<=1048576) (hpo: ∀f∈x.files,∀p∈f.parts,dd p):Calls Tryz.prog 14 #[cG fv x.tm] w fun e w'=> ∃fv2,e= .returned (cG fv2 x.tm)/\am w' w.heap.size fv2 x.files/\Below w.heap.size w w':=by
 obtain⟨a,cap,rfl,hc,hm,-⟩:=aR.shape hx dj.len;have HX0:=ab hx;have HPL:=ab hpl;have HPO:=ab hpo;clear hx hpl hpo;obtain⟨n,hn⟩: ∃n,n=x.files.length:=⟨_,rfl⟩;rw[<-hn]at HX0 hlen ⊢;have HN:=ab hn;clear hn hc hm;unfold cG
 go_enter Tryz.func14,Tryz.ntmps14
 go_upto_region 2 with fail
 obtain⟨W2,hW2⟩: ∃W2,W2=((w.alloc (.cells #[.int .i64 x.tm, .slice a n cap] 24)).alloc (.cells #[.int .i64 0, .slice none 0 0] 36)).alloc (.cells #[.int .i64 x.tm, .slice none 0 0] 36):=⟨_,rfl⟩;rw[<-hW2];obtain⟨hb,hzl,hX,hR,hY⟩:=zv (w:=w) (.cells #[.int .i64 x.tm, .slice a n cap] 24) (.cells #[.int .i64 0, .slice none 0 0] 36) (.cells #[.int .i64 x.tm, .slice none 0 0] 36)
 rw[<-hW2]at hb hzl hX hR hY;have HBW:=ab hb;have HX:=ab hX;have HR:=ab hR;have HY:=ab hY;clear hW2 hb hX hR hY;go_wp2_with fail
 go_loopw [4] (fun i wr=> ∃(k:Nat) (v:Value),k<=n/\i= .int .i64 k/\BQ w W2 wr (w.heap.size+1+1) x v k) (fun i _=>n-(intOf i).toNat)
 case atStart=>exact⟨0, .slice none 0 0,Nat.zero_le _,rfl,⟨Below.refl _ _,HY.out,am.nil _ _⟩⟩
 case round=>
  obtain⟨k,v,hk,rfl,hfo⟩:=hrel;have HFO:=ab hfo;have p1:=(hfo.below.cell (p:=⟨w.heap.size,1,none⟩) (by show w.heap.size<w.heap.size+1+1; omega)).trans (ai (k:=1) HX.out);have hzr:=hfo.below.size;simp only[List.getElem?_toArray,bN]at p1;clear hfo
  by_cases hlt:k<n
  ·obtain⟨f,hfk⟩: ∃f,x.files[k]? =some f:=⟨_,List.getElem?_eq_getElem (show k<x.files.length by rw[<-HN.out]; exact hlt)⟩;obtain⟨zs,hzs,hzo,hzp⟩:=HFO.out.own.row;have hzl2:zs.length=k:=by
    have h1:=congrArg List.length hzs;rw[List.length_map,List.length_take,<-HN.out]at h1; omega
   have HZS:=ab hzs;have HZP:=ab hzp;rw[hzl2]at hzo;obtain⟨va,vc,rfl,-,-⟩:=au hzo;have HZO:=ab hzo;clear hzs hzp hzo
   go_upto_region 5 with fail
   obtain⟨W5,hW5⟩: ∃W5:World,W5=wr.drew:=⟨_,rfl⟩;have HB5:=ab (show Below wr.heap.size wr W5 by rw[hW5]; exact(Below.refl _ _).drew);have HBr:=ab (show Below w.heap.size w wr from HBW.out.trans (HFO.out.below.mono (by omega)));have HB05:=ab (HBr.out.trans (HB5.out.mono HBr.out.size));obtain⟨pb,po,pa,pc,hpa,hfok,hpp,hpb,-,hcl⟩:=cj HX0.out HB05.out hfk;subst hpa
   have HPP:=ab hpp;have hb2:w.heap.size+1+1<wr.heap.size:=lt_of_block HFO.out.box;have k1:=(HB5.out.cell (p:=⟨w.heap.size+1+1,1,none⟩) hb2).trans (ai (k:=1) HFO.out.box);have p1':=(HB5.out.cell (p:=⟨w.heap.size,1,none⟩) (by show w.heap.size<wr.heap.size; omega)).trans p1;simp only[List.getElem?_toArray,bN]at k1;have S5:=ab (And.intro k1 (And.intro p1' hcl))
   have HO5:=ab (aM HZO.out HB5.out);have HY5:=ab ((HB5.out.block _ hb2).trans HFO.out.box);have hz5:=HB5.out.size;have HFK:=ab hfk;have HOK:=ab hfok;clear k1 p1 p1' hcl hfk hfok hpp;refine dF (fun w'=>w'.cell? ⟨w.heap.size+1+1,1,none⟩=some (.slice va k vc)/\w'.cell? ⟨w.heap.size,1,none⟩=some (.slice (some ⟨pb,po,none⟩) n cap)/\ ∀j,j<7->w'.cell? ⟨pb,po+k*7+j,none⟩=(bO (.slice pa f.parts.length pc) f)[j]?) (by kernel_rfl) (by kernel_rfl) ?_
   simp only[List.dropLast_cons_cons,List.dropLast_singleton,List.length_cons,List.length_nil,Nat.reduceAdd,Nat.reduceSub];rw[<-hW5];clear hW5;refine af 0 rfl (by kernel_rfl) (by kernel_rfl) (by kernel_rfl) (fun _ _ _ h=>h) rfl S5.out (by rintro w' ⟨hw1,hw2,hw3⟩; go_simp; rfl) ?_;simp only[Act.put,aC,aD,aE];refine af 1 rfl (by kernel_rfl) (by kernel_rfl) (by kernel_rfl) (fun _ _ _ h=>h) rfl S5.out (by rintro w' ⟨hw1,hw2,hw3⟩; go_simp; rfl) ?_
   simp only[Act.put,aC,aD,aE];refine af 2 rfl (by kernel_rfl) (by kernel_rfl) (by kernel_rfl) (fun _ _ _ h=>h) rfl S5.out (by rintro w' ⟨hw1,hw2,hw3⟩; go_simp; rfl) ?_;simp only[Act.put,aC,aD,aE];refine af 3 rfl (by kernel_rfl) (by kernel_rfl) (by kernel_rfl) (fun _ _ _ h=>h) rfl S5.out (by rintro w' ⟨hw1,hw2,hw3⟩; go_simp; rfl) ?_;simp only[Act.put,aC,aD,aE]
   refine af 4 rfl (by kernel_rfl) (by kernel_rfl) (by kernel_rfl) (fun _ _ _ h=>h) rfl S5.out (by rintro w' ⟨hw1,hw2,hw3⟩; go_simp; rfl) ?_;simp only[Act.put,aC,aD,aE];refine af 5 rfl (by kernel_rfl) (by kernel_rfl) (by kernel_rfl) (fun _ _ _ h=>h) rfl S5.out (by rintro w' ⟨hw1,hw2,hw3⟩; go_simp; rfl) ?_;simp only[Act.put,aC,aD,aE];refine af 6 rfl (by kernel_rfl) (by kernel_rfl) (by kernel_rfl) (fun _ _ _ h=>h) rfl S5.out (by rintro w' ⟨hw1,hw2,hw3⟩; have o0:=hw3 0 (by omega); have o1:=hw3 1 (by omega); have o2:=hw3 2 (by omega); have o3:=hw3 3 (by omega); have o4:=hw3 4 (by omega); have o5:=hw3 5 (by omega); have o6:=hw3 6 (by omega); simp only[bO,bN,Nat.add_zero]at o0 o1 o2 o3 o4 o5 o6; clear hw3; go_simp; rfl) ?_
   simp only[Act.put,aC,aD,aE];refine az 7 rfl (by kernel_rfl) rfl (fun K hK=> ?_);go_wp2_with (refine(tM _ f (.slice pa f.parts.length pc) _ (HPP.out) (HPL.out f (List.mem_of_getElem? HFK.out))).mono ?_; rintro e w6 ⟨pv2,rfl,ho6,hb6⟩; obtain⟨qa,qc,rfl,-,-⟩:=au ho6; unfold dZ; have HO6:=ab ho6; have HB6:=ab hb6; clear ho6 hb6);have hb6:=HB6.out;have hz6:=hb6.size
   have hb3:w.heap.size+1+1<W5.heap.size:=by omega
   have S6:=ab (show w6.cell? ⟨w.heap.size+1+1,1,none⟩=some (.slice va k vc)/\w6.cell? ⟨w.heap.size,1,none⟩=some (.slice (some ⟨pb,po,none⟩) n cap)/\ ∀j,j<7->w6.cell? ⟨pb,po+k*7+j,none⟩=(bO (.slice pa f.parts.length pc) f)[j]? from
    ⟨(hb6.cell (p:=⟨w.heap.size+1+1,1,none⟩) hb3).trans S5.out.1,(hb6.cell (p:=⟨w.heap.size,1,none⟩) (by show w.heap.size<W5.heap.size; omega)).trans S5.out.2.1,fun j hj=>(hb6.cell (p:=⟨pb,po+k*7+j,none⟩) (by show pb<W5.heap.size; omega)).trans (S5.out.2.2 j hj)⟩)
   clear hb6;refine⟨S6.out, ?_⟩;refine az 8 rfl (by kernel_rfl) rfl (fun K hK=> ?_);go_wp2_with fail;have hal:=(Below.refl w6.heap.size w6).alloc (Nat.le_refl _) (.cells #[.string f.path, .int .i64 f.kind, .int .i64 f.mode, .int .i64 f.time, .int .i64 f.size, .string f.link, .slice qa f.parts.length qc] 42);refine⟨⟨(hal.cell (p:=⟨w.heap.size+1+1,1,none⟩) (by show w.heap.size+1+1<w6.heap.size; omega)).trans S6.out.1,(hal.cell (p:=⟨w.heap.size,1,none⟩) (by show w.heap.size<w6.heap.size; omega)).trans S6.out.2.1,fun j hj=>(hal.cell (p:=⟨pb,po+k*7+j,none⟩) (by show pb<w6.heap.size; omega)).trans (S6.out.2.2 j hj)⟩, ?_⟩
   refine az 9 rfl (by kernel_rfl) rfl (fun K hK=> ?_);have HZ6:=ab (aM HO5.out HB6.out);go_wp2_with (at_builtin; go_must (refine bU Tryz.appFiles22 rfl _ _ rfl w.heap.size (.slice va k vc) k (dg zs) rfl w6 [.string f.path, .int .i64 f.kind, .int .i64 f.mode, .int .i64 f.time, .int .i64 f.size, .string f.link, .slice qa f.parts.length qc] _ rfl rfl (gP (f:=f)) HZ6.out (by omega) (by omega) ?_); intro vp wc hown3 hg3 _ hpl3; obtain⟨ea,ec,rfl,-,-⟩:=au hown3)
   have HX6:=ab ((HB6.out.block _ (by omega)).trans ((HB5.out.block _ (by omega)).trans ((HFO.out.below.block w.heap.size (by omega)).trans HX.out)));have HR6:=ab ((HB6.out.block _ (by omega)).trans ((HB5.out.block _ (by omega)).trans ((HFO.out.below.block (w.heap.size+1) (by omega)).trans HR.out)));have HY6:=ab ((HB6.out.block _ hb3).trans HY5.out);have n0:(Value.slice va k vc).ownBlock≠some w.heap.size:=fun e1=>by
    obtain⟨cs2,hc2⟩:=aJ HZ6.out e1;exact absurd (aL HX6.out hc2) (by decide)
   have n1:(Value.slice va k vc).ownBlock≠some (w.heap.size+1):=fun e1=>by
    obtain⟨cs2,hc2⟩:=aJ HZ6.out e1;exact absurd (aL HR6.out hc2) (by decide)
   have n2:(Value.slice va k vc).ownBlock≠some (w.heap.size+1+1):=fun e1=>by
    obtain⟨cs2,hc2⟩:=aJ HZ6.out e1;exact absurd (aL HY6.out hc2) (by decide)
   have n3:(Value.slice va k vc).ownBlock≠some pb:=fun e1=>by
    have:=(HZ6.out.lt pb e1).1;omega
   have wcell: ∀i j,i<w6.heap.size->(Value.slice va k vc).ownBlock≠some i->wc.cell? ⟨i,j,none⟩=w6.cell? ⟨i,j,none⟩:=fun i j hi hne=>World.cell?_of_block (hg3.block i hi (fun e1=>hne e1.symm))
   have HYc:=ab ((hg3.block _ (lt_of_block HY6.out) (fun e1=>n2 e1.symm)).trans HY6.out);have hzc:=hg3.size;have HBc:=ab (show Below (w.heap.size+1+1) W2 wc from((HFO.out.below.trans (HB5.out.mono (by omega))).trans (HB6.out.mono (by omega))).grown hg3 (by omega) (fun i e1=>by
    have h1:=(HZ6.out.lt i e1).1;have h2:i≠w.heap.size:=fun e2=>n0 (e2▸e1)
    have h3:i≠w.heap.size+1:=fun e2=>n1 (e2▸e1)
    omega))
   have keep: ∀(u:Value) (m:Nat) (cs:List Value),w6.ownsRow w.heap.size 85 2 u m cs->wc.ownsRow w.heap.size 85 2 u m cs:=fun u m cs hu=>bz hu (fun i hi hv=>hg3.block i hi (fun e1=>by
    obtain⟨cs2,hc2⟩:=aJ hu hv;obtain⟨cs3,hc3⟩:=aJ HZ6.out e1.symm;exact absurd (aL hc2 hc3) (by decide)))
   have HOc:=ab (show am wc w.heap.size (.slice ea (k+1) ec) (x.files.take (k+1))from by
    refine⟨zs++[(.slice qa f.parts.length qc,f)], ?_, ?_, ?_⟩
    ·rw[aX HFK.out,List.map_append,HZS.out]; rfl
    ·rw[List.length_append,List.length_singleton,hzl2,lU]; exact hown3
    ·intro z hz
     rcases List.mem_append.1 hz with hz | hz
     ·obtain⟨h1,h2⟩:=HZP.out z hz;exact⟨keep _ _ _ (aM (aM h1 HB5.out) HB6.out),h2⟩
     ·obtain rfl:=List.mem_singleton.1 hz;exact⟨keep _ _ _ (bK HO6.out (by omega)),HOK.out,HPO.out f (List.mem_of_getElem? HFK.out)⟩)
   have SC:=ab (show wc.cell? ⟨w.heap.size+1+1,1,none⟩=some (.slice va k vc)/\wc.cell? ⟨w.heap.size,1,none⟩=some (.slice (some ⟨pb,po,none⟩) n cap)/\ ∀j,j<7->wc.cell? ⟨pb,po+k*7+j,none⟩=(bO (.slice pa f.parts.length pc) f)[j]? from
    ⟨(wcell _ _ (by omega) n2).trans S6.out.1,(wcell _ _ (by omega) n0).trans S6.out.2.1,fun j hj=>(wcell _ _ (by omega) n3).trans (S6.out.2.2 j hj)⟩)
   have k1:=SC.out.1;have f1:wc.frozen? ⟨w.heap.size+1+1,1,none⟩=false:=al (k:=1) HYc.out;clear hown3 hg3 hpl3 n0 n1 n2 n3 wcell hal keep;refine⟨SC.out, ?_⟩;refine af 10 rfl (by kernel_rfl) (by kernel_rfl) (by kernel_rfl) (fun _ _ _ h=>h) rfl SC.out (by rintro w' ⟨hw1,hw2,hw3⟩; go_simp; rfl) ?_;simp only[Act.put,aC,aD,aE];refine aZ (by kernel_rfl) ?_;refine dP rfl rfl (fun K hK=> ?_)
   go_wp2_with fail
   go_roundw
   case rel=>
    refine⟨k+1, .slice ea (k+1) ec,by omega,rfl,⟨HBc.out.setCell (by show w.heap.size+1+1<=w.heap.size+1+1; omega) _, ?_,HOc.out.same (fun i cs t hi hB hc ht=> ?_)⟩⟩
    ·rw[heap_setCell_same _ _ _ _ _ _ HYc.out]; rfl
    ·refine heap_setCell_other _ _ _ _ (fun e1=> ?_);rw[show i=w.heap.size+1+1 from e1]at hc;have h1:=aL HYc.out hc
     rcases ht with ht | ht
     ·rw[ht.1]at h1; exact absurd h1 (by decide)
     ·rw[ht]at h1; exact absurd h1 (by decide)
   case measure=>simp only[intOf,Int.toNat_natCast]; omega
  ·have hkn:k=n:=by omega
   subst hkn;obtain⟨va,vc,hv⟩: ∃va vc,v= .slice va k vc:=by
    obtain⟨zs,hzs,hz,-⟩:=HFO.out.own.row;obtain⟨va,vc,rfl,-,-⟩:=au hz;have h1:=congrArg List.length hzs;rw[List.length_map,List.length_take,<-HN.out,Nat.min_self]at h1;rw[h1];exact⟨va,vc,rfl⟩
   subst hv;have HYr:=ab HFO.out.box;have HRr:=ab ((HFO.out.below.block (w.heap.size+1) (by omega)).trans HR.out);have y0:=ai (k:=0) HYr.out;have y1:=ai (k:=1) HYr.out;simp only[List.getElem?_toArray,bN]at y0 y1;have r0:=ai (k:=0) HRr.out;have r1:=ai (k:=1) HRr.out;simp only[List.getElem?_toArray,bN]at r0 r1;have f0:wr.frozen? ⟨w.heap.size+1,0,none⟩=false:=al (k:=0) HRr.out
   have f1:wr.frozen? ⟨w.heap.size+1,1,none⟩=false:=al (k:=1) HRr.out;go_wp2_with fail;have HFIN:=ab (show am ((wr.setCell ⟨w.heap.size+1,0,none⟩ (.int .i64 x.tm)).setCell ⟨w.heap.size+1,1,none⟩ (.slice va k vc)) w.heap.size (.slice va k vc) (x.files.take k)from HFO.out.own.same (fun i cs t hi hB hc ht=>by
    have hne:i≠w.heap.size+1:=fun e1=>by
     rw[e1]at hc;have h1:=aL HRr.out hc
     rcases ht with ht | ht
     ·rw[ht.1]at h1; exact absurd h1 (by decide)
     ·rw[ht]at h1; exact absurd h1 (by decide)
    exact(Below.heap_setCell _ _ _ _ hne).trans (Below.heap_setCell _ _ _ _ hne)))
   have HBF:=ab (HBW.out.trans (HFO.out.below.mono (show w.heap.size<=w.heap.size+1+1 by omega)));have htk:x.files.take k=x.files:=List.take_of_length_le (by rw[<-HN.out]; exact Nat.le_refl _);rw[htk]at HFIN;refine bodyPost_ret (results_cell_row rfl _ _ (w.heap.size+1) _ _ _ _ rfl (dE HRr.out) Tryz.underlying36 rfl (by kernel_rfl)) rfl ?_;exact⟨_,rfl,HFIN.out,(HBF.out.setCell (by show w.heap.size<=w.heap.size+1; omega) _).setCell (by show w.heap.size<=w.heap.size+1; omega) _⟩
end Go.Proofs.YtnjkpcalgoefhaaGreatDoor
namespace Go.Proofs.YtnjkpcalgoefhaaGreatDoor
open Go.RowKit Go.Maps
def dO :List bv->ByteArray->Nat->Int
 | [],_,_=> -1
 | e::L,p,i=>if e.path=p then(i:Int)else dO L p (i+1)
theorem rF {L:List bv} {p:ByteArray} {k:Nat} {e:bv} (h:L[k]? =some e):dO (L.drop k) p k=if e.path=p then(k:Int)else dO (L.drop (k+1)) p (k+1):=by
 obtain⟨hk,he⟩:=List.getElem?_eq_some_iff.1 h;rw[List.drop_eq_getElem_cons hk,dO,he]
theorem lV {p:ByteArray} : ∀(L:List bv) (i:Nat),(eb L p=none/\dO L p i= -1)\/ ∃j e,eb L p=some e/\L[j]? =some e/\dO L p i=((i+j:Nat):Int)
 | [],i=> .inl ⟨rfl,rfl⟩
 | e::L,i=>by
  by_cases h:e.path=p
  ·right
   refine⟨0,e, ?_,rfl, ?_⟩
   ·unfold eb; rw[List.find?_cons_of_pos (by simp[h])]
   ·rw[dO,if_pos h]; simp
  ·have hf:eb (e::L) p=eb L p:=by unfold eb; rw[List.find?_cons_of_neg (by simp[h])]
   rw[dO,if_neg h,hf]
   rcases lV L (i+1)with h1 | ⟨j,f,h1,h2,h3⟩
   ·exact .inl h1
   ·exact .inr ⟨j+1,f,h1,by simpa using h2,by rw[h3]; congr 1; omega⟩
theorem uk (S:Nat->Prop) (L:List bv) (v:Value) (p:ByteArray) (w:World) (hv:bS S w v L):
  Calls Tryz.prog 104 #[v, .string p] w fun e w'=>e= .returned (.int .i64 (dO L p 0))/\Below w.heap.size w w':=by
 have HV:=ab hv;obtain⟨a,cap,rfl,hc,hm,-⟩:=aR.shape hv kg.len;obtain⟨n,hn⟩: ∃n,n=L.length:=⟨_,rfl⟩;have HN:=ab hn;rw[<-hn]at HV hc ⊢;unfold maxLen at hm;clear hv hn
 go_enter Tryz.func104,Tryz.ntmps104
 go_wp2_with fail
 go_loopw [5,9] (fun _ i wr=> ∃k:Nat,k<=n/\i= .int .i64 k/\dO L p 0=dO (L.drop k) p k/\Below w.heap.size w wr) (fun _ i _=>n-(intOf i).toNat)
 case atStart=>exact⟨0,Nat.zero_le _,rfl,rfl,Below.refl _ _⟩
 case round=>
  obtain⟨k,hk,rfl,hfi,hbr⟩:=hrel;have HFI:=ab hfi;have HBR:=ab hbr
  by_cases hlt:k<n
  ·obtain⟨e,he⟩: ∃e,L[k]? =some e:=⟨L[k]'(by rw[<-HN.out]; exact hlt),by simp⟩;obtain⟨b,o,dv,rfl,-,hb,hd,-,-,q0,q1,q2,q3,q4,q5⟩:=ij (HV.out.below hbr) he;obtain⟨_,ad,cd,rfl,hcd,hmd,-⟩:=hd;have HAT:=ab (rF (p:=p) he);clear he hfi hbr
   by_cases hp:e.path=p
   ·have e1:(e.path.toList == p.toList)=true:=by rw[hp]; simp
    have HR:=ab (show dO L p 0=(k:Int) by rw[HFI.out,HAT.out,if_pos hp]);clear hp;go_wp2_with fail;go_ret;exact⟨bo HR.out.symm,ag HBR.out ((Below.refl _ _).alloc (Nat.le_refl _) _)⟩
   ·have e1:(e.path.toList == p.toList)=false:=by
     rw[beq_eq_false_iff_ne]; intro h; exact hp (ew (by rw[<-aV,<-aV]; exact h))
    have HR:=ab (show dO L p 0=dO (L.drop (k+1)) p (k+1) by rw[HFI.out,HAT.out,if_neg hp]);clear hp;go_wp2_with fail
    go_roundw
    case rel=>exact⟨k+1,by omega,by go_num,HR.out,ag HBR.out ((Below.refl _ _).alloc (Nat.le_refl _) _)⟩
    case measure=>simp[intOf]; omega
  ·have HR:=ab (show dO L p 0= -1 by rw[HFI.out,List.drop_of_length_le (by rw[<-HN.out]; omega)]; rfl);clear hfi hbr;go_wp2_with fail;go_ret;exact⟨bo HR.out.symm,HBR.out⟩
end Go.Proofs.YtnjkpcalgoefhaaGreatDoor
namespace Go.Proofs.YtnjkpcalgoefhaaGreatDoor
open Go.RowKit
theorem Av (l:List UInt8):(qE l).length<=4*l.length:=by
 have h1:=er l;have: ∀rs:List Int,(rs.flatMap Lib.encodeRune).length<=4*rs.length:=by
  intro rs
  induction rs with
  | nil=>simp
  | cons r rs ih=>rw[List.flatMap_cons,List.length_append,List.length_cons]; have:=nm r; omega
 have h2:=this (bd l);unfold qE; omega
theorem rm (s:ByteArray) (pos:Nat):Lib.decodeL ((bl s).drop pos)=Utf8.decode s pos:=Lib.decodeL_drop s pos
theorem zZ {s:ByteArray} {pos:Nat} (h:pos<s.size):(bl s).drop pos≠[]:=by
 intro e; have:=List.drop_eq_nil_iff.1 e; rw[<-aA]at this; omega
theorem xB {s o:ByteArray} {pos:Nat} (hp:pos<s.size) (h:bl o++qE ((bl s).drop pos)=qE (bl s)):
  bl (o++Utf8.encode ((Utf8.decode s pos).1:Int))++qE ((bl s).drop (pos+(Utf8.decode s pos).2))=qE (bl s):=by
 rw[jy,<-h,sH _ (zZ hp),rm,List.drop_drop,<-tL,uX,List.append_assoc]
theorem ul (s:ByteArray) (w:World) (hs:s.size<=16777216):
  Calls Tryz.prog 185 #[.string s] w fun e w'=>e= .returned (.bool (Lib.validD (bl s)))/\Below w.heap.size w w':=by
 go_enter Tryz.func185,Tryz.ntmps185
 go_wp2
 go_loopw [3] (fun v wr=> ∃(pos:Nat) (o:ByteArray),v= .string o/\wr=w.iter s pos/\o.size<=67108864/\bl o++qE ((bl s).drop pos)=qE (bl s)) (fun _ wr=>s.size-wr.iterPos w.heap.size)
 case atStart=>exact⟨0,⟨#[]⟩,rfl,rfl,by simp[ByteArray.size],by simp[bl]⟩
 case round=>
  obtain⟨pos,o,rfl,rfl,ho,hrel2⟩:=hrel;have HR:=ab hrel2;clear hrel2
  by_cases hp:pos<s.size
  ·have hnx: ∀ty,(Instr.next (.pointer (some ⟨w.heap.size,0,none⟩)) true ty).run Tryz.prog (w.iter s pos)=_:=fun ty=>run_next_any w s pos ty hp
   obtain⟨r,hr⟩: ∃r,r=(Utf8.decode s pos).1:=⟨_,rfl⟩;obtain⟨E,hE⟩: ∃E,E=Utf8.encode (r:Int):=⟨_,rfl⟩;have hcv: ∀w',(convert 21 9 (.int .i32 (r:Int))).run Tryz.prog w'= .ok (.string E) w':=fun w'=>by rw[hE]; exact run_convert_int_string w' _ _ .i32 _ (by rw[Tryz.underlying21]; rfl) Tryz.underlying9
   have hE4:E.size<=4:=by rw[hE]; exact encode_size_le _
   simp only[<-hr]at hnx;have HE:=ab hE;have HRR:=ab hr;clear hE hr
   go_wp2
   go_roundw
   case rel=>
    have hn:bl (o++E)++qE ((bl s).drop (pos+(Utf8.decode s pos).2))=qE (bl s):=by rw[HE.out,HRR.out]; exact xB hp HR.out
    refine⟨pos+(Utf8.decode s pos).2,o++E,rfl,rfl, ?_,hn⟩;have h1:=congrArg List.length hn;have h2:=Av (bl s);rw[List.length_append,<-aA]at h1;rw[<-aA]at h2;omega
   case measure=>
    rw[World.iterPos_iter,World.iterPos_iter];have:=Lib.width_pos s pos;omega
  ·have hnx: ∀ty,(Instr.next (.pointer (some ⟨w.heap.size,0,none⟩)) true ty).run Tryz.prog (w.iter s pos)=_:=fun ty=>run_next_end w s pos ty hp
   go_wp2
   go_ret;refine⟨aw ?_,(Below.refl _ _).alloc (Nat.le_refl _) _⟩;have h1:bl o=qE (bl s):=by
    rw[<-HR.out,List.drop_eq_nil_of_le (by rw[<-aA]; omega),qF,List.append_nil]
   rw[aV,aV,h1];exact wI (bl s)
theorem sj {s:ByteArray} {j:Nat} (hj:j<s.size) (h:(s[j].toNat:Int)<32):jH (bl s)=false:=by
 refine sk hj ?_;rw[ko s j hj,<-eu s j hj]; omega
theorem sE (s:ByteArray) (w:World) (hs:s.size<=16777216):
  Calls Tryz.prog 163 #[.string s] w fun e w'=>e= .returned (.bool (ka (bl s)))/\Below w.heap.size w w':=by
 go_enter Tryz.func163,Tryz.ntmps163
 go_wp2
 go_loop [3] (fun i=> ∃k:Nat,k<=s.size/\i= .int .i64 k/\ ∀j,j<k->j<s.size->32<=(s.get! j).toNat) (fun i=>s.size-(intOf i).toNat)
 case atStart=>exact⟨0,Nat.zero_le _,rfl,fun j hj=>by omega⟩
 case round=>
  obtain⟨k,hk,rfl,hlow⟩:=hrel;have HL:=ab hlow;clear hlow
  by_cases hp:k<s.size
  ·go_wp2
   ·have hlt:(s[k].toNat:Int)<32:=by assumption
    go_ret;exact⟨aw (by simp[ka,sj hp hlt]),Below.refl _ _⟩
   ·have hge:(32:Int)<=(s[k].toNat:Int):=by assumption
    go_round
    case rel=>
     refine⟨k+1,by omega,by go_num,fun j hj hjs=> ?_⟩
     rcases Nat.lt_or_ge j k with h | h
     ·exact HL.out j h hjs
     ·obtain rfl:j=k:=by omega
      rw[ko s j hp,<-eu s j hp]; omega
    case measure=>simp[intOf]<;> omega
  ·go_wp2_with (go_at_call 185; refine(ul s _ hs).mono ?_; rintro e w' ⟨rfl,hb⟩);go_ret;refine⟨aw ?_,hb⟩;simp only[ka,vq (fun j hj=>HL.out j (by omega) hj),Bool.true_and]
def xJ (c:UInt8) (s:ByteArray) (w:World) (e:Ending) (w':World):Prop:=
 ∃v xs,e= .returned v/\xs.map bl=aF c (bl s)/\cz (w.heap.size<= ·) w' v xs/\Below w.heap.size w w'
theorem ry {s:ByteArray} {c:UInt8} {ys:List ByteArray} {f k:Nat} (hk:k<s.size) (hf:f<=k) (h:aF c (bl s)=ys.map bl++aF c ((bl s).drop f)) (hn: ∀j,f<=j->j<k->(s.get! j)≠c) (hc:s[k]=c):
  aF c (bl s)=(ys++[s.extract f k]).map bl++aF c ((bl s).drop (k+1)):=by
 have hk2:k<(bl s).length:=by rw[<-aA]; exact hk
 have e:(bl s).drop f=bl (s.extract f k)++c::(bl s).drop (k+1):=by
  rw[ib,<-hc,eu s k hk,List.getElem_cons_drop,List.drop_take];have h2:=List.take_append_drop (k-f) ((bl s).drop f);rw[List.drop_drop,show f+(k-f)=k by omega]at h2;exact h2.symm
 have hm:c∉bl (s.extract f k):=by
  intro hm;obtain⟨j,hj,ej⟩:=List.getElem_of_mem hm;simp only[ib]at hj ej;rw[List.length_drop,List.length_take]at hj;rw[List.getElem_drop,List.getElem_take]at ej;exact hn (f+j) (by omega) (by omega) (by rw[ko s _ (by omega)]; exact ej)
 rw[h,e,fk _ _ _ hm]; simp
theorem ru {s:ByteArray} {c:UInt8} {ys:List ByteArray} {f:Nat} (hf:f<=s.size) (h:aF c (bl s)=ys.map bl++aF c ((bl s).drop f)) (hn: ∀j,f<=j->j<s.size->(s.get! j)≠c):
  aF c (bl s)=(ys++[s.extract f s.size]).map bl:=by
 have e:(bl s).drop f=bl (s.extract f s.size):=by rw[ib,aA,List.take_length]
 have hm:c∉(bl s).drop f:=by
  intro hm;obtain⟨j,hj,ej⟩:=List.getElem_of_mem hm;rw[List.length_drop,<-aA]at hj;rw[List.getElem_drop]at ej;exact hn (f+j) (by omega) (by omega) (by rw[ko s _ (by omega)]; exact ej)
 rw[h,dX _ _ hm,e]; simp
theorem ip (s:ByteArray) (w:World) (hs:s.size<=16777216):Calls Tryz.prog 105 #[.string s] w (xJ 47 s w):=by
 go_enter Tryz.func105,Tryz.ntmps105
 go_wp2_with fail
 go_loopw [3,4,5] (fun v fr i wr=> ∃(k f:Nat) (ys:List ByteArray),k<=s.size+1/\f<=k/\ys.length<=k/\i= .int .i64 k/\fr= .int .i64 f/\wr.ownsRow w.heap.size 9 1 v ys.length (ys.map Value.string)/\Below w.heap.size w wr/\
   (k<=s.size->aF 47 (bl s)=ys.map bl++aF 47 ((bl s).drop f)/\ ∀j,f<=j->j<k->(s.get! j)≠47)/\(k=s.size+1->aF 47 (bl s)=ys.map bl)) (fun _ _ i _=>s.size+1-(intOf i).toNat)
 case atStart=>exact⟨0,0,[],Nat.zero_le _,Nat.le_refl _,Nat.le_refl _,rfl,rfl,World.ownsRow_nil _ _ _ _,Below.refl _ _,fun _=>⟨by simp,fun j _ hj=>by omega⟩,fun h=>by omega⟩
 case round=>
  obtain⟨k,f,ys,hk,hf,hy,rfl,rfl,hown,hb,hr1,hr2⟩:=hrel;have HO:=ab hown;have HB:=ab hb;have HR1:=ab hr1;have HR2:=ab hr2;have hsz:w.heap.size<=wr.heap.size:=hb.size;clear hown hb hr1 hr2
  by_cases hle:k<=s.size
  ·by_cases hlt:k<s.size
   ·have e1:((k:Int) == (s.size:Int))=false:=by rw[beq_eq_false_iff_ne]; omega
    by_cases hc:s[k]=47
    ·have e2:((s[k].toNat:Int) == (47:UInt8).toNat)=true:=by rw[hc]; rfl
     have e2':((s[k].toNat:Int) == 47)=true:=e2;have HCC:=ab hc;clear hc e2;go_wp2_with (at_builtin; go_must (refine fC Tryz.appStrings rfl _ _ rfl w.heap.size u3 ys.length (ys.map Value.string) rfl wr [.string (s.extract f k)] _ rfl rfl (by simp; rfl) HO.out (by omega) hsz ?_); intro v' w1 hown1 hgrow1 _);have HO1:=ab hown1;have HG1:=ab hgrow1;clear hown1 hgrow1;go_wp2_with fail
     go_roundw
     case rel=>
      refine⟨k+1,k+1,ys++[s.extract f k],by omega,Nat.le_refl _,by simp; omega,by go_num,by go_num, ?_,aS HB.out HO.out HG1.out (Nat.le_refl _) hsz,fun _=>⟨ry hlt hf (HR1.out hle).1 (HR1.out hle).2 HCC.out,fun j h1 h2=>by omega⟩,fun h=>by omega⟩;have:=HO1.out; simpa using this
     case measure=>simp[intOf]<;> omega
    ·have e2':((s[k].toNat:Int) == 47)=false:=by
      rw[beq_eq_false_iff_ne]; intro e; apply hc; apply UInt8.toNat_inj.1; have:s[k].toNat=47:=by omega
      rw[this]; rfl
     have HCC:=ab hc;clear hc;go_wp2_with fail
     go_roundw
     case rel=>
      refine⟨k+1,f,ys,by omega,by omega,by omega,by go_num,rfl,HO.out,HB.out,fun _=>⟨(HR1.out hle).1,fun j h1 h2=> ?_⟩,fun h=>by omega⟩
      rcases Nat.lt_or_ge j k with h | h
      ·exact(HR1.out hle).2 j h1 h
      ·obtain rfl:j=k:=by omega
       rw[ko s j hlt,<-eu s j hlt]; exact HCC.out
     case measure=>simp[intOf]<;> omega
   ·obtain rfl:k=s.size:=by omega
    have e1:((s.size:Int) == (s.size:Int))=true:=by simp
    go_wp2_with (at_builtin; go_must (refine fC Tryz.appStrings rfl _ _ rfl w.heap.size u3 ys.length (ys.map Value.string) rfl wr [.string (s.extract f s.size)] _ rfl rfl (by simp; rfl) HO.out (by omega) hsz ?_); intro v' w1 hown1 hgrow1 _);have HO1:=ab hown1;have HG1:=ab hgrow1;clear hown1 hgrow1;go_wp2_with fail
    go_roundw
    case rel=>
     refine⟨s.size+1,s.size+1,ys++[s.extract f s.size],by omega,Nat.le_refl _,by simp; omega,by go_num,by go_num, ?_,aS HB.out HO.out HG1.out (Nat.le_refl _) hsz,fun h=>by omega,fun _=>ru hf (HR1.out hle).1 (HR1.out hle).2⟩;have:=HO1.out; simpa using this
    case measure=>simp[intOf]<;> omega
  ·obtain⟨a,cap,rfl,hn,hm⟩:=au HO.out;go_wp2_with fail;go_ret;exact⟨_,ys,rfl,(HR2.out (by omega)).symm,(bm HO.out).weak (fun k hk=>hk.1),HB.out⟩
theorem oh {xs:List ByteArray} {k:Nat} {x:ByteArray} (hx:xs[k]? =some x):cT ((xs.take (k+1)).map bl)=if k=0 then bl x else cT ((xs.take k).map bl)++[47]++bl x:=by
 have hk:=(List.getElem?_eq_some_iff.1 hx).1;have e:(xs.take (k+1)).map bl=(xs.take k).map bl++[bl x]:=by rw[List.take_add_one,hx]; simp
 rw[e,mj]
 by_cases h:k=0
 ·subst h; simp
 ·have h2:(xs.take k).map bl≠[]:=by
   intro e; have:=congrArg List.length e; simp only[List.length_map,List.length_take,List.length_nil]at this; omega
  rw[if_neg h,if_neg h2]
theorem ou (xs:List ByteArray) (m:Nat) (h: ∀x∈xs,x.size<=m) (k:Nat):(cT ((xs.take k).map bl)).length<=xs.length*(m+1):=by
 have h1:=uG ((xs.take k).map bl) m (fun p hp=>by
  obtain⟨y,hy,rfl⟩:=List.mem_map.1 hp;have:=h y (List.mem_of_mem_take hy);rw[<-aA]; exact this)
 have h2:((xs.take k).map bl).length<=xs.length:=by simp; omega
 exact Nat.le_trans h1 (Nat.mul_le_mul_right _ h2)
theorem sF (xs:List ByteArray) (S:Nat->Prop) (v:Value) (w:World) (hv:cz S w v xs) (hn:xs.length<=65536) (hsz: ∀x∈xs,x.size<=65536):
  Calls Tryz.prog 106 #[v] w fun e w'=>e= .returned (.string ⟨(cT (xs.map bl)).toArray⟩)/\w=w':=by
 obtain⟨a,cap,rfl,hc,hcm,hcell⟩:=hv.shape;have HC:=ab hcell;have HS:=ab hsz;clear hv hcell hsz;unfold maxLen at hcm
 go_enter Tryz.func106,Tryz.ntmps106
 go_wp2_with fail
 go_loop [3,8] (fun o i=> ∃(k:Nat) (t:ByteArray),k<=xs.length/\i= .int .i64 k/\o= .string t/\bl t=cT ((xs.take k).map bl)) (fun _ i=>xs.length-(intOf i).toNat)
 case atStart=>exact⟨0,⟨#[]⟩,Nat.zero_le _,rfl,rfl,by simp[bl,cT,Lib.join_nil]⟩
 case round=>
  obtain⟨k,t,hk,rfl,rfl,ht⟩:=hrel;have hts:t.size<=4295032832:=by
   rw[aA,ht];have:=ou xs 65536 HS.out k;have h2:xs.length*(65536+1)<=65536*(65536+1):=Nat.mul_le_mul_right _ hn;omega
  have HT:=ab ht;clear ht
  by_cases hlt:k<xs.length
  ·obtain⟨x,hx⟩: ∃x,xs[k]? =some x:=⟨xs[k],by simp[hlt]⟩;obtain⟨b,o,rfl,_,hcl⟩:=HC.out k x hx;have hxs:=HS.out x (List.mem_of_getElem? hx);have HX:=ab hx;clear hx
   by_cases h0:k=0
   ·have e0:decide ((0:Int)<(k:Int))=false:=by simp[h0]
    have hle: ¬(0:Int)<(k:Int):=by omega
    have H0:=ab h0;clear h0;go_wp2_with fail
    go_round
    case rel=>
     refine⟨k+1,t++x,by omega,by go_num,rfl, ?_⟩;rw[oh HX.out,if_pos H0.out,jy,HT.out,H0.out]; simp[cT,Lib.join_nil]
    case measure=>simp[intOf]; omega
   ·have h1:(0:Int)<(k:Int):=by omega
    have h1':0<k:=by omega
    have H0:=ab h0;clear h0;go_wp2_with fail
    go_round
    case rel=>
     refine⟨k+1,(t++⟨#[47]⟩)++x,by omega,by go_num,rfl, ?_⟩;rw[oh HX.out,if_neg H0.out,jy,jy,HT.out]; rfl
    case measure=>simp[intOf]; omega
  ·go_wp2_with fail;go_ret;refine⟨?_,rfl⟩;have:cT (xs.map bl)=bl t:=by rw[HT.out,List.take_of_length_le (by omega)]
   rw[this,nE]; rfl
theorem uZ {xs:List ByteArray} {s:ByteArray} (hx:xs.map bl=aF 47 (bl s)):((xs.length:Int) == 1)= !(bl s).contains 47:=by
 rw[<-re,<-hx,List.length_map,Bool.eq_iff_iff,beq_iff_eq,beq_iff_eq]; omega
theorem iF (s:ByteArray) (w:World) (hs:s.size<=16777216):
  Calls Tryz.prog 132 #[.string s] w fun e w'=>e= .returned (.bool (eO (bl s)))/\Below w.heap.size w w':=by
 go_enter Tryz.func132,Tryz.ntmps132
 go_wp2_with (first
  | (go_at_call 163; refine(sE s _ hs).mono ?_; rintro e w1 ⟨rfl,hb1⟩)
  | (go_at_call 105; refine(ip s _ hs).mono ?_; rintro e w2 ⟨v2,xs2,rfl,hx2,hv2,hb2⟩; obtain⟨a2,c2,rfl,-,-,-⟩:=hv2.shape; have HX2:=ab hx2; clear hx2 hv2))
 all_goals (go_ret; refine⟨aw ?_,by first | exact Below.refl _ _ | exact ag hb1 hb2 | exact hb1⟩)
 all_goals (rw[Bool.eq_iff_iff]; simp only[aV]at *)
 all_goals (first | (have hq:=uZ HX2.out; simp_all [eO,aA]; done) | (simp_all [eO,aA]; done) | (simp_all [eO,aA]; omega) | (have hq:=uZ HX2.out; simp_all [eO,aA]; intro _; omega))
theorem sG (s:ByteArray) (w:World) (hs:s.size<=16777216):
  Calls Tryz.prog 103 #[.string s] w fun e w'=>e= .returned (.bool (bF (bl s)))/\Below w.heap.size w w':=by
 go_enter Tryz.func103,Tryz.ntmps103
 go_wp2_with fail;refine(ip s w hs).mono ?_;rintro e w1 ⟨v,xs,rfl,hx,hv,hb1⟩;obtain⟨a,cap,rfl,hc,hcm,hcell⟩:=hv.shape;have hxl:xs.length<=16777217:=by
  have h1:(aF 47 (bl s)).length=xs.length:=by rw[<-hx]; simp
  have h2:=dI 47 (bl s);rw[<-aA]at h2;omega
 have HX:=ab hx;have HC:=ab hcell;have HB1:=ab hb1;clear hx hcell hb1 hv;unfold maxLen at hcm;go_wp2_with fail
 go_loopw [10] (fun i wr=> ∃k:Nat,k<=xs.length/\i= .int .i64 k/\Below w1.heap.size w1 wr/\ ∀(j:Nat) x,j<k->xs[j]? =some x->eO (bl x)=true) (fun i _=>xs.length-(intOf i).toNat)
 case atStart=>exact⟨0,Nat.zero_le _,rfl,Below.refl _ _,fun j x hj=>by omega⟩
 case round=>
  obtain⟨k,hk,rfl,hb,hall⟩:=hrel;have HA:=ab hall;have HB:=ab hb;clear hall hb
  by_cases hlt:k<xs.length
  ·obtain⟨x,hx⟩: ∃x,xs[k]? =some x:=⟨xs[k],by simp[hlt]⟩;obtain⟨b,o,rfl,_,hcl⟩:=HC.out k x hx;have hcell:wr.cell? ⟨b,o+k,none⟩=some (.string x):=(HB.out.cell (p:=⟨b,o+k,none⟩) (aG hcl)).trans hcl;have HK:=ab hx;have hxs:x.size<=16777216:=by have:=jI HX.out hx; omega
   clear hx hcl
   cases hc:eO (bl x)
   ·have HCc:=ab hc;clear hc;go_wp2_with (go_at_call 132; refine(iF x wr hxs).mono ?_; rintro e w' ⟨rfl,hb2⟩; rw[HCc.out]);go_ret;exact⟨aw (pO HX.out HK.out HCc.out).symm,ag (ag HB1.out HB.out) hb2⟩
   ·have HCc:=ab hc;clear hc;go_wp2_with (go_at_call 132; refine(iF x wr hxs).mono ?_; rintro e w' ⟨rfl,hb2⟩; rw[HCc.out])
    go_roundw
    case rel=>
     refine⟨k+1,by omega,by go_num,ag HB.out hb2,fun j x' hj hx'=> ?_⟩
     rcases Nat.lt_or_ge j k with h | h
     ·exact HA.out j x' h hx'
     ·obtain rfl:j=k:=by omega
      have:=HK.out.symm.trans hx'
      cases this
      exact HCc.out
    case measure=>simp[intOf]; omega
  ·go_wp2_with fail
   all_goals (go_ret; refine⟨aw ?_,ag HB1.out HB.out⟩)
   all_goals (
    have ha:(aF 47 (bl s)).all eO=true:=by
     rw[<-HX.out,List.all_map,List.all_eq_true];intro x hm;obtain⟨j,hj,rfl⟩:=List.getElem_of_mem hm;exact HA.out j _ (by omega) (by simp)
    have hl:(aF 47 (bl s)).length=xs.length:=by rw[<-HX.out]; simp
    rw[bF,ha,hl,Bool.and_true,<-aA,Bool.eq_iff_iff]
    simp_all<;> omega)
open Go.RowKit Go.Maps
theorem uE {S:Nat->Prop} {w:World} {a:Option Addr} {n c:Nat} {xs:List ByteArray} (h:cz S w (.slice a n c) xs):cz S w (.slice a (n-1) c) xs.dropLast:=by
 obtain⟨hl,a',cap,he,hn,hm,h0⟩:=h;simp only[Value.slice.injEq]at he;obtain⟨rfl,rfl,rfl⟩:=he;refine⟨by simp,a,c,by rw[List.length_dropLast],by rw[List.length_dropLast]; omega,hm, ?_⟩
 rcases h0 with h0 | ⟨b,o,ha,hb,hc⟩
 ·left; rw[List.length_dropLast]; omega
 ·right
  refine⟨b,o,ha,hb,fun j u hj=>hc j u ?_⟩;rw[List.getElem?_map,List.getElem?_dropLast]at hj;rw[List.getElem?_map]
  split at hj
  ·exact hj
  ·simp at hj
theorem nS (s:ByteArray) (w:World) (hs:s.size<=65000):
  Calls Tryz.prog 69 #[.string s] w fun e w'=>e= .returned (.string ⟨(aQ (bl s)).toArray⟩)/\Below w.heap.size w w':=by
 go_enter Tryz.func69,Tryz.ntmps69
 go_wp2_with (go_at_call 105; refine(ip s _ (by omega)).mono ?_; rintro e w1 ⟨v,xs,rfl,hx,hv,hb⟩; have HX:=ab hx; have HB:=ab hb; obtain⟨a,c,rfl,hc,hm,-⟩:=hv.shape; have HV:=ab hv; have hn1:1<=xs.length:=(by rw[<-List.length_map (f:=bl),hx]; exact ky 47 _); have hn2:xs.length<=65001:=(by rw[<-List.length_map (f:=bl),hx]; have:=dI 47 (bl s); rw[<-aA]at this; omega); clear hx hv hb; unfold maxLen at hm)
 refine(sF xs.dropLast _ _ w1 (uE HV.out) (by rw[List.length_dropLast]; omega) (fun x hx=> ?_)).mono ?_
 ·have h1:bl x∈aF 47 (bl s):=by rw[<-HX.out]; exact List.mem_map.2 ⟨x,List.dropLast_subset _ hx,rfl⟩
  have h2:=fQ 47 (bl s) _ h1;rw[<-aA,<-aA]at h2;omega
 ·rintro e w2 ⟨rfl,rfl⟩;go_wp2_with fail;go_ret;refine⟨?_,HB.out⟩;unfold aQ;rw[<-HX.out,<-List.map_dropLast]
  rfl
end Go.Proofs.YtnjkpcalgoefhaaGreatDoor
