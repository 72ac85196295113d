/- Texts of this proof, one after the other: DivE, DivF, Match, Rules, Ign, Parse, ScnR, ScnA, ScnX, ScnY, R3A. -/
import Derived.Test.YtnjkpcalgoefhaaGreatDoorCFreshD
set_option maxRecDepth 100000
set_option maxHeartbeats 8000000
namespace Go.Proofs.YtnjkpcalgoefhaaGreatDoor
open Go.RowKit
def cF (c:aG) (x:ByteArray):Bool:=tg c (bl x)
theorem iL (S:Nat->Prop) (c:aG) (v:Value) (x:ByteArray) (w:World) (hv:cd S w v c.items) (hn:c.items.length<=65536) (hx:x.size<=65536):
  Calls Tryz.prog 116 #[.agg #[.bool c.dbl,v], .string x] w fun e w'=>e= .returned (.bool (cF c x))/\Below w.heap.size w w':=kW S c v x w hv hn hx
theorem lR (ps:List aG) (ts:List ByteArray) (S:Nat->Prop) (w0:World) (B:Nat) (pv tv:Value) (hB:w0.heap.size=B) (hp:cJ S w0 pv ps) (htv:aB S w0 1 tv ts.length (ts.map Value.string))
  (hn:ps.length<=65536) (hm:ts.length<=65536) (hps: ∀c∈ps,c.items.length<=65536) (hts: ∀x∈ts,x.size<=65536) (i j:Nat) (w:World) (tr:List Bool) (hi:i<=ps.length) (hj:j<=ts.length)
  (IH:i<ps.length->sR aG.dbl cF ps ts (i+1) w0 B ((ps.length+1)*(ts.length+1)) 140 pv tv (.func (.func 115) #[] #[]) (.func (.func 116) #[] #[]))
  (hst:eu w0 B ((ps.length+1)*(ts.length+1)) 140 pv tv (.func (.func 115) #[] #[]) (.func (.func 116) #[] #[]) tr w) (hinv:dU aG.dbl cF ps ts i tr):
  Calls Tryz.prog 140 #[.int .i64 i, .int .i64 j, .pointer (some ⟨B+1,0,none⟩), .pointer (some ⟨B+5,0,none⟩), .pointer (some ⟨B,0,none⟩), .pointer (some ⟨B+2,0,none⟩), .pointer (some ⟨B+3,0,none⟩), .pointer (some ⟨B+6,0,none⟩)] w
   (oq aG.dbl cF ps ts i j w0 B ((ps.length+1)*(ts.length+1)) 140 pv tv (.func (.func 115) #[] #[]) (.func (.func 116) #[] #[]) tr):=by
 obtain⟨pa,pc,rfl,hpc,hpm,hpx⟩:=hp.shape et.len;obtain⟨_,ta,tc,rfl,htc,htm,ht0⟩:=htv;unfold maxLen at hpm htm;obtain⟨c0,c1,c2,c3,c5,c6,-,hlen,-,-⟩:=id hst;have HST:=aa hst;have HINV:=aa hinv;have HIH:=aa IH;clear IH;have HPX:=aa hpx;have HT0:=aa ht0;have HLEN:=aa hlen;have hpS:=hp;have HPS:=aa hpS;have HPZ:=aa hps;have HTZ:=aa hts;clear hps hts
 clear hst hinv hpx ht0 hlen hp hpS;obtain⟨N,hN⟩: ∃N:Nat,N=(ps.length+1)*(ts.length+1):=⟨_,rfl⟩;have hpN:i*(ts.length+1)+j<N:=by rw[hN]; exact ql _ _ _ _ hi hj
 have hNb:N<=4295098369:=by
  have h1:(ps.length+1)*(ts.length+1)<=65537*65537:=Nat.mul_le_mul (by omega) (by omega);omega
 have hX:(i:Int)*((ts.length:Int)+1)=((i*(ts.length+1):Nat):Int):=by simp
 have hb1:0<=(i:Int)*((ts.length:Int)+1):=by rw[hX]; omega
 have hb2:(i:Int)*((ts.length:Int)+1)<=4295098369:=by rw[hX]; omega
 have hb3:(i:Int)*((ts.length:Int)+1)+(j:Int)<(N:Int):=by rw[hX]; omega
 obtain⟨b0,hq⟩: ∃b,tr[i*(ts.length+1)+j]? =some b:=⟨tr[i*(ts.length+1)+j]'(by rw[HLEN.out,<-hN]; exact hpN),by simp⟩;have HQ:=aa hq;have c4:=HST.out.cell hq;have f4:=HST.out.free (i*(ts.length+1)+j);rw[<-hN]at c5 HST HIH ⊢;have HN:=aa hN;clear hN hq HLEN hX
 cases b0 with
 | true=>
  go_enter Tryz.func140,Tryz.ntmps140
  go_wp2_with fail;go_ret;have hf:dv aG.dbl cF (ps.drop i) (ts.drop j)=false:=HINV.out.hit hi hj HQ.out;exact⟨tr,by rw[hf]; rfl,HST.out,fun _=>HINV.out,fun _ _=>rfl⟩
 | false=>
  have hst1:=HST.out.mark (i*(ts.length+1)+j);have HST1:=aa hst1;have HINV1:=aa (HINV.out.marked (j:=j) hj);obtain⟨d0,d1,d2,d3,d5,d6,-,-,-,-⟩:=hst1
  by_cases hin:i=ps.length
  ·have e1:((i:Int) == (ps.length:Int))=true:=by rw[hin]; simp
   have HIN:=aa hin;clear hin
   go_enter Tryz.func140,Tryz.ntmps140
   go_wp2_with fail;go_ret;have hdv:=wC (star:=aG.dbl) (M:=cF) HIN.out hj;refine⟨tr.set (i*(ts.length+1)+j) true, ?_,HST1.out,fun hf=>HINV.out.down HINV1.out (fun q' _=>rfl) hf,fun q' hq'=> ?_⟩
   ·rw[hdv];exact al (by rw[Bool.eq_iff_iff]; simp; omega)
   ·rw[List.getElem?_set_ne];omega
  ·have hin':i<ps.length:=by omega
   have e1:((i:Int) == (ps.length:Int))=false:=by rw[beq_eq_false_iff_ne]; omega
   clear hin;obtain⟨it,hit⟩: ∃it,ps[i]? =some it:=⟨ps[i],by simp[hin']⟩;obtain⟨pb,po,c,rfl,hSb,⟨rv,rfl,hrv⟩,-,hcl⟩:=HPX.out i it hit;have HIT:=aa hit;have HRV:=aa hrv;have q0:=hcl 0 (by omega);have q1:=hcl 1 (by omega);simp only[Nat.add_zero,<-Nat.add_assoc,cw]at q0 q1;have Q0:=aa q0;have Q1:=aa q1;have g0:=cA HST1.out.below hB q0;have g1:=cA HST1.out.below hB q1
   clear hit hrv hcl q0 q1
   cases hs:it.dbl
   ·have HS:=aa hs;clear hs
    go_enter Tryz.func140,Tryz.ntmps140
    go_wp2_with fail;clear c0 c1 c2 c3 c4 c5 c6 f4
    generalize hW:w.setCell ⟨B+4,i*(ts.length+1)+j,none⟩ (.bool true)=W at *
    clear hW hb1 hb2 hb3 hpN hNb;refine ak [some 5,none,some 1] (by kernel_rfl) (by kernel_rfl) (by kernel_rfl) ?_;simp only[bb,List.take_succ_cons,List.take_zero,List.drop_succ_cons,List.drop_zero];have HST2:=aa (HST1.out.grown (Below.refl _ W).drew)
    repeat (first | (refine am rfl ?_; simp only[Act.put,aD,aE,aF]) | (refine aA rfl (fun K hK=> ?_); go_simp; refine hK _ ?_; clear hK K))
    refine az ?_;clear d0 d1 d2 d3 d5 d6 g0 g1 HST1
    generalize W.drew=W2 at *
    refine bt rfl (fun K hK=> ?_);go_wp2_with (go_at_call 115; refine(kB it rv _).mono ?_; rintro e w3 ⟨rfl,hb3⟩; rw[HS.out]; have HST3:=aa (HST2.out.grown hb3); clear hb3 HST2)
    repeat (first | (refine am rfl ?_; simp only[Act.put,aD,aE,aF]) | (refine aA rfl (fun K hK=> ?_); go_simp; refine hK _ ?_; clear hK K))
    refine az ?_;go_wp2_with fail;obtain⟨d0,d1,d2,d3,d5,d6,-,-,-,-⟩:=id HST3.out;have g0:=cA HST3.out.below hB Q0.out;have g1:=cA HST3.out.below hB Q1.out
    by_cases hjm:j<ts.length
    ·have ejm:decide ((j:Int)<(ts.length:Int))=true:=by simpa using hjm
     obtain⟨x,hx⟩: ∃x,ts[j]? =some x:=⟨ts[j],by simp[hjm]⟩;obtain⟨tb,tof,rfl,hSt,htcl⟩:=HT0.out.resolve_left (by omega);have hx3:=cA HST3.out.below hB (htcl j (.string x) (by simp[hx]));have HX:=aa hx;clear hx htcl
     cases hM:cF it x
     ·have HM:=aa hM;clear hM;have ejm2:(j:Int)<(ts.length:Int):=by omega
      refine ak [some 14,none,some 7,none,some 2] (by kernel_rfl) (by kernel_rfl) (by kernel_rfl) ?_;simp only[bb,List.take_succ_cons,List.take_zero,List.drop_succ_cons,List.drop_zero];have HST3':=aa (HST3.out.grown (Below.refl _ w3).drew)
      repeat (first | (refine am rfl ?_; simp only[Act.put,aD,aE,aF]) | (refine aA rfl (fun K hK=> ?_); go_simp; refine hK _ ?_; clear hK K))
      refine az ?_;clear d0 d1 d2 d3 d5 d6 g0 g1 hx3;have hrv4:cd S w3.drew rv it.items:=cd.move HRV.out (fun k hk h=>⟨h,HST3'.out.below.block k (by omega)⟩);have HRV4:=aa hrv4;clear hrv4
      generalize w3.drew=w3d at *
      refine bt rfl (fun K hK=> ?_);go_wp2_with (go_at_call 116; refine(iL S it rv x _ HRV4.out (HPZ.out it (List.mem_of_getElem? HIT.out)) (HTZ.out x (List.mem_of_getElem? HX.out))).mono ?_; rintro e w4 ⟨rfl,hb4⟩; rw[HM.out]; have HST4:=aa (HST3'.out.grown hb4); clear hb4)
      repeat (first | (refine am rfl ?_; simp only[Act.put,aD,aE,aF]) | (refine aA rfl (fun K hK=> ?_); go_simp; refine hK _ ?_; clear hK K))
      refine az ?_;refine jp rfl ?_;simp only[Act.put,aD,aE,aF]
      repeat (first | (refine am rfl ?_; simp only[Act.put,aD,aE,aF]) | (refine aA rfl (fun K hK=> ?_); go_simp; refine hK _ ?_; clear hK K))
      refine az ?_;go_wp2_with fail;go_ret;have hdv:=show dv aG.dbl cF (ps.drop i) (ts.drop j)=false by rw[oI HIT.out HS.out HX.out,HM.out]; rfl
      refine⟨tr.set (i*(ts.length+1)+j) true,by rw[hdv]; rfl,HST4.out,fun hf=>HINV.out.down HINV1.out (fun _ _=>rfl) hf,fun q hq=> ?_⟩;rw[List.getElem?_set_ne (by omega)]
     ·have HM:=aa hM;clear hM;have ejm2:(j:Int)<(ts.length:Int):=by omega
      refine ak [some 14,none,some 7,none,some 2] (by kernel_rfl) (by kernel_rfl) (by kernel_rfl) ?_;simp only[bb,List.take_succ_cons,List.take_zero,List.drop_succ_cons,List.drop_zero];have HST3':=aa (HST3.out.grown (Below.refl _ w3).drew)
      repeat (first | (refine am rfl ?_; simp only[Act.put,aD,aE,aF]) | (refine aA rfl (fun K hK=> ?_); go_simp; refine hK _ ?_; clear hK K))
      refine az ?_;clear d0 d1 d2 d3 d5 d6 g0 g1 hx3;have hrv4:cd S w3.drew rv it.items:=cd.move HRV.out (fun k hk h=>⟨h,HST3'.out.below.block k (by omega)⟩);have HRV4:=aa hrv4;clear hrv4
      generalize w3.drew=w3d at *
      refine bt rfl (fun K hK=> ?_);go_wp2_with (go_at_call 116; refine(iL S it rv x _ HRV4.out (HPZ.out it (List.mem_of_getElem? HIT.out)) (HTZ.out x (List.mem_of_getElem? HX.out))).mono ?_; rintro e w4 ⟨rfl,hb4⟩; rw[HM.out]; have HST4:=aa (HST3'.out.grown hb4); clear hb4);have d6:=HST4.out.c6
      repeat (first | (refine am rfl ?_; simp only[Act.put,aD,aE,aF]) | (refine aA rfl (fun K hK=> ?_); go_simp; refine hK _ ?_; clear hK K))
      refine az ?_;refine bt rfl (fun K hK=> ?_);go_wp2_with (go_at_call 140; refine(HIH.out hin' _ _ (j+1) w4 (tr.set (i*(ts.length+1)+j) true) (by omega) (by omega) (by omega) HST4.out HINV1.out).mono ?_; rintro e w5 ⟨tr2,rfl,hst5,hinv5,hsame5⟩; have HST5:=aa hst5; have HINV5:=aa hinv5; have HSM5:=aa hsame5; clear hst5 hinv5 hsame5)
      repeat (first | (refine am rfl ?_; simp only[Act.put,aD,aE,aF]) | (refine aA rfl (fun K hK=> ?_); go_simp; refine hK _ ?_; clear hK K))
      refine az ?_;go_wp2_with fail;go_ret;have hdv:dv aG.dbl cF (ps.drop i) (ts.drop j)=dv aG.dbl cF (ps.drop (i+1)) (ts.drop (j+1)):=by rw[oI HIT.out HS.out HX.out,HM.out]; rfl
      refine⟨tr2,by rw[hdv]; rfl,HST5.out,fun hf=>HINV.out.down (HINV5.out (by rw[<-hdv]; exact hf)) (fun q hq=>HSM5.out q hq) hf,fun q hq=> ?_⟩;rw[HSM5.out q (by rw[Nat.add_mul]; omega),List.getElem?_set_ne (by omega)]
    ·have ejm:decide ((j:Int)<(ts.length:Int))=false:=by simpa using hjm
     go_quiet (fail)
     go_wp2_with fail;go_ret;have HST4:=aa (HST3.out.grown (ex (Below.refl _ w3) nq));have hdv:=show dv aG.dbl cF (ps.drop i) (ts.drop j)=false from ti HIT.out HS.out (by omega);refine⟨tr.set (i*(ts.length+1)+j) true,by rw[hdv]; rfl,HST4.out,fun hf=>HINV.out.down HINV1.out (fun _ _=>rfl) hf,fun q hq=> ?_⟩;rw[List.getElem?_set_ne (by omega)]
   ·have HS:=aa hs;clear hs
    go_enter Tryz.func140,Tryz.ntmps140
    go_wp2_with fail;clear c0 c1 c2 c3 c4 c5 c6 f4
    generalize hW:w.setCell ⟨B+4,i*(ts.length+1)+j,none⟩ (.bool true)=W at *
    clear hW hb1 hb2 hb3 hpN hNb;refine ak [some 5,none,some 1] (by kernel_rfl) (by kernel_rfl) (by kernel_rfl) ?_;simp only[bb,List.take_succ_cons,List.take_zero,List.drop_succ_cons,List.drop_zero];have HST2:=aa (HST1.out.grown (Below.refl _ W).drew)
    repeat (first | (refine am rfl ?_; simp only[Act.put,aD,aE,aF]) | (refine aA rfl (fun K hK=> ?_); go_simp; refine hK _ ?_; clear hK K))
    refine az ?_;clear d0 d1 d2 d3 d5 d6 g0 g1 HST1
    generalize W.drew=W2 at *
    refine bt rfl (fun K hK=> ?_);go_wp2_with (go_at_call 115; refine(kB it rv _).mono ?_; rintro e w3 ⟨rfl,hb3⟩; rw[HS.out]; have HST3:=aa (HST2.out.grown hb3); clear hb3 HST2)
    repeat (first | (refine am rfl ?_; simp only[Act.put,aD,aE,aF]) | (refine aA rfl (fun K hK=> ?_); go_simp; refine hK _ ?_; clear hK K))
    refine az ?_;go_wp2_with fail
    go_loopw [12] (fun en wr=> ∃(k:Nat) (tr':List Bool),j<=k/\k<=ts.length+1/\en= .int .i64 k/\eu w0 B N 140 (.slice (some ⟨pb,po,none⟩) ps.length pc) (.slice ta ts.length tc) (.func (.func 115) #[] #[]) (.func (.func 116) #[] #[]) tr' wr/\
      dU aG.dbl cF ps ts (i+1) tr'/\(∀q,q<(i+1)*(ts.length+1)->tr'[q]? =(tr.set (i*(ts.length+1)+j) true)[q]?)/\dv aG.dbl cF (ps.drop i) (ts.drop j)=(decide (k<=ts.length) && eT (dv aG.dbl cF (ps.drop (i+1))) (ts.drop k))) (fun en _=>ts.length+1-(intOf en).toNat)
    case atStart=>exact⟨j,_,Nat.le_refl _,by omega,rfl,HST3.out,HINV1.out,fun _ _=>rfl,by rw[tj HIT.out HS.out]; simp[hj]⟩
    case round=>
     obtain⟨k,tr',hjk,hk,rfl,hst4,hinv4,hsm4,hdv4⟩:=hrel;have HST4:=aa hst4;have HINV4:=aa hinv4;have HSM4:=aa hsm4;have HDV4:=aa hdv4;obtain⟨d0,d1,d2,d3,d5,d6,-,-,-,-⟩:=hst4;clear hinv4 hsm4 hdv4
     by_cases hkm:k<=ts.length
     ·cases hdvk:dv aG.dbl cF (ps.drop (i+1)) (ts.drop k)
      ·have HDVK:=aa hdvk;clear hdvk;go_wp2_with (go_at_call 140; refine(HIH.out hin' _ _ k wr tr' (by omega) (by omega) (by omega) HST4.out HINV4.out).mono ?_; rintro e w5 ⟨tr2,rfl,hst5,hinv5,hsame5⟩; rw[HDVK.out]; have HST5:=aa hst5; have HINV5:=aa hinv5; have HSM5:=aa hsame5; clear hst5 hinv5 hsame5)
       go_roundw
       case rel=>
        refine⟨k+1,tr2,by omega,by omega,by go_num,HST5.out,HINV5.out HDVK.out,fun q hq=>(HSM5.out q hq).trans (HSM4.out q hq), ?_⟩;rw[HDV4.out]
        by_cases hlt:k<ts.length
        ·rw[fp _ hlt,HDVK.out]; simp[hkm,show k+1<=ts.length by omega]
        ·rw[gd _ (show k=ts.length by omega),HDVK.out]; simp[show ¬k+1<=ts.length by omega]
       case measure=>simp[intOf]; omega
      ·have HDVK:=aa hdvk;clear hdvk;go_wp2_with (go_at_call 140; refine(HIH.out hin' _ _ k wr tr' (by omega) (by omega) (by omega) HST4.out HINV4.out).mono ?_; rintro e w5 ⟨tr2,rfl,hst5,hinv5,hsame5⟩; rw[HDVK.out]; have HST5:=aa hst5; have HINV5:=aa hinv5; have HSM5:=aa hsame5; clear hst5 hinv5 hsame5);go_ret;have hdv:dv aG.dbl cF (ps.drop i) (ts.drop j)=true:=by
        rw[HDV4.out]
        by_cases hlt:k<ts.length
        ·rw[fp _ hlt,HDVK.out]; simp[hkm]
        ·rw[gd _ (show k=ts.length by omega),HDVK.out]; simp[hkm]
       refine⟨tr2,by rw[hdv]; rfl,HST5.out,(fun hf=>by rw[hdv]at hf; cases hf),fun q hq=> ?_⟩;rw[HSM5.out q (by rw[Nat.add_mul]; omega),HSM4.out q (by rw[Nat.add_mul]; omega),List.getElem?_set_ne (by omega)]
     ·go_wp2_with fail;go_ret;have hdv:dv aG.dbl cF (ps.drop i) (ts.drop j)=false:=by rw[HDV4.out]; simp[hkm]
      refine⟨tr',by rw[hdv]; rfl,HST4.out,fun hf=>HINV.out.down HINV4.out HSM4.out hf,fun q hq=> ?_⟩;rw[HSM4.out q (by rw[Nat.add_mul]; omega),List.getElem?_set_ne (by omega)]
theorem zo (ps:List aG) (ts:List ByteArray) (S:Nat->Prop) (w0:World) (B:Nat) (pv tv:Value) (hB:w0.heap.size=B) (hp:cJ S w0 pv ps) (htv:aB S w0 1 tv ts.length (ts.map Value.string))
  (hn:ps.length<=65536) (hm:ts.length<=65536) (hps: ∀c∈ps,c.items.length<=65536) (hts: ∀x∈ts,x.size<=65536): ∀(d i:Nat),ps.length-i=d->i<=ps.length->sR aG.dbl cF ps ts i w0 B ((ps.length+1)*(ts.length+1)) 140 pv tv (.func (.func 115) #[] #[]) (.func (.func 116) #[] #[])
 | 0,i,hd,hi=>by
  intro ii jj j w tr h1 h2 hj hst hinv;subst h1 h2;exact lR ps ts S w0 B pv tv hB hp htv hn hm hps hts i j w tr hi hj (fun h=>by omega) hst hinv
 | d+1,i,hd,hi=>by
  intro ii jj j w tr h1 h2 hj hst hinv;subst h1 h2;exact lR ps ts S w0 B pv tv hB hp htv hn hm hps hts i j w tr hi hj (fun h=>zo ps ts S w0 B pv tv hB hp htv hn hm hps hts d (i+1) (by omega) (by omega)) hst hinv
theorem pF (ps:List aG) (ts:List ByteArray) (S:Nat->Prop) (w:World) (pv tv:Value) (hp:cJ S w pv ps) (htv:aB S w 1 tv ts.length (ts.map Value.string)) (hn:ps.length<=65536) (hm:ts.length<=65536) (hps: ∀c∈ps,c.items.length<=65536) (hts: ∀x∈ts,x.size<=65536):
  Calls Tryz.prog 114 #[pv,tv, .func (.func 115) #[] #[], .func (.func 116) #[] #[]] w fun e w'=>e= .returned (.bool (dv aG.dbl cF ps ts))/\Below w.heap.size w w':=by
 obtain⟨pa,pc,rfl,-,-,-⟩:=hp.shape et.len;obtain⟨_,ta,tc,rfl,-⟩:=id htv;have HF:=aa (zo ps ts S w w.heap.size _ _ rfl hp htv hn hm hps hts ps.length 0 rfl (Nat.zero_le _));clear hp htv hps hts;have hN:(ps.length+1)*(ts.length+1)<=65537*65537:=Nat.mul_le_mul (by omega) (by omega);have hX:((ps.length:Int)+1)*((ts.length:Int)+1)=(((ps.length+1)*(ts.length+1):Nat):Int):=by simp
 have hb1:0<=((ps.length:Int)+1)*((ts.length:Int)+1):=by rw[hX]; omega
 have hb2:((ps.length:Int)+1)*((ts.length:Int)+1)<=4295098369:=by rw[hX]; omega
 have hmk:=jM (P:=Tryz.prog) (t:=203) (e:=4) (z:= .bool false) ((ps.length+1)*(ts.length+1)) [.bool false] Tryz.underlying203 (bytes:=1) (sz:=1) (by kernel_rfl) rfl rfl (by omega) (by omega) (by omega);rw[<-hX]at hmk;clear hX hN
 go_enter Tryz.func114,Tryz.ntmps114
 go_wp2_with fail;refine(HF.out 0 0 0 _ (List.replicate ((ps.length+1)*(ts.length+1)) false) rfl rfl (Nat.zero_le _) (kD w _ _ _ _ _ _ _ _ _ _ _ _) ?_).mono ?_
 ·intro i' j' _ _ _ h;rw[List.getElem?_replicate]at h
  split at h<;> simp at h
 ·rintro e w1 ⟨tr',rfl,hst,-,-⟩;go_wp2_with fail;go_ret;exact⟨rfl,hst.below⟩
theorem wD {P T U:Type} (star:P->Bool) (m:P->T->Bool) (f:U->T): ∀(ps:List P) (us:List U),dv star (fun p u=>m p (f u)) ps us=dv star m ps (us.map f)
 | [],us=>by cases us<;> simp[dv]
 | p::ps,us=>by
  have ih:=wD star m f ps;unfold dv
  split
  ·induction us with
   | nil=>simp[eT,ih]
   | cons u us ih2=>simp only[eT,List.map_cons,ih,ih2]
  ·cases us with
   | nil=>simp[pT]
   | cons u us=>simp[pT,ih]
theorem wE (cs:List aG) (xs:List ByteArray):dv aG.dbl cF cs xs=fG cs (xs.map bl):=wD aG.dbl tg bl cs xs
theorem cH (cs:List aG) (xs:List ByteArray) (S:Nat->Prop) (w:World) (pv tv:Value) (hp:cJ S w pv cs) (htv:dq S w tv xs) (hn:cs.length<=65536) (hm:xs.length<=65536) (hps: ∀c∈cs,c.items.length<=65536) (hts: ∀x∈xs,x.size<=65536):
  Calls Tryz.prog 75 #[pv,tv] w fun e w'=>e= .returned (.bool (fG cs (xs.map bl)))/\Below w.heap.size w w':=by
 have H:=aa (pF cs xs S w pv tv hp htv hn hm hps hts);clear hp htv hps hts
 go_enter Tryz.func75,Tryz.ntmps75
 go_wp2_with fail;refine H.out.mono ?_;rintro e w1 ⟨rfl,hb⟩;go_wp2_with fail;go_ret;exact⟨al (wE cs xs),hb⟩
theorem gT {l:List UInt8} {cs:List aG} (h:fV l=some cs):cs.length<=16/\(∀c∈cs,c.items.length<=512)/\l.length<=512:=by
 unfold fV at h
 split at h
 ·simp at h
 ·rename_i h1
  split at h
  ·simp at h
  ·rename_i h2;have h3:=lH h;have h5:l.length<=512:=by omega
   refine⟨by omega,jv h (fun p hp=> ?_),h5⟩;have:=gi 47 l p hp; omega
theorem qJ {l:List UInt8} (h:bz l=true):l.length<=512/\(aw 47 l).length<=16:=by
 simp only[bz,Bool.and_eq_true,decide_eq_true_eq]at h; exact⟨h.1.1,h.1.2⟩
theorem rO {xs:List ByteArray} {l:List UInt8} (h:bz l=true) (hx:xs.map bl=aw 47 l):xs.length<=16/\ ∀x∈xs,x.size<=512:=by
 have h1:=qJ h;refine⟨by have:(xs.map bl).length=_:=congrArg _ hx; rw[List.length_map]at this; omega,fun x hm=> ?_⟩;have:=gi 47 l (bl x) (by rw[<-hx]; exact List.mem_map.2 ⟨x,hm,rfl⟩);rw[aN]; omega
theorem cJ.below {S:Nat->Prop} {w w':World} {v:Value} {cs:List aG} (h:cJ S w v cs) (hb:Below w.heap.size w w'):cJ (fun _=>True) w' v cs:=h.move (fun k hk _=>⟨trivial,hb.block k hk⟩)
def nQ (r:aJ):Value:= .agg #[.string ⟨r.pat.toArray⟩, .bool r.keep, .bool r.dir, .bool r.rooted]
theorem bT (s p:ByteArray) (b:Bool) (w:World) (h:Lib.hasPrefix (bl s) (bl p)=b):
  Calls Tryz.prog 71 #[.string s, .string p] w fun e w'=>e= .returned (.bool b)/\w=w':=by rw[<-h]; exact mT s p w
theorem ey (s:ByteArray) (c:UInt8) (b:Bool) (w:World) (h:(bl s).contains c=b):
  Calls Tryz.prog 111 #[.string s, .string ⟨#[c]⟩] w fun e w'=>e= .returned (.bool b)/\w=w':=by rw[<-h]; exact jw s c w
theorem cY (p:ByteArray) (k d r:Bool) (w:World) (he:iI w) (hp:p.size<=9223372036854775807):
  Calls Tryz.prog 74 #[.agg #[.string p, .bool k, .bool d, .bool r]] w (qR (aO ⟨bl p,k,d,r⟩) w):=by
 have HE:=aa he;clear he;have hb0:Below w.heap.size w (w.alloc (.cells #[.string p, .bool k, .bool d, .bool r] 141)):=(Below.refl _ _).alloc (Nat.le_refl _) _;have HB0:=aa hb0;clear hb0
 cases h1:Lib.hasPrefix (bl p) [33]
 ·have H1:=aa h1;clear h1
  cases h2:Lib.hasPrefix (bl p) [35]
  ·have H2:=aa h2;clear h2
   cases h3:(bl p).contains 47 && !r
   ·have HC:Hid (aO ⟨bl p,k,d,r⟩=fV (bl p)):=aa (by unfold aO; simp only[H1.out,H2.out,h3,Bool.or_self,Bool.false_eq_true,if_false]);have h3':(bl p).contains 47=true->r=true:=by intro h; rw[h]at h3; simpa using h3
    have H3:=aa h3';clear h3 h3'
    go_enter Tryz.func74,Tryz.ntmps74
    go_wp2_with fail;refine(bT p ⟨#[33]⟩ false _ H1.out).mono ?_;rintro e w' ⟨rfl,rfl⟩;go_wp2_with fail;refine(bT p ⟨#[35]⟩ false _ H2.out).mono ?_;rintro e w' ⟨rfl,rfl⟩;go_wp2_with fail
    cases h4:(bl p).contains 47
    ·have H4:=aa h4;clear h4;refine(ey p 47 false _ H4.out).mono ?_;rintro e w' ⟨rfl,rfl⟩;go_wp2_with fail
     cases hpat:fV (bl p)with
     | none=>
      have HP:=aa hpat
      clear hpat
      refine(dg p _ (HE.out.below HB0.out) hp).mono ?_;rw[HP.out];rintro e w1 ⟨rfl,hb1⟩;have HB1:=aa hb1;clear hb1;go_wp2_with fail
      go_ret2
      rw[HC.out,HP.out];exact⟨rfl,ag HB0.out HB1.out⟩
     | some cs=>
      have HP:=aa hpat
      clear hpat
      refine(dg p _ (HE.out.below HB0.out) hp).mono ?_;rw[HP.out];rintro e w1 ⟨v,rfl,hv1,hb1⟩;have HV1:=aa hv1;have HB1:=aa hb1;clear hb1 hv1;go_wp2_with fail
      go_ret2
      rw[HC.out,HP.out];exact⟨v,rfl,HV1.out.move (fun k _ hk=>⟨by simp at hk; omega,rfl⟩),ag HB0.out HB1.out⟩
    ·have H4:=aa h4;obtain rfl:r=true:=H3.out h4;clear h4;refine(ey p 47 true _ H4.out).mono ?_;rintro e w' ⟨rfl,rfl⟩;go_wp2_with fail
     cases hpat:fV (bl p)with
     | none=>
      have HP:=aa hpat
      clear hpat
      refine(dg p _ (HE.out.below HB0.out) hp).mono ?_;rw[HP.out];rintro e w1 ⟨rfl,hb1⟩;have HB1:=aa hb1;clear hb1;go_wp2_with fail
      go_ret2
      rw[HC.out,HP.out];exact⟨rfl,ag HB0.out HB1.out⟩
     | some cs=>
      have HP:=aa hpat
      clear hpat
      refine(dg p _ (HE.out.below HB0.out) hp).mono ?_;rw[HP.out];rintro e w1 ⟨v,rfl,hv1,hb1⟩;have HV1:=aa hv1;have HB1:=aa hb1;clear hb1 hv1;go_wp2_with fail
      go_ret2
      rw[HC.out,HP.out];exact⟨v,rfl,HV1.out.move (fun k _ hk=>⟨by simp at hk; omega,rfl⟩),ag HB0.out HB1.out⟩
   ·have HC:Hid (aO ⟨bl p,k,d,r⟩=none):=aa (by unfold aO; simp only[H1.out,H2.out,h3,Bool.or_self,Bool.false_eq_true,if_false,if_true]);rw[Bool.and_eq_true]at h3;obtain⟨h4,h5⟩:=h3;obtain rfl:r=false:=by simpa using h5
    have H4:=aa h4;clear h4 h5
    go_enter Tryz.func74,Tryz.ntmps74
    go_wp2_with fail;refine(bT p ⟨#[33]⟩ false _ H1.out).mono ?_;rintro e w' ⟨rfl,rfl⟩;go_wp2_with fail;refine(bT p ⟨#[35]⟩ false _ H2.out).mono ?_;rintro e w' ⟨rfl,rfl⟩;go_wp2_with fail;refine(ey p 47 true _ H4.out).mono ?_;rintro e w' ⟨rfl,rfl⟩;go_wp2_with fail
    go_ret2
    rw[HC.out];exact⟨rfl,HB0.out⟩
  ·have H2:=aa h2;clear h2;have HC:Hid (aO ⟨bl p,k,d,r⟩=none):=aa (by unfold aO; simp only[H1.out,H2.out,Bool.or_true,if_true])
   go_enter Tryz.func74,Tryz.ntmps74
   go_wp2_with fail;refine(bT p ⟨#[33]⟩ false _ H1.out).mono ?_;rintro e w' ⟨rfl,rfl⟩;go_wp2_with fail;refine(bT p ⟨#[35]⟩ true _ H2.out).mono ?_;rintro e w' ⟨rfl,rfl⟩;go_wp2_with fail
   go_ret2
   rw[HC.out];exact⟨rfl,HB0.out⟩
 ·have H1:=aa h1;clear h1;have HC:Hid (aO ⟨bl p,k,d,r⟩=none):=aa (by unfold aO; simp only[H1.out,Bool.true_or,if_true])
  go_enter Tryz.func74,Tryz.ntmps74
  go_wp2_with fail;refine(bT p ⟨#[33]⟩ true _ H1.out).mono ?_;rintro e w' ⟨rfl,rfl⟩;go_wp2_with fail
  go_ret2
  rw[HC.out];exact⟨rfl,HB0.out⟩
theorem ju (r:aJ) (w:World) (he:iI w) (hp:r.pat.length<=9223372036854775807):Calls Tryz.prog 74 #[nQ r] w (qR (aO r) w):=by
 have:=cY ⟨r.pat.toArray⟩ r.keep r.dir r.rooted w he (by rw[aN,kA]; exact hp);rw[kA]at this;exact this
def gY (r:aJ):List Value:=[.string ⟨r.pat.toArray⟩, .bool r.keep, .bool r.dir, .bool r.rooted]
def ni (c:List Value) (r:aJ):Prop:=c=gY r
theorem ni.len (c:List Value) (r:aJ) (h:ni c r):c.length=4:=by rw[h]; rfl
def bA (S:Nat->Prop) (w:World) (v:Value) (rs:List aJ):Prop:=aT S w 4 ni v rs
theorem bA.below {S:Nat->Prop} {w w':World} {v:Value} {rs:List aJ} (h:bA S w v rs) (hb:Below w.heap.size w w'):bA S w' v rs:=aT.below h (by omega) hb (fun _ _ _ h=>h)
theorem bA.cells {S:Nat->Prop} {w:World} {v:Value} {rs:List aJ} (h:bA S w v rs):
  ∃a cap,v= .slice a rs.length cap/\rs.length<=cap/\cap<=maxLen/\ ∀(k:Nat) r,rs[k]? =some r-> ∃b o,a=some ⟨b,o,none⟩/\w.cell? ⟨b,o+k*4,none⟩=some (.string ⟨r.pat.toArray⟩)/\
   w.cell? ⟨b,o+k*4+1,none⟩=some (.bool r.keep)/\w.cell? ⟨b,o+k*4+2,none⟩=some (.bool r.dir)/\w.cell? ⟨b,o+k*4+3,none⟩=some (.bool r.rooted):=by
 obtain⟨a,cap,hv,h1,h2,h3⟩:=aT.shape h ni.len;refine⟨a,cap,hv,h1,h2,fun k r hk=> ?_⟩;obtain⟨b,o,c,ha,_,hc,_,hj⟩:=h3 k r hk;rw[ni]at hc;subst hc;have j0:=hj 0 (by omega);have j1:=hj 1 (by omega);have j2:=hj 2 (by omega);have j3:=hj 3 (by omega);exact⟨b,o,ha,j0,j1,j2,j3⟩
theorem ku {S:Nat->Prop} {w:World} {a:Option Addr} {cap n:Nat} {xs:List ByteArray} (h:dq S w (.slice a xs.length cap) xs) (hn:n<=xs.length):dq S w (.slice a n cap) (xs.take n):=by
 obtain⟨_,a',cap',hv,h1,h2,h0⟩:=h
 cases hv
 have hl:(xs.take n).length=n:=by simp; omega
 refine⟨by simp,a,cap,by rw[hl],by omega,h2, ?_⟩
 rcases h0 with h0 | ⟨b,o,ha,hb,hc⟩
 ·left; omega
 ·right
  refine⟨b,o,ha,hb,fun j u hj=>hc j u ?_⟩;rw[List.map_take]at hj;rw[List.getElem?_take]at hj
  split at hj
  ·exact hj
  ·simp at hj
theorem kt {S:Nat->Prop} {w:World} {b o cap n:Nat} {xs:List ByteArray} (h:dq S w (.slice (some ⟨b,o,none⟩) xs.length cap) xs) (hn:n<xs.length) (m:Nat) (hm:n+m<=xs.length):
  dq S w (.slice (some ⟨b,o+n,none⟩) m (cap-n)) ((xs.take (n+m)).drop n):=by
 obtain⟨_,a',cap',hv,h1,h2,h0⟩:=h
 cases hv
 have hl:((xs.take (n+m)).drop n).length=m:=by simp; omega
 refine⟨by simp,_,_,by rw[hl],by omega,by omega, ?_⟩
 rcases h0 with h0 | ⟨b',o',ha,hb,hc⟩
 ·omega
 ·cases ha
  right
  refine⟨b,o+n,rfl,hb,fun j u hj=> ?_⟩;have:=hc (n+j) u (by
   rw[List.map_drop,List.map_take,List.getElem?_drop,List.getElem?_take]at hj
   split at hj
   ·exact hj
   ·simp at hj)
  rw[Nat.add_assoc]; exact this
theorem jh {S:Nat->Prop} {w:World} {a:Option Addr} {cap:Nat} {xs:List ByteArray} (h:dq S w (.slice a xs.length cap) xs) (hn:0<xs.length): ∃b o,a=some ⟨b,o,none⟩:=by
 obtain⟨_,a',cap',hv,h1,h2,h0⟩:=h
 cases hv
 rcases h0 with h0 | ⟨b',o',ha,hb,hc⟩
 ·omega
 ·exact⟨b',o',ha⟩
def ou (S:Nat->Prop) (w:World) (c:List Value) (cs:List aG):Prop:= ∃v,c=[v]/\cJ S w v cs
theorem ou.len {S:Nat->Prop} {w:World} (c:List Value) (cs:List aG) (h:ou S w c cs):c.length=1:=by obtain⟨v,rfl,_⟩:=h; rfl
theorem ou.move {S T:Nat->Prop} {w w':World} {c:List Value} {cs:List aG} (h:ou S w c cs) (hs: ∀k,k<w.heap.size->S k->T k/\w'.heap[k]? =w.heap[k]?):ou T w' c cs:=by
 obtain⟨v,rfl,hr⟩:=h;exact⟨v,rfl,hr.move hs⟩
structure dF (w : World) (cb n k : Nat) (us : List (List aG)) (wr : World) : Prop where
 box: ∃done,aV (ou (cb< ·) wr) done us/\wr.heap[cb]? =some (.cells (done++iU [.slice none 0 0] (n-k)).toArray 147 (0,0))
 below:Below cb w wr
 lt:cb<wr.heap.size
 len:us.length=k
theorem dF.grown {w:World} {cb n k:Nat} {us:List (List aG)} {wr w':World} (h:dF w cb n k us wr) (hb:Below wr.heap.size wr w'):dF w cb n k us w':=by
 obtain⟨⟨done,hr,hbx⟩,hbl,hlt,hl⟩:=h;exact⟨⟨done,hr.mono fun c x _ hc=>hc.move fun k hk h2=>⟨h2,hb.block k hk⟩,by rw[hb.block cb hlt]; exact hbx⟩,hbl.trans (hb.mono (by omega)),Nat.lt_of_lt_of_le hlt hb.size,hl⟩
theorem dF.cell {w:World} {cb n k:Nat} {us:List (List aG)} {wr:World} (h:dF w cb n k us wr) (hk:k<n):wr.cell? ⟨cb,k,none⟩=some (.slice none 0 0)/\wr.frozen? ⟨cb,k,none⟩=false:=by
 obtain⟨⟨done,hr,hbx⟩,hbl,hlt,hl⟩:=h;have hdl:=hr.len ou.len;obtain⟨m,hm⟩: ∃m,n-k=m+1:=⟨n-k-1,by omega⟩;rw[hm,dG]at hbx;refine⟨?_,ah hbx⟩;rw[ab hbx,List.getElem?_toArray,List.getElem?_append_right (by omega),show k-done.length=0 by omega]; rfl
theorem dF.put {w:World} {cb n k:Nat} {us:List (List aG)} {cs:List aG} {wr:World} {v:Value} (h:dF w cb n k us wr) (hk:k<n) (hv:cJ (cb< ·) wr v cs):dF w cb n (k+1) (us++[cs]) (wr.setCell ⟨cb,k,none⟩ v):=by
 obtain⟨⟨done,hr,hbx⟩,hbl,hlt,hl⟩:=h;have hdl:=hr.len ou.len;obtain⟨m,hm⟩: ∃m,n-k=m+1:=⟨n-k-1,by omega⟩;rw[hm,dG]at hbx;refine⟨⟨done++[v], ?_, ?_⟩,hbl.setCell (by simp) _,by simp[World.setCell]; exact hlt,by simp[hl]⟩
 ·refine aV.snoc (hr.mono fun c x _ hc=>hc.move fun j hj h2=>⟨h2,Below.heap_setCell _ _ _ _ (by simp; omega)⟩) ?_;exact⟨_,rfl,hv.move fun j hj h2=>⟨h2,Below.heap_setCell _ _ _ _ (by simp; omega)⟩⟩
 ·simp only[World.setCell,Array.getElem?_modify,if_true,hbx,Option.map_some];rw[show n-(k+1)=m by omega];simp only[List.setIfInBounds_toArray,Option.some.injEq,Obj.cells.injEq,and_true];rw[show k=done.length by omega];simp
theorem dF.get {w:World} {cb n k:Nat} {us:List (List aG)} {wr:World} (h:dF w cb n k us wr) {i:Nat} {cs:List aG} (hi:us[i]? =some cs): ∃v,wr.cell? ⟨cb,i,none⟩=some v/\cJ (cb< ·) wr v cs:=by
 obtain⟨⟨done,hr,hbx⟩,hbl,hlt,hl⟩:=h;obtain⟨c,⟨v,rfl,hv⟩,hj⟩:=hr.get ou.len hi;have h0:=hj 0 (by omega);simp only[Nat.mul_one,Nat.add_zero,List.getElem?_cons_zero]at h0;refine⟨v, ?_,hv⟩;rw[ab hbx,List.getElem?_toArray,List.getElem?_append_left (List.getElem?_eq_some_iff.1 h0).1];exact h0
theorem gt : ∀(rs:List aJ) (r:aJ),aL (rs++[r])=match aL rs with | none=>none | some us=>match aO r with | none=>none | some cs=>some (us++[(r,cs)])
 | [],r=>by simp only[List.nil_append,aL]; cases aO r<;> simp
 | q::rs,r=>by
  simp only[List.cons_append,aL];rw[gt rs r]
  cases aO q<;> simp
  cases aL rs<;> simp
  cases aO r<;> simp
theorem kX (rs qs:List aJ) (h:aL rs=none):aL (rs++qs)=none:=by
 induction rs with
 | nil=>simp[aL]at h
 | cons r rs ih=>
  simp only[List.cons_append,aL]at h ⊢
  cases hp:aO r with
  | none=>rfl
  | some c=>
   rw[hp]at h;simp only at h
   cases hps:aL rs with
   | none=>simp[ih hps]
   | some cs=>rw[hps]at h; simp at h
theorem dN : ∀ {rs:List aJ} {us:List (aJ×List aG)},aL rs=some us-> ∀u∈us,aO u.1=some u.2
 | [],us,h=>by simp[aL]at h; subst h; simp
 | r::rs,us,h=>by
  unfold aL at h
  split at h
  ·simp at h
  ·rename_i cs e
   split at h
   ·simp at h
   ·rename_i u2 e2;simp at h; subst h;intro u hu
    rcases List.mem_cons.1 hu with rfl | hu
    ·exact e
    ·exact dN e2 u hu
theorem dM : ∀ {rs:List aJ} {us:List (aJ×List aG)},aL rs=some us->us.map Prod.fst=rs
 | [],us,h=>by simp[aL]at h; subst h; rfl
 | r::rs,us,h=>by
  unfold aL at h
  split at h
  ·simp at h
  ·split at h
   ·simp at h
   ·rename_i u2 e2;simp at h; subst h;simp[dM e2]
theorem gg {r:aJ} {cs:List aG} (h:aO r=some cs):fV r.pat=some cs:=by
 unfold aO at h
 split at h
 ·simp at h
 ·split at h
  ·simp at h
  ·exact h
def Al (o:Bool×Int):Value:= .tuple #[.bool o.1, .int .i64 o.2]
theorem lT {dir:Bool} {parts:List (List UInt8)} {n k:Nat} {us:List (aJ×List aG)} {u:aJ×List aG} (b:Bool) (h:us[k]? =some u):
  dW dir parts n (us.drop k) b=dW dir parts n (us.drop (k+1)) (if dR dir u.1 u.2 parts n then !u.1.keep else b):=by
 obtain⟨hk,rfl⟩:=List.getElem?_eq_some_iff.1 h;rw[List.drop_eq_getElem_cons hk,dW]
def vO (dir:Bool) (parts:List (List UInt8)) (us:List (aJ×List aG)) (m:Nat) (ig:Bool):Prop:=
 (ig=false->bE dir parts us parts.length 1=bE dir parts us (parts.length-m) (m+1))/\(ig=true->bE dir parts us parts.length 1=true)
theorem zp {dir:Bool} {xs:List ByteArray} {us:List (aJ×List aG)} {m:Nat} (h:vO dir (xs.map bl) us m true):bE dir (xs.map bl) us xs.length 1=true:=by
 have:=h.2 rfl;rw[List.length_map]at this; exact this
theorem gZ (dir:Bool) (r:aJ) (cs:List aG) (parts:List (List UInt8)) (n:Nat) (d:Bool) (hd:(dir || decide (n<parts.length))=d):dR dir r cs parts n=((d || !r.dir) && fG cs (if r.rooted then parts.take n else(parts.take n).drop (n-1))):=by
 unfold dR; rw[hd]
def gq (dir:Bool) (parts:List (List UInt8)) (us:List (aJ×List aG)) (m k:Nat) (b:Bool):Prop:=
 dW dir parts (m+1) us false=dW dir parts (m+1) (us.drop k) b
theorem fS {dir:Bool} {parts:List (List UInt8)} {us:List (aJ×List aG)} {m k:Nat} {b:Bool} {r:aJ} {cs:List aG} (h:gq dir parts us m k b) (hu:us[k]? =some (r,cs)) (hh:dR dir r cs parts (m+1)=false):gq dir parts us m (k+1) b:=by
 unfold gq at *;rw[h,lT b hu,hh]; rfl
theorem iy {dir:Bool} {parts:List (List UInt8)} {us:List (aJ×List aG)} {m k:Nat} {b:Bool} {r:aJ} {cs:List aG} (h:gq dir parts us m k b) (hu:us[k]? =some (r,cs)) (hh:dR dir r cs parts (m+1)=true):gq dir parts us m (k+1) (!r.keep):=by
 unfold gq at *;rw[h,lT b hu,hh]; rfl
theorem pW (rs:List aJ) (S:Nat->Prop) (v:Value) (s:ByteArray) (dir:Bool) (w:World) (he:iI w) (hv:bA S w v rs) (hp: ∀r∈rs,r.pat.length<=9223372036854775807):
  Calls Tryz.prog 40 #[v, .string s, .bool dir] w fun e w'=>e= .returned (Al (cy rs (bl s) dir))/\Below w.heap.size w w':=by
 have HE:=aa he;have HV:=aa hv;have HP:=aa hp;obtain⟨a,cap,rfl,hc,hcm,-⟩:=hv.cells;clear he hv hp;unfold maxLen at hcm
 go_enter Tryz.func40,Tryz.ntmps40
 go_wp2_with fail;refine(kS s w HE.out).mono ?_;rintro e w1 (⟨hval,tv,xs,rfl,hxs,htv,hb1⟩ | ⟨hval,rfl,hb1⟩)
 ·obtain⟨hx1,hx2⟩:=rO hval hxs;obtain⟨ta,tc,rfl,htc1,htc2,-⟩:=htv.shape;have HB1:=aa hb1;have HTV:=aa htv;have HXS:=aa hxs;have HVAL:=aa hval;have HX2:=aa hx2;clear hb1 htv hxs hval hx2;unfold maxLen at htc2
  by_cases h256:rs.length<=256
  ·have hmk:=jM (P:=Tryz.prog) (t:=146) (e:=147) (z:= .slice none 0 0) rs.length [.slice none 0 0] Tryz.underlying146 (bytes:=24) (sz:=1) (by kernel_rfl) rfl rfl (by omega) (by omega) (by omega);go_wp2_with fail;clear hmk
   go_loopw [37] (fun i wr=> ∃(k:Nat) (us:List (aJ×List aG)),k<=rs.length/\i= .int .i64 k/\dF w1 w1.heap.size rs.length k (us.map Prod.snd) wr/\aL (rs.take k)=some us) (fun i _=>rs.length-(intOf i).toNat)
   case atStart=>
    refine⟨0,[],Nat.zero_le _,rfl,⟨⟨[],rfl, ?_⟩,(Below.refl _ _).alloc (Nat.le_refl _) _,by simp,rfl⟩,by simp[aL]⟩;have:=heap_alloc_new w1 (.cells (made [.slice none 0 0] rs.length) 147)
    simpa [made]using this
   case round=>
    obtain⟨k,us,hk,rfl,hI,hcomp⟩:=hrel;have HI:=aa hI;have HC:=aa hcomp;clear hI hcomp;have hBW:Below w1.heap.size w1 wr:=HI.out.below;have HBW:=aa hBW;clear hBW
    by_cases hlt:k<rs.length
    ·obtain⟨r,hr⟩: ∃r,rs[k]? =some r:=⟨rs[k],by simp[hlt]⟩;obtain⟨_,_,hv',_,_,hcells⟩:=(bA.below HV.out (ag HB1.out HBW.out)).cells
     cases hv'
     obtain⟨b,o,rfl,c0,c1,c2,c3⟩:=hcells k r hr;have hrp:=HP.out r (List.mem_of_getElem? hr);have HR:=aa hr;clear hr hcells;have hwb:Below wr.heap.size wr (wr.alloc (.cells #[.string ⟨r.pat.toArray⟩, .bool r.keep, .bool r.dir, .bool r.rooted] 141)):=(Below.refl _ _).alloc (Nat.le_refl _) _;have HWB:=aa hwb;clear hwb;have hsn:aL (rs.take (k+1))=match aO r with | none=>none | some cs=>some (us++[(r,cs)]):=by
      have e1:rs.take (k+1)=rs.take k++[r]:=by rw[List.take_add_one]; simp[HR.out]
      rw[e1,gt,HC.out]; try rfl
     have HSN:=aa hsn;clear hsn;go_wp2_with fail;have hE2:iI (wr.alloc (.cells #[.string ⟨r.pat.toArray⟩, .bool r.keep, .bool r.dir, .bool r.rooted] 141)):=HE.out.below (ag (ag HB1.out HBW.out) HWB.out)
     cases hcs:aO r with
     | none=>
      have HCS:=aa hcs;clear hcs;refine(ju r _ hE2 hrp).mono ?_;rw[HCS.out];rintro e w3 ⟨rfl,hb3⟩;have hb3':Below wr.heap.size wr w3:=ag HWB.out hb3;have HB3:=aa hb3';clear hb3 hb3' hE2;obtain⟨d0,d1⟩:=(HI.out.grown HB3.out).cell hlt;go_wp2_with fail
      go_ret2
      refine⟨?_,ag HB1.out ((HBW.out.trans (HB3.out.mono HBW.out.size)).setCell (by simp) _)⟩;have hnone:aL rs=none:=by
       rw[<-List.take_append_drop (k+1) rs];exact kX _ _ (by rw[HSN.out,HCS.out])
      rw[cy,if_neg (by rw[HVAL.out]; simp; omega),hnone]; rfl
     | some cs=>
      have HCS:=aa hcs;clear hcs;refine(ju r _ hE2 hrp).mono ?_;rw[HCS.out];rintro e w3 ⟨pv,rfl,hv3,hb3⟩;have hb3':Below wr.heap.size wr w3:=ag HWB.out hb3;have HB3:=aa hb3';have HI3:=aa (HI.out.grown hb3');have hcblt:=HI.out.lt;have HV3:=aa (cJ.move (T:=(w1.heap.size< ·)) (w':=w3) hv3 (fun j hj h2=>⟨by simp at h2; omega,rfl⟩));obtain⟨av,cv,rfl,hnv,hmv,-⟩:=hv3.shape et.len
      clear hb3 hb3' hE2 hv3;obtain⟨d0,d1⟩:=HI3.out.cell hlt;go_wp2_with fail
      go_roundw
      case rel=>
       refine⟨k+1,us++[(r,cs)],by omega,by go_num, ?_,by rw[HSN.out,HCS.out]⟩;have:=HI3.out.put hlt HV3.out
       simpa using this
      case measure=>simp[intOf]; omega
    ·obtain rfl:k=rs.length:=by omega
     have hcomp:aL rs=some us:=by rw[<-HC.out,List.take_length]
     have HCA:=aa hcomp;clear hcomp;have hul:us.length=rs.length:=by have:=HI.out.len; rw[List.length_map]at this; exact this
     have hparts:0<xs.length:=by
      have:=sF 47 (bl s); rw[<-HXS.out,List.length_map]at this; omega
     have hfin:cy rs (bl s) dir=(bE dir (xs.map bl) us xs.length 1,0):=by
      rw[cy,if_neg (by rw[HVAL.out]; simp; omega),HCA.out,<-HXS.out,List.length_map]
     have HFIN:=aa hfin;clear hfin;have HUL:=aa hul;clear hul;go_wp2_with fail
     go_loopw [14,15] (fun g n wr2=> ∃(m:Nat) (ig:Bool),m<=xs.length/\g= .bool ig/\n= .int .i64 ((m:Int)+1)/\dF w1 w1.heap.size rs.length rs.length (us.map Prod.snd) wr2/\
       vO dir (xs.map bl) us m ig) (fun _ n _=>xs.length+1-(intOf n).toNat)
     case atStart=>exact⟨0,false,Nat.zero_le _,rfl,rfl,HI.out,fun _=>rfl,fun h=>by cases h⟩
     case round=>
      clear HI HBW;obtain⟨m,ig,hm,rfl,rfl,hI2,hf⟩:=hrel;have HI:=aa hI2;have HF:=aa hf;clear hI2 hf
      cases ig
      ·by_cases hlt:m<xs.length
       ·have e1:decide ((m:Int)+1<=(xs.length:Int))=true:=by simp; omega
        have hstep:bE dir (xs.map bl) us (xs.length-m) (m+1)=if dW dir (xs.map bl) (m+1) us false then true else bE dir (xs.map bl) us (xs.length-(m+1)) (m+1+1):=by
         rw[show xs.length-m=(xs.length-(m+1))+1 by omega,bE]
        have HSTEP:=aa hstep;clear hstep
        cases dir
        ·by_cases hml:m+1<xs.length
         ·have hml2:decide ((m:Int)+1<(xs.length:Int))=true:=by simp; omega
          have HD:=aa (show(false || decide (m+1<(xs.map bl).length))=true by simp[hml]);go_wp2_with fail
          go_loopw [14,72] (fun g i wr3=> ∃(k:Nat) (b:Bool),k<=rs.length/\g= .bool b/\i= .int .i64 k/\dF w1 w1.heap.size rs.length rs.length (us.map Prod.snd) wr3/\gq false (xs.map bl) us m k b) (fun _ i _=>rs.length-(intOf i).toNat)
          case atStart=>exact⟨0,false,Nat.zero_le _,rfl,rfl,HI.out,rfl⟩
          case round=>
           clear HI;obtain⟨k,b,hk,rfl,rfl,hI2,hin⟩:=hrel;have HI:=aa hI2;have HIN:=aa hin;clear hI2 hin
           by_cases hkl:k<rs.length
           ·obtain⟨r,hr⟩: ∃r,rs[k]? =some r:=⟨rs[k],by simp[hkl]⟩;obtain⟨cs,hu⟩: ∃cs,us[k]? =some (r,cs):=by
             have h1:=dM HCA.out;have hk2:k<us.length:=by rw[HUL.out]; exact hkl
             have h2:(us.map Prod.fst)[k]? =some r:=by rw[h1]; exact hr
             rw[List.getElem?_map,List.getElem?_eq_getElem hk2]at h2;refine⟨us[k].2, ?_⟩;rw[List.getElem?_eq_getElem hk2];simp only[Option.map_some,Option.some.injEq]at h2;rw[<-h2]
            obtain⟨hc1,hc2,-⟩:=gT (gg (dN HCA.out _ (List.mem_of_getElem? hu)));obtain⟨pv,hpc,hpv⟩:=HI.out.get (i:=k) (cs:=cs) (by rw[List.getElem?_map,hu]; rfl);obtain⟨pa,pcap,rfl,-,-,-⟩:=hpv.shape et.len;have hbig:Below w.heap.size w wr:=ag HB1.out HI.out.below;obtain⟨_,_,hv',_,_,hcells⟩:=(bA.below HV.out hbig).cells
            cases hv'
            obtain⟨b0,o0,rfl,c0,c1,c2,c3⟩:=hcells k r hr;have hst:dq (fun _=>True) wr (.slice ta xs.length tc) xs:=aB.weak (aB.below HTV.out (by omega) HI.out.below) (fun _ _=>trivial);obtain⟨tb,tof,rfl⟩:=jh hst hparts;have HST:=aa hst;have HU:=aa hu;have HC2:=aa hc2;have HPV:=aa hpv;have HH:=aa (gZ false r cs (xs.map bl) (m+1) true HD.out)
            obtain⟨rp,rk,rd,rr⟩:=r;simp only at c0 c1 c2 c3;clear hr hu hc2 hcells hbig hpv hst;have hwb:Below wr.heap.size wr (wr.alloc (.cells #[.string ⟨rp.toArray⟩, .bool rk, .bool rd, .bool rr] 141)):=(Below.refl _ _).alloc (Nat.le_refl _) _;have HWB:=aa hwb;have hpc2:=hwb.cell (ax hpc);rw[hpc]at hpc2;have HST2:=aa (show dq (fun _=>True) (wr.alloc (.cells #[.string ⟨rp.toArray⟩, .bool rk, .bool rd, .bool rr] 141)) _ xs from aB.below HST.out (by omega) hwb)
            clear hwb;have k4: ∀w4:World,Below (wr.alloc (.cells #[.string ⟨rp.toArray⟩, .bool rk, .bool rd, .bool rr] 141)).heap.size (wr.alloc (.cells #[.string ⟨rp.toArray⟩, .bool rk, .bool rd, .bool rr] 141)) w4->w4.cell? ⟨wr.heap.size,1,none⟩=some (.bool rk):=fun w4 hb4=>(hb4.cell (p:=⟨wr.heap.size,1,none⟩) (by simp)).trans (by simp)
            have K4:=aa k4;clear k4
            cases rr
            ·cases hmb:fG cs (((xs.take (m+1)).drop m).map bl)
             all_goals (
              have HMB:=aa hmb;clear hmb
              cases rd
              all_goals (
               go_wp2_with (go_at_call 75; refine(cH cs ((xs.take (m+1)).drop m) (fun _=>True) _ _ _ (HPV.out.below HWB.out) (kt HST2.out hlt 1 (by omega)) (by omega) (by simp; omega) (fun c hc=>by have:=HC2.out c hc; omega) (fun x hx=>by have:=HX2.out x (List.mem_of_mem_take (List.mem_of_mem_drop hx)); omega)).mono ?_; rintro e w4 ⟨rfl,hb4⟩; rw[HMB.out]; have c4:=K4.out _ hb4; have HB4:=aa hb4; clear hb4)
               go_roundw
               case rel=>exact⟨k+1,_,by omega,rfl,by go_num,HI.out.grown (by first | exact ag HWB.out HB4.out | exact HWB.out),by first | exact fS HIN.out HU.out (HH.out.trans (by simp[<-List.map_take,<-List.map_drop,HMB.out])) | exact iy HIN.out HU.out (HH.out.trans (by simp[<-List.map_take,<-List.map_drop,HMB.out]))⟩
               case measure=>simp[intOf]; omega))
            ·cases hmb:fG cs ((xs.take (m+1)).map bl)
             all_goals (
              have HMB:=aa hmb;clear hmb
              cases rd
              all_goals (
               go_wp2_with (go_at_call 75; refine(cH cs (xs.take (m+1)) (fun _=>True) _ _ _ (HPV.out.below HWB.out) (ku HST2.out (by omega)) (by omega) (by simp; omega) (fun c hc=>by have:=HC2.out c hc; omega) (fun x hx=>by have:=HX2.out x (List.mem_of_mem_take hx); omega)).mono ?_; rintro e w4 ⟨rfl,hb4⟩; rw[HMB.out]; have c4:=K4.out _ hb4; have HB4:=aa hb4; clear hb4)
               go_roundw
               case rel=>exact⟨k+1,_,by omega,rfl,by go_num,HI.out.grown (by first | exact ag HWB.out HB4.out | exact HWB.out),by first | exact fS HIN.out HU.out (HH.out.trans (by simp[<-List.map_take,HMB.out])) | exact iy HIN.out HU.out (HH.out.trans (by simp[<-List.map_take,HMB.out]))⟩
               case measure=>simp[intOf]; omega))
           ·obtain rfl:k=rs.length:=by omega
            have hat:dW false (xs.map bl) (m+1) us false=b:=by
             have:=HIN.out;unfold gq at this;rw[this,<-HUL.out,List.drop_length]; rfl
            have HAT:=aa hat
            clear hat
            go_wp2_with fail
            go_roundw
            case rel=>
             refine⟨m+1,b,by omega,rfl,by go_num,HI.out,fun hb=> ?_,fun hb=> ?_⟩
             ·have:=HF.out.1 rfl;rw[this,List.length_map,HSTEP.out,HAT.out,hb]; rfl
             ·have:=HF.out.1 rfl;rw[this,List.length_map,HSTEP.out,HAT.out,hb]; rfl
            case measure=>simp[intOf]; omega
         ·have hml2:decide ((m:Int)+1<(xs.length:Int))=false:=by simp; omega
          have HD:=aa (show(false || decide (m+1<(xs.map bl).length))=false by simp[hml]);go_wp2_with fail
          go_loopw [14,72] (fun g i wr3=> ∃(k:Nat) (b:Bool),k<=rs.length/\g= .bool b/\i= .int .i64 k/\dF w1 w1.heap.size rs.length rs.length (us.map Prod.snd) wr3/\gq false (xs.map bl) us m k b) (fun _ i _=>rs.length-(intOf i).toNat)
          case atStart=>exact⟨0,false,Nat.zero_le _,rfl,rfl,HI.out,rfl⟩
          case round=>
           clear HI;obtain⟨k,b,hk,rfl,rfl,hI2,hin⟩:=hrel;have HI:=aa hI2;have HIN:=aa hin;clear hI2 hin
           by_cases hkl:k<rs.length
           ·obtain⟨r,hr⟩: ∃r,rs[k]? =some r:=⟨rs[k],by simp[hkl]⟩;obtain⟨cs,hu⟩: ∃cs,us[k]? =some (r,cs):=by
             have h1:=dM HCA.out;have hk2:k<us.length:=by rw[HUL.out]; exact hkl
             have h2:(us.map Prod.fst)[k]? =some r:=by rw[h1]; exact hr
             rw[List.getElem?_map,List.getElem?_eq_getElem hk2]at h2;refine⟨us[k].2, ?_⟩;rw[List.getElem?_eq_getElem hk2];simp only[Option.map_some,Option.some.injEq]at h2;rw[<-h2]
            obtain⟨hc1,hc2,-⟩:=gT (gg (dN HCA.out _ (List.mem_of_getElem? hu)));obtain⟨pv,hpc,hpv⟩:=HI.out.get (i:=k) (cs:=cs) (by rw[List.getElem?_map,hu]; rfl);obtain⟨pa,pcap,rfl,-,-,-⟩:=hpv.shape et.len;have hbig:Below w.heap.size w wr:=ag HB1.out HI.out.below;obtain⟨_,_,hv',_,_,hcells⟩:=(bA.below HV.out hbig).cells
            cases hv'
            obtain⟨b0,o0,rfl,c0,c1,c2,c3⟩:=hcells k r hr;have hst:dq (fun _=>True) wr (.slice ta xs.length tc) xs:=aB.weak (aB.below HTV.out (by omega) HI.out.below) (fun _ _=>trivial);obtain⟨tb,tof,rfl⟩:=jh hst hparts;have HST:=aa hst;have HU:=aa hu;have HC2:=aa hc2;have HPV:=aa hpv;have HH:=aa (gZ false r cs (xs.map bl) (m+1) false HD.out)
            obtain⟨rp,rk,rd,rr⟩:=r;simp only at c0 c1 c2 c3;clear hr hu hc2 hcells hbig hpv hst;have hwb:Below wr.heap.size wr (wr.alloc (.cells #[.string ⟨rp.toArray⟩, .bool rk, .bool rd, .bool rr] 141)):=(Below.refl _ _).alloc (Nat.le_refl _) _;have HWB:=aa hwb;have hpc2:=hwb.cell (ax hpc);rw[hpc]at hpc2;have HST2:=aa (show dq (fun _=>True) (wr.alloc (.cells #[.string ⟨rp.toArray⟩, .bool rk, .bool rd, .bool rr] 141)) _ xs from aB.below HST.out (by omega) hwb)
            clear hwb;have k4: ∀w4:World,Below (wr.alloc (.cells #[.string ⟨rp.toArray⟩, .bool rk, .bool rd, .bool rr] 141)).heap.size (wr.alloc (.cells #[.string ⟨rp.toArray⟩, .bool rk, .bool rd, .bool rr] 141)) w4->w4.cell? ⟨wr.heap.size,1,none⟩=some (.bool rk):=fun w4 hb4=>(hb4.cell (p:=⟨wr.heap.size,1,none⟩) (by simp)).trans (by simp)
            have K4:=aa k4;clear k4
            cases rr
            ·cases hmb:fG cs (((xs.take (m+1)).drop m).map bl)
             all_goals (
              have HMB:=aa hmb;clear hmb
              cases rd
              all_goals (
               go_wp2_with (go_at_call 75; refine(cH cs ((xs.take (m+1)).drop m) (fun _=>True) _ _ _ (HPV.out.below HWB.out) (kt HST2.out hlt 1 (by omega)) (by omega) (by simp; omega) (fun c hc=>by have:=HC2.out c hc; omega) (fun x hx=>by have:=HX2.out x (List.mem_of_mem_take (List.mem_of_mem_drop hx)); omega)).mono ?_; rintro e w4 ⟨rfl,hb4⟩; rw[HMB.out]; have c4:=K4.out _ hb4; have HB4:=aa hb4; clear hb4)
               go_roundw
               case rel=>exact⟨k+1,_,by omega,rfl,by go_num,HI.out.grown (by first | exact ag HWB.out HB4.out | exact HWB.out),by first | exact fS HIN.out HU.out (HH.out.trans (by simp[<-List.map_take,<-List.map_drop,HMB.out])) | exact iy HIN.out HU.out (HH.out.trans (by simp[<-List.map_take,<-List.map_drop,HMB.out]))⟩
               case measure=>simp[intOf]; omega))
            ·cases hmb:fG cs ((xs.take (m+1)).map bl)
             all_goals (
              have HMB:=aa hmb;clear hmb
              cases rd
              all_goals (
               go_wp2_with (go_at_call 75; refine(cH cs (xs.take (m+1)) (fun _=>True) _ _ _ (HPV.out.below HWB.out) (ku HST2.out (by omega)) (by omega) (by simp; omega) (fun c hc=>by have:=HC2.out c hc; omega) (fun x hx=>by have:=HX2.out x (List.mem_of_mem_take hx); omega)).mono ?_; rintro e w4 ⟨rfl,hb4⟩; rw[HMB.out]; have c4:=K4.out _ hb4; have HB4:=aa hb4; clear hb4)
               go_roundw
               case rel=>exact⟨k+1,_,by omega,rfl,by go_num,HI.out.grown (by first | exact ag HWB.out HB4.out | exact HWB.out),by first | exact fS HIN.out HU.out (HH.out.trans (by simp[<-List.map_take,HMB.out])) | exact iy HIN.out HU.out (HH.out.trans (by simp[<-List.map_take,HMB.out]))⟩
               case measure=>simp[intOf]; omega))
           ·obtain rfl:k=rs.length:=by omega
            have hat:dW false (xs.map bl) (m+1) us false=b:=by
             have:=HIN.out;unfold gq at this;rw[this,<-HUL.out,List.drop_length]; rfl
            have HAT:=aa hat
            clear hat
            go_wp2_with fail
            go_roundw
            case rel=>
             refine⟨m+1,b,by omega,rfl,by go_num,HI.out,fun hb=> ?_,fun hb=> ?_⟩
             ·have:=HF.out.1 rfl;rw[this,List.length_map,HSTEP.out,HAT.out,hb]; rfl
             ·have:=HF.out.1 rfl;rw[this,List.length_map,HSTEP.out,HAT.out,hb]; rfl
            case measure=>simp[intOf]; omega
        ·have HD:=aa (show(true || decide (m+1<(xs.map bl).length))=true by simp);go_wp2_with fail
         go_loopw [14,72] (fun g i wr3=> ∃(k:Nat) (b:Bool),k<=rs.length/\g= .bool b/\i= .int .i64 k/\dF w1 w1.heap.size rs.length rs.length (us.map Prod.snd) wr3/\gq true (xs.map bl) us m k b) (fun _ i _=>rs.length-(intOf i).toNat)
         case atStart=>exact⟨0,false,Nat.zero_le _,rfl,rfl,HI.out,rfl⟩
         case round=>
          clear HI;obtain⟨k,b,hk,rfl,rfl,hI2,hin⟩:=hrel;have HI:=aa hI2;have HIN:=aa hin;clear hI2 hin
          by_cases hkl:k<rs.length
          ·obtain⟨r,hr⟩: ∃r,rs[k]? =some r:=⟨rs[k],by simp[hkl]⟩;obtain⟨cs,hu⟩: ∃cs,us[k]? =some (r,cs):=by
            have h1:=dM HCA.out;have hk2:k<us.length:=by rw[HUL.out]; exact hkl
            have h2:(us.map Prod.fst)[k]? =some r:=by rw[h1]; exact hr
            rw[List.getElem?_map,List.getElem?_eq_getElem hk2]at h2;refine⟨us[k].2, ?_⟩;rw[List.getElem?_eq_getElem hk2];simp only[Option.map_some,Option.some.injEq]at h2;rw[<-h2]
           obtain⟨hc1,hc2,-⟩:=gT (gg (dN HCA.out _ (List.mem_of_getElem? hu)));obtain⟨pv,hpc,hpv⟩:=HI.out.get (i:=k) (cs:=cs) (by rw[List.getElem?_map,hu]; rfl);obtain⟨pa,pcap,rfl,-,-,-⟩:=hpv.shape et.len;have hbig:Below w.heap.size w wr:=ag HB1.out HI.out.below;obtain⟨_,_,hv',_,_,hcells⟩:=(bA.below HV.out hbig).cells
           cases hv'
           obtain⟨b0,o0,rfl,c0,c1,c2,c3⟩:=hcells k r hr;have hst:dq (fun _=>True) wr (.slice ta xs.length tc) xs:=aB.weak (aB.below HTV.out (by omega) HI.out.below) (fun _ _=>trivial);obtain⟨tb,tof,rfl⟩:=jh hst hparts;have HST:=aa hst;have HU:=aa hu;have HC2:=aa hc2;have HPV:=aa hpv;have HH:=aa (gZ true r cs (xs.map bl) (m+1) true HD.out)
           obtain⟨rp,rk,rd,rr⟩:=r;simp only at c0 c1 c2 c3;clear hr hu hc2 hcells hbig hpv hst;have hwb:Below wr.heap.size wr (wr.alloc (.cells #[.string ⟨rp.toArray⟩, .bool rk, .bool rd, .bool rr] 141)):=(Below.refl _ _).alloc (Nat.le_refl _) _;have HWB:=aa hwb;have hpc2:=hwb.cell (ax hpc);rw[hpc]at hpc2;have HST2:=aa (show dq (fun _=>True) (wr.alloc (.cells #[.string ⟨rp.toArray⟩, .bool rk, .bool rd, .bool rr] 141)) _ xs from aB.below HST.out (by omega) hwb)
           clear hwb;have k4: ∀w4:World,Below (wr.alloc (.cells #[.string ⟨rp.toArray⟩, .bool rk, .bool rd, .bool rr] 141)).heap.size (wr.alloc (.cells #[.string ⟨rp.toArray⟩, .bool rk, .bool rd, .bool rr] 141)) w4->w4.cell? ⟨wr.heap.size,1,none⟩=some (.bool rk):=fun w4 hb4=>(hb4.cell (p:=⟨wr.heap.size,1,none⟩) (by simp)).trans (by simp)
           have K4:=aa k4;clear k4
           cases rr
           ·cases hmb:fG cs (((xs.take (m+1)).drop m).map bl)
            all_goals (
             have HMB:=aa hmb;clear hmb
             cases rd
             all_goals (
              go_wp2_with (go_at_call 75; refine(cH cs ((xs.take (m+1)).drop m) (fun _=>True) _ _ _ (HPV.out.below HWB.out) (kt HST2.out hlt 1 (by omega)) (by omega) (by simp; omega) (fun c hc=>by have:=HC2.out c hc; omega) (fun x hx=>by have:=HX2.out x (List.mem_of_mem_take (List.mem_of_mem_drop hx)); omega)).mono ?_; rintro e w4 ⟨rfl,hb4⟩; rw[HMB.out]; have c4:=K4.out _ hb4; have HB4:=aa hb4; clear hb4)
              go_roundw
              case rel=>exact⟨k+1,_,by omega,rfl,by go_num,HI.out.grown (by first | exact ag HWB.out HB4.out | exact HWB.out),by first | exact fS HIN.out HU.out (HH.out.trans (by simp[<-List.map_take,<-List.map_drop,HMB.out])) | exact iy HIN.out HU.out (HH.out.trans (by simp[<-List.map_take,<-List.map_drop,HMB.out]))⟩
              case measure=>simp[intOf]; omega))
           ·cases hmb:fG cs ((xs.take (m+1)).map bl)
            all_goals (
             have HMB:=aa hmb;clear hmb
             cases rd
             all_goals (
              go_wp2_with (go_at_call 75; refine(cH cs (xs.take (m+1)) (fun _=>True) _ _ _ (HPV.out.below HWB.out) (ku HST2.out (by omega)) (by omega) (by simp; omega) (fun c hc=>by have:=HC2.out c hc; omega) (fun x hx=>by have:=HX2.out x (List.mem_of_mem_take hx); omega)).mono ?_; rintro e w4 ⟨rfl,hb4⟩; rw[HMB.out]; have c4:=K4.out _ hb4; have HB4:=aa hb4; clear hb4)
              go_roundw
              case rel=>exact⟨k+1,_,by omega,rfl,by go_num,HI.out.grown (by first | exact ag HWB.out HB4.out | exact HWB.out),by first | exact fS HIN.out HU.out (HH.out.trans (by simp[<-List.map_take,HMB.out])) | exact iy HIN.out HU.out (HH.out.trans (by simp[<-List.map_take,HMB.out]))⟩
              case measure=>simp[intOf]; omega))
          ·obtain rfl:k=rs.length:=by omega
           have hat:dW true (xs.map bl) (m+1) us false=b:=by
            have:=HIN.out;unfold gq at this;rw[this,<-HUL.out,List.drop_length]; rfl
           have HAT:=aa hat
           clear hat
           go_wp2_with fail
           go_roundw
           case rel=>
            refine⟨m+1,b,by omega,rfl,by go_num,HI.out,fun hb=> ?_,fun hb=> ?_⟩
            ·have:=HF.out.1 rfl;rw[this,List.length_map,HSTEP.out,HAT.out,hb]; rfl
            ·have:=HF.out.1 rfl;rw[this,List.length_map,HSTEP.out,HAT.out,hb]; rfl
           case measure=>simp[intOf]; omega
       ·have e1:decide ((m:Int)+1<=(xs.length:Int))=false:=by simp; omega
        go_wp2_with fail
        go_ret2
        refine⟨?_,ag HB1.out HI.out.below⟩;have:=HF.out.1 rfl;rw[List.length_map,show xs.length-m=0 by omega]at this;rw[HFIN.out,this]; rfl
      ·by_cases hlt:m<xs.length
       ·have e1:decide ((m:Int)+1<=(xs.length:Int))=true:=by simp; omega
        go_wp2_with fail
        go_ret2
        exact⟨by rw[HFIN.out,zp HF.out]; rfl,ag HB1.out HI.out.below⟩
       ·have e1:decide ((m:Int)+1<=(xs.length:Int))=false:=by simp; omega
        go_wp2_with fail
        go_ret2
        exact⟨by rw[HFIN.out,zp HF.out]; rfl,ag HB1.out HI.out.below⟩
  ·have h256':256<rs.length:=by omega
   go_wp2_with fail
   go_ret2
   exact⟨by rw[cy,if_pos (.inr h256')]; rfl,HB1.out⟩
 ·have HB1:=aa hb1;have HVAL:=aa hval;clear hb1 hval;go_wp2_with fail
  go_ret2
  exact⟨by rw[cy,if_pos (.inl HVAL.out)]; rfl,HB1.out⟩
def qN :Value:= .agg #[.string ⟨#[]⟩, .bool false, .bool false, .bool false]
def ei (o:Option aJ):Value:=match o with
 | some r=> .tuple #[nQ r, .bool true]
 | none=> .tuple #[qN, .bool false]
def Ai (s p:ByteArray) (w:World) (e:Ending) (w':World):Prop:= ∃s1 b,e= .returned (.tuple #[.string s1, .bool b])/\bl s1=Lib.trimPrefix (bl s) (bl p)/\b=Lib.hasPrefix (bl s) (bl p)/\w=w'
def Aj (s p:ByteArray) (w:World) (e:Ending) (w':World):Prop:= ∃s1 b,e= .returned (.tuple #[.string s1, .bool b])/\bl s1=Lib.trimSuffix (bl s) (bl p)/\b=Lib.hasSuffix (bl s) (bl p)/\w=w'
theorem jx (s p:ByteArray) (w:World):Calls Tryz.prog 109 #[.string s, .string p] w (Ai s p w):=
 (mR s p w).mono fun _ _ ⟨he,hw⟩=>⟨_,_,he,kA _,rfl,hw⟩
theorem oF (s p:ByteArray) (w:World) (hs:s.size<=9223372036854775807):Calls Tryz.prog 110 #[.string s, .string p] w (Aj s p w):=
 (mS s p w hs).mono fun _ _ ⟨he,hw⟩=>⟨_,_,he,kA _,rfl,hw⟩
theorem ij (l p:List UInt8):(Lib.trimPrefix l p).length<=l.length:=by
 unfold Lib.trimPrefix; split<;> simp
theorem mE (l p:List UInt8):(Lib.trimSuffix l p).length<=l.length:=by
 unfold Lib.trimSuffix; split<;> simp<;> omega
theorem iQ (s:ByteArray) (w:World) (he:iI w) (hs:s.size<=65536):
  Calls Tryz.prog 72 #[.string s] w fun e w'=>e= .returned (ei (bI (bl s)))/\Below w.heap.size w w':=by
 have HE:=aa he;clear he
 go_enter Tryz.func72,Tryz.ntmps72
 go_wp2_with fail;refine(jx s ⟨#[33]⟩ _).mono ?_;rintro e w' ⟨s1,b1,rfl,h1,h1',rfl⟩;have H1:=aa h1;have H1':=aa h1';have hl1:s1.size<=65536:=by have:=ij (bl s) (bl ⟨#[33]⟩); rw[<-h1,<-aN,<-aN]at this; omega
 clear h1 h1';go_wp2_with fail;refine(jx s1 ⟨#[47]⟩ _).mono ?_;rintro e w' ⟨s2,b2,rfl,h2,h2',rfl⟩;have H2:=aa h2;have H2':=aa h2';have hl2:s2.size<=65536:=by have:=ij (bl s1) (bl ⟨#[47]⟩); rw[<-h2,<-aN,<-aN]at this; omega
 clear h2 h2';go_wp2_with fail;refine(oF s2 ⟨#[47]⟩ _ (by omega)).mono ?_;rintro e w' ⟨s3,b3,rfl,h3,h3',rfl⟩;have H3:=aa h3;have H3':=aa h3';have hl3:s3.size<=65536:=by have:=mE (bl s2) (bl ⟨#[47]⟩); rw[<-h3,<-aN,<-aN]at this; omega
 clear h3 h3';have hru:nP (bl s)=⟨bl s3,b1,b3,b2 || (bl s3).contains 47⟩:=by
  rw[H3.out,H1'.out,H3'.out,H2'.out,H2.out,H1.out]; rfl
 cases b2
 ·rw[Bool.false_or]at hru
  cases hct:(bl s3).contains 47
  ·have HCT:=aa hct;rw[hct]at hru;have HRU:=aa hru;clear hct hru;go_wp2_with fail;refine(ey s3 47 false _ HCT.out).mono ?_;rintro e w' ⟨rfl,rfl⟩;go_wp2_with fail;have hcp:aO (nP (bl s))=aO ⟨bl s3,b1,b3,false⟩:=by rw[HRU.out]
   have HCP:=aa hcp;clear hcp;have hb0:Below w.heap.size w ((w.alloc (.cells #[.string ⟨#[]⟩, .bool false, .bool false, .bool false] 141)).alloc (.cells #[.string s3, .bool b1, .bool b3, .bool false] 141)):=((Below.refl _ _).alloc (Nat.le_refl _) _).alloc (by simp) _;have HB0:=aa hb0;clear hb0
   cases hcs:aO ⟨bl s3,b1,b3,false⟩with
   | none=>
    have HCS:=aa hcs;clear hcs;refine(cY s3 b1 b3 false _ (HE.out.below HB0.out) (by omega)).mono ?_;rw[HCS.out];rintro e w3 ⟨rfl,hb3⟩;have hres:w3.heap[w.heap.size]? =some (.cells #[.string ⟨#[]⟩, .bool false, .bool false, .bool false] 141 (0,0)):=by
     rw[hb3.block _ (by simp; omega),Below.heap_alloc _ _ _ (by simp)]; exact heap_alloc_new w _
    have hb3':=ag HB0.out hb3;have HB3:=aa hb3';clear hb3 hb3';have r0:w3.cell? ⟨w.heap.size,0,none⟩=some (.string ⟨#[]⟩):=by rw[ab hres]; rfl
    have r1:w3.cell? ⟨w.heap.size,1,none⟩=some (.bool false):=by rw[ab hres]; rfl
    have r2:w3.cell? ⟨w.heap.size,2,none⟩=some (.bool false):=by rw[ab hres]; rfl
    have r3:w3.cell? ⟨w.heap.size,3,none⟩=some (.bool false):=by rw[ab hres]; rfl
    have f0:w3.frozen? ⟨w.heap.size,0,none⟩=false:=ah hres;have f1:w3.frozen? ⟨w.heap.size,1,none⟩=false:=ah hres;have f2:w3.frozen? ⟨w.heap.size,2,none⟩=false:=ah hres;have f3:w3.frozen? ⟨w.heap.size,3,none⟩=false:=ah hres;have HR:=aa hres;clear hres;go_wp2_with fail;obtain⟨W,hW⟩: ∃W,W=((((w3.setCell ⟨w.heap.size,0,none⟩ (.string ⟨#[]⟩)).setCell ⟨w.heap.size,1,none⟩ (.bool false)).setCell ⟨w.heap.size,2,none⟩ (.bool false)).setCell ⟨w.heap.size,3,none⟩ (.bool false)):=⟨_,rfl⟩
    rw[<-hW];have h4:=ib HR.out (.string ⟨#[]⟩) (.bool false) (.bool false) (.bool false);rw[<-hW]at h4;obtain⟨h41,h42⟩:=h4;have m0:W.cell? ⟨w.heap.size,0,none⟩=some (.string ⟨#[]⟩):=by rw[ab h41]; rfl
    have m1:W.cell? ⟨w.heap.size,1,none⟩=some (.bool false):=by rw[ab h41]; rfl
    have m2:W.cell? ⟨w.heap.size,2,none⟩=some (.bool false):=by rw[ab h41]; rfl
    have m3:W.cell? ⟨w.heap.size,3,none⟩=some (.bool false):=by rw[ab h41]; rfl
    clear hW;refine bodyPost_ret (v:= .tuple #[.agg #[.string ⟨#[]⟩, .bool false, .bool false, .bool false], .bool false]) (by simp[results,Tryz.results72,go_sem,m0,m1,m2,m3]) rfl ?_;refine⟨?_,HB3.out.grown h42 HB3.out.size (fun k hk=>by cases hk; exact Nat.le_refl _)⟩;rw[bI,HCP.out,HCS.out]; rfl
   | some cs=>
    have HCS:=aa hcs;clear hcs;refine(cY s3 b1 b3 false _ (HE.out.below HB0.out) (by omega)).mono ?_;rw[HCS.out];rintro e w3 ⟨pv,rfl,hpv,hb3⟩;clear hpv;have hres:w3.heap[w.heap.size]? =some (.cells #[.string ⟨#[]⟩, .bool false, .bool false, .bool false] 141 (0,0)):=by
     rw[hb3.block _ (by simp; omega),Below.heap_alloc _ _ _ (by simp)]; exact heap_alloc_new w _
    have hbox:w3.heap[w.heap.size+1]? =some (.cells #[.string s3, .bool b1, .bool b3, .bool false] 141 (0,0)):=by
     rw[hb3.block _ (by simp)];have:=heap_alloc_new (w.alloc (.cells #[.string ⟨#[]⟩, .bool false, .bool false, .bool false] 141)) (.cells #[.string s3, .bool b1, .bool b3, .bool false] 141)
     simpa using this
    have n0:w3.cell? ⟨w.heap.size+1,0,none⟩=some (.string s3):=by rw[ab hbox]; rfl
    have n1:w3.cell? ⟨w.heap.size+1,1,none⟩=some (.bool b1):=by rw[ab hbox]; rfl
    have n2:w3.cell? ⟨w.heap.size+1,2,none⟩=some (.bool b3):=by rw[ab hbox]; rfl
    have n3:w3.cell? ⟨w.heap.size+1,3,none⟩=some (.bool false):=by rw[ab hbox]; rfl
    clear hbox;have hb3':=ag HB0.out hb3;have HB3:=aa hb3';clear hb3 hb3';have r0:w3.cell? ⟨w.heap.size,0,none⟩=some (.string ⟨#[]⟩):=by rw[ab hres]; rfl
    have r1:w3.cell? ⟨w.heap.size,1,none⟩=some (.bool false):=by rw[ab hres]; rfl
    have r2:w3.cell? ⟨w.heap.size,2,none⟩=some (.bool false):=by rw[ab hres]; rfl
    have r3:w3.cell? ⟨w.heap.size,3,none⟩=some (.bool false):=by rw[ab hres]; rfl
    have f0:w3.frozen? ⟨w.heap.size,0,none⟩=false:=ah hres;have f1:w3.frozen? ⟨w.heap.size,1,none⟩=false:=ah hres;have f2:w3.frozen? ⟨w.heap.size,2,none⟩=false:=ah hres;have f3:w3.frozen? ⟨w.heap.size,3,none⟩=false:=ah hres;have HR:=aa hres;clear hres;go_wp2_with fail;obtain⟨W,hW⟩: ∃W,W=((((w3.setCell ⟨w.heap.size,0,none⟩ (.string s3)).setCell ⟨w.heap.size,1,none⟩ (.bool b1)).setCell ⟨w.heap.size,2,none⟩ (.bool b3)).setCell ⟨w.heap.size,3,none⟩ (.bool false)):=⟨_,rfl⟩
    rw[<-hW];have h4:=ib HR.out (.string s3) (.bool b1) (.bool b3) (.bool false);rw[<-hW]at h4;obtain⟨h41,h42⟩:=h4;have m0:W.cell? ⟨w.heap.size,0,none⟩=some (.string s3):=by rw[ab h41]; rfl
    have m1:W.cell? ⟨w.heap.size,1,none⟩=some (.bool b1):=by rw[ab h41]; rfl
    have m2:W.cell? ⟨w.heap.size,2,none⟩=some (.bool b3):=by rw[ab h41]; rfl
    have m3:W.cell? ⟨w.heap.size,3,none⟩=some (.bool false):=by rw[ab h41]; rfl
    clear hW;refine bodyPost_ret (v:= .tuple #[.agg #[.string s3, .bool b1, .bool b3, .bool false], .bool true]) (by simp[results,Tryz.results72,go_sem,m0,m1,m2,m3]) rfl ?_;refine⟨?_,HB3.out.grown h42 HB3.out.size (fun k hk=>by cases hk; exact Nat.le_refl _)⟩;rw[bI,HCP.out,HCS.out];simp only[Option.isSome_some,if_true,HRU.out,ei,nQ,qg]
  ·have HCT:=aa hct;rw[hct]at hru;have HRU:=aa hru;clear hct hru;go_wp2_with fail;refine(ey s3 47 true _ HCT.out).mono ?_;rintro e w' ⟨rfl,rfl⟩;go_wp2_with fail;have hcp:aO (nP (bl s))=aO ⟨bl s3,b1,b3,true⟩:=by rw[HRU.out]
   have HCP:=aa hcp;clear hcp;have hb0:Below w.heap.size w ((w.alloc (.cells #[.string ⟨#[]⟩, .bool false, .bool false, .bool false] 141)).alloc (.cells #[.string s3, .bool b1, .bool b3, .bool true] 141)):=((Below.refl _ _).alloc (Nat.le_refl _) _).alloc (by simp) _;have HB0:=aa hb0;clear hb0
   cases hcs:aO ⟨bl s3,b1,b3,true⟩with
   | none=>
    have HCS:=aa hcs;clear hcs;refine(cY s3 b1 b3 true _ (HE.out.below HB0.out) (by omega)).mono ?_;rw[HCS.out];rintro e w3 ⟨rfl,hb3⟩;have hres:w3.heap[w.heap.size]? =some (.cells #[.string ⟨#[]⟩, .bool false, .bool false, .bool false] 141 (0,0)):=by
     rw[hb3.block _ (by simp; omega),Below.heap_alloc _ _ _ (by simp)]; exact heap_alloc_new w _
    have hb3':=ag HB0.out hb3;have HB3:=aa hb3';clear hb3 hb3';have r0:w3.cell? ⟨w.heap.size,0,none⟩=some (.string ⟨#[]⟩):=by rw[ab hres]; rfl
    have r1:w3.cell? ⟨w.heap.size,1,none⟩=some (.bool false):=by rw[ab hres]; rfl
    have r2:w3.cell? ⟨w.heap.size,2,none⟩=some (.bool false):=by rw[ab hres]; rfl
    have r3:w3.cell? ⟨w.heap.size,3,none⟩=some (.bool false):=by rw[ab hres]; rfl
    have f0:w3.frozen? ⟨w.heap.size,0,none⟩=false:=ah hres;have f1:w3.frozen? ⟨w.heap.size,1,none⟩=false:=ah hres;have f2:w3.frozen? ⟨w.heap.size,2,none⟩=false:=ah hres;have f3:w3.frozen? ⟨w.heap.size,3,none⟩=false:=ah hres;have HR:=aa hres;clear hres;go_wp2_with fail;obtain⟨W,hW⟩: ∃W,W=((((w3.setCell ⟨w.heap.size,0,none⟩ (.string ⟨#[]⟩)).setCell ⟨w.heap.size,1,none⟩ (.bool false)).setCell ⟨w.heap.size,2,none⟩ (.bool false)).setCell ⟨w.heap.size,3,none⟩ (.bool false)):=⟨_,rfl⟩
    rw[<-hW];have h4:=ib HR.out (.string ⟨#[]⟩) (.bool false) (.bool false) (.bool false);rw[<-hW]at h4;obtain⟨h41,h42⟩:=h4;have m0:W.cell? ⟨w.heap.size,0,none⟩=some (.string ⟨#[]⟩):=by rw[ab h41]; rfl
    have m1:W.cell? ⟨w.heap.size,1,none⟩=some (.bool false):=by rw[ab h41]; rfl
    have m2:W.cell? ⟨w.heap.size,2,none⟩=some (.bool false):=by rw[ab h41]; rfl
    have m3:W.cell? ⟨w.heap.size,3,none⟩=some (.bool false):=by rw[ab h41]; rfl
    clear hW;refine bodyPost_ret (v:= .tuple #[.agg #[.string ⟨#[]⟩, .bool false, .bool false, .bool false], .bool false]) (by simp[results,Tryz.results72,go_sem,m0,m1,m2,m3]) rfl ?_;refine⟨?_,HB3.out.grown h42 HB3.out.size (fun k hk=>by cases hk; exact Nat.le_refl _)⟩;rw[bI,HCP.out,HCS.out]; rfl
   | some cs=>
    have HCS:=aa hcs;clear hcs;refine(cY s3 b1 b3 true _ (HE.out.below HB0.out) (by omega)).mono ?_;rw[HCS.out];rintro e w3 ⟨pv,rfl,hpv,hb3⟩;clear hpv;have hres:w3.heap[w.heap.size]? =some (.cells #[.string ⟨#[]⟩, .bool false, .bool false, .bool false] 141 (0,0)):=by
     rw[hb3.block _ (by simp; omega),Below.heap_alloc _ _ _ (by simp)]; exact heap_alloc_new w _
    have hbox:w3.heap[w.heap.size+1]? =some (.cells #[.string s3, .bool b1, .bool b3, .bool true] 141 (0,0)):=by
     rw[hb3.block _ (by simp)];have:=heap_alloc_new (w.alloc (.cells #[.string ⟨#[]⟩, .bool false, .bool false, .bool false] 141)) (.cells #[.string s3, .bool b1, .bool b3, .bool true] 141)
     simpa using this
    have n0:w3.cell? ⟨w.heap.size+1,0,none⟩=some (.string s3):=by rw[ab hbox]; rfl
    have n1:w3.cell? ⟨w.heap.size+1,1,none⟩=some (.bool b1):=by rw[ab hbox]; rfl
    have n2:w3.cell? ⟨w.heap.size+1,2,none⟩=some (.bool b3):=by rw[ab hbox]; rfl
    have n3:w3.cell? ⟨w.heap.size+1,3,none⟩=some (.bool true):=by rw[ab hbox]; rfl
    clear hbox;have hb3':=ag HB0.out hb3;have HB3:=aa hb3';clear hb3 hb3';have r0:w3.cell? ⟨w.heap.size,0,none⟩=some (.string ⟨#[]⟩):=by rw[ab hres]; rfl
    have r1:w3.cell? ⟨w.heap.size,1,none⟩=some (.bool false):=by rw[ab hres]; rfl
    have r2:w3.cell? ⟨w.heap.size,2,none⟩=some (.bool false):=by rw[ab hres]; rfl
    have r3:w3.cell? ⟨w.heap.size,3,none⟩=some (.bool false):=by rw[ab hres]; rfl
    have f0:w3.frozen? ⟨w.heap.size,0,none⟩=false:=ah hres;have f1:w3.frozen? ⟨w.heap.size,1,none⟩=false:=ah hres;have f2:w3.frozen? ⟨w.heap.size,2,none⟩=false:=ah hres;have f3:w3.frozen? ⟨w.heap.size,3,none⟩=false:=ah hres;have HR:=aa hres;clear hres;go_wp2_with fail;obtain⟨W,hW⟩: ∃W,W=((((w3.setCell ⟨w.heap.size,0,none⟩ (.string s3)).setCell ⟨w.heap.size,1,none⟩ (.bool b1)).setCell ⟨w.heap.size,2,none⟩ (.bool b3)).setCell ⟨w.heap.size,3,none⟩ (.bool true)):=⟨_,rfl⟩
    rw[<-hW];have h4:=ib HR.out (.string s3) (.bool b1) (.bool b3) (.bool true);rw[<-hW]at h4;obtain⟨h41,h42⟩:=h4;have m0:W.cell? ⟨w.heap.size,0,none⟩=some (.string s3):=by rw[ab h41]; rfl
    have m1:W.cell? ⟨w.heap.size,1,none⟩=some (.bool b1):=by rw[ab h41]; rfl
    have m2:W.cell? ⟨w.heap.size,2,none⟩=some (.bool b3):=by rw[ab h41]; rfl
    have m3:W.cell? ⟨w.heap.size,3,none⟩=some (.bool true):=by rw[ab h41]; rfl
    clear hW;refine bodyPost_ret (v:= .tuple #[.agg #[.string s3, .bool b1, .bool b3, .bool true], .bool true]) (by simp[results,Tryz.results72,go_sem,m0,m1,m2,m3]) rfl ?_;refine⟨?_,HB3.out.grown h42 HB3.out.size (fun k hk=>by cases hk; exact Nat.le_refl _)⟩;rw[bI,HCP.out,HCS.out];simp only[Option.isSome_some,if_true,HRU.out,ei,nQ,qg]
 ·rw[Bool.true_or]at hru;have HRU:=aa hru;clear hru;go_wp2_with fail;have hcp:aO (nP (bl s))=aO ⟨bl s3,b1,b3,true⟩:=by rw[HRU.out]
  have HCP:=aa hcp;clear hcp;have hb0:Below w.heap.size w ((w.alloc (.cells #[.string ⟨#[]⟩, .bool false, .bool false, .bool false] 141)).alloc (.cells #[.string s3, .bool b1, .bool b3, .bool true] 141)):=((Below.refl _ _).alloc (Nat.le_refl _) _).alloc (by simp) _;have HB0:=aa hb0;clear hb0
  cases hcs:aO ⟨bl s3,b1,b3,true⟩with
  | none=>
   have HCS:=aa hcs;clear hcs;refine(cY s3 b1 b3 true _ (HE.out.below HB0.out) (by omega)).mono ?_;rw[HCS.out];rintro e w3 ⟨rfl,hb3⟩;have hres:w3.heap[w.heap.size]? =some (.cells #[.string ⟨#[]⟩, .bool false, .bool false, .bool false] 141 (0,0)):=by
    rw[hb3.block _ (by simp; omega),Below.heap_alloc _ _ _ (by simp)]; exact heap_alloc_new w _
   have hb3':=ag HB0.out hb3;have HB3:=aa hb3';clear hb3 hb3';have r0:w3.cell? ⟨w.heap.size,0,none⟩=some (.string ⟨#[]⟩):=by rw[ab hres]; rfl
   have r1:w3.cell? ⟨w.heap.size,1,none⟩=some (.bool false):=by rw[ab hres]; rfl
   have r2:w3.cell? ⟨w.heap.size,2,none⟩=some (.bool false):=by rw[ab hres]; rfl
   have r3:w3.cell? ⟨w.heap.size,3,none⟩=some (.bool false):=by rw[ab hres]; rfl
   have f0:w3.frozen? ⟨w.heap.size,0,none⟩=false:=ah hres;have f1:w3.frozen? ⟨w.heap.size,1,none⟩=false:=ah hres;have f2:w3.frozen? ⟨w.heap.size,2,none⟩=false:=ah hres;have f3:w3.frozen? ⟨w.heap.size,3,none⟩=false:=ah hres;have HR:=aa hres;clear hres;go_wp2_with fail;obtain⟨W,hW⟩: ∃W,W=((((w3.setCell ⟨w.heap.size,0,none⟩ (.string ⟨#[]⟩)).setCell ⟨w.heap.size,1,none⟩ (.bool false)).setCell ⟨w.heap.size,2,none⟩ (.bool false)).setCell ⟨w.heap.size,3,none⟩ (.bool false)):=⟨_,rfl⟩
   rw[<-hW];have h4:=ib HR.out (.string ⟨#[]⟩) (.bool false) (.bool false) (.bool false);rw[<-hW]at h4;obtain⟨h41,h42⟩:=h4;have m0:W.cell? ⟨w.heap.size,0,none⟩=some (.string ⟨#[]⟩):=by rw[ab h41]; rfl
   have m1:W.cell? ⟨w.heap.size,1,none⟩=some (.bool false):=by rw[ab h41]; rfl
   have m2:W.cell? ⟨w.heap.size,2,none⟩=some (.bool false):=by rw[ab h41]; rfl
   have m3:W.cell? ⟨w.heap.size,3,none⟩=some (.bool false):=by rw[ab h41]; rfl
   clear hW;refine bodyPost_ret (v:= .tuple #[.agg #[.string ⟨#[]⟩, .bool false, .bool false, .bool false], .bool false]) (by simp[results,Tryz.results72,go_sem,m0,m1,m2,m3]) rfl ?_;refine⟨?_,HB3.out.grown h42 HB3.out.size (fun k hk=>by cases hk; exact Nat.le_refl _)⟩;rw[bI,HCP.out,HCS.out]; rfl
  | some cs=>
   have HCS:=aa hcs;clear hcs;refine(cY s3 b1 b3 true _ (HE.out.below HB0.out) (by omega)).mono ?_;rw[HCS.out];rintro e w3 ⟨pv,rfl,hpv,hb3⟩;clear hpv;have hres:w3.heap[w.heap.size]? =some (.cells #[.string ⟨#[]⟩, .bool false, .bool false, .bool false] 141 (0,0)):=by
    rw[hb3.block _ (by simp; omega),Below.heap_alloc _ _ _ (by simp)]; exact heap_alloc_new w _
   have hbox:w3.heap[w.heap.size+1]? =some (.cells #[.string s3, .bool b1, .bool b3, .bool true] 141 (0,0)):=by
    rw[hb3.block _ (by simp)];have:=heap_alloc_new (w.alloc (.cells #[.string ⟨#[]⟩, .bool false, .bool false, .bool false] 141)) (.cells #[.string s3, .bool b1, .bool b3, .bool true] 141)
    simpa using this
   have n0:w3.cell? ⟨w.heap.size+1,0,none⟩=some (.string s3):=by rw[ab hbox]; rfl
   have n1:w3.cell? ⟨w.heap.size+1,1,none⟩=some (.bool b1):=by rw[ab hbox]; rfl
   have n2:w3.cell? ⟨w.heap.size+1,2,none⟩=some (.bool b3):=by rw[ab hbox]; rfl
   have n3:w3.cell? ⟨w.heap.size+1,3,none⟩=some (.bool true):=by rw[ab hbox]; rfl
   clear hbox;have hb3':=ag HB0.out hb3;have HB3:=aa hb3';clear hb3 hb3';have r0:w3.cell? ⟨w.heap.size,0,none⟩=some (.string ⟨#[]⟩):=by rw[ab hres]; rfl
   have r1:w3.cell? ⟨w.heap.size,1,none⟩=some (.bool false):=by rw[ab hres]; rfl
   have r2:w3.cell? ⟨w.heap.size,2,none⟩=some (.bool false):=by rw[ab hres]; rfl
   have r3:w3.cell? ⟨w.heap.size,3,none⟩=some (.bool false):=by rw[ab hres]; rfl
   have f0:w3.frozen? ⟨w.heap.size,0,none⟩=false:=ah hres;have f1:w3.frozen? ⟨w.heap.size,1,none⟩=false:=ah hres;have f2:w3.frozen? ⟨w.heap.size,2,none⟩=false:=ah hres;have f3:w3.frozen? ⟨w.heap.size,3,none⟩=false:=ah hres;have HR:=aa hres;clear hres;go_wp2_with fail;obtain⟨W,hW⟩: ∃W,W=((((w3.setCell ⟨w.heap.size,0,none⟩ (.string s3)).setCell ⟨w.heap.size,1,none⟩ (.bool b1)).setCell ⟨w.heap.size,2,none⟩ (.bool b3)).setCell ⟨w.heap.size,3,none⟩ (.bool true)):=⟨_,rfl⟩
   rw[<-hW];have h4:=ib HR.out (.string s3) (.bool b1) (.bool b3) (.bool true);rw[<-hW]at h4;obtain⟨h41,h42⟩:=h4;have m0:W.cell? ⟨w.heap.size,0,none⟩=some (.string s3):=by rw[ab h41]; rfl
   have m1:W.cell? ⟨w.heap.size,1,none⟩=some (.bool b1):=by rw[ab h41]; rfl
   have m2:W.cell? ⟨w.heap.size,2,none⟩=some (.bool b3):=by rw[ab h41]; rfl
   have m3:W.cell? ⟨w.heap.size,3,none⟩=some (.bool true):=by rw[ab h41]; rfl
   clear hW;refine bodyPost_ret (v:= .tuple #[.agg #[.string s3, .bool b1, .bool b3, .bool true], .bool true]) (by simp[results,Tryz.results72,go_sem,m0,m1,m2,m3]) rfl ?_;refine⟨?_,HB3.out.grown h42 HB3.out.size (fun k hk=>by cases hk; exact Nat.le_refl _)⟩;rw[bI,HCP.out,HCS.out];simp only[Option.isSome_some,if_true,HRU.out,ei,nQ,qg]
theorem mp : ∀rs:List aJ,aV ni (rs.flatMap gY) rs
 | []=>rfl
 | r::rs=>⟨gY r,rs.flatMap gY,by rw[List.flatMap_cons],rfl,mp rs⟩
theorem Tryz.appRules :cX Tryz.prog 86 141 4 24:=cX.mk' (z:= .agg #[.string ByteArray.empty, .bool false, .bool false, .bool false]) Tryz.underlying86 (by kernel_rfl) rfl (by decide) (by decide)
theorem nd {w:World} {base:Nat} {v:Value} {rs:List aJ} (h:w.ownsRow base 141 4 v rs.length (rs.flatMap gY)):bA (base<= ·) w v rs:=
 ⟨rs.flatMap gY,(bu h).weak (fun _ hk=>hk.1),mp rs⟩
theorem qh {w w':World} {base:Nat} {e:TypeId} {sz:Nat} {v:Value} {n:Nat} {xs:List Value} (h:w.ownsRow base e sz v n xs) (hb:Below w.heap.size w w'):w'.ownsRow base e sz v n xs:=
 h.kept (grownBy.of_below (r:=none) hb) (by cases v.ownBlock<;> simp)
theorem qU (w:World) (o:Obj):(w.alloc o).heap.size=w.heap.size+1:=by simp
def vQ (o:List aJ×Int×Int) (w:World) (e:Ending) (w':World):Prop:=
 ∃v,e= .returned (.tuple #[v, .int .i64 o.2.1, .int .i64 o.2.2])/\bA (w.heap.size<= ·) w' v o.1/\Below w.heap.size w w'
theorem kq {S:Nat->Prop} {w:World} :bA S w (.slice none 0 0) []:=aT.nil
theorem me {ls:List (List UInt8)} {k:Nat} {acc:List aJ} {l:List UInt8} (h:ls[k]? =some l) (hl:l=[]\/Lib.hasPrefix l [35]=true):cr (ls.drop k) k acc=cr (ls.drop (k+1)) (k+1) acc:=by
 obtain⟨hk,rfl⟩:=List.getElem?_eq_some_iff.1 h;rw[List.drop_eq_getElem_cons hk,cr,if_pos hl]
theorem nK {ls:List (List UInt8)} {k:Nat} {acc:List aJ} {l:List UInt8} (h:ls[k]? =some l) (h1:l≠[]) (h2:Lib.hasPrefix l [35]=false) (hp:bI l=none):cr (ls.drop k) k acc=([],(k:Int)+1,3):=by
 obtain⟨hk,rfl⟩:=List.getElem?_eq_some_iff.1 h;rw[List.drop_eq_getElem_cons hk,cr,if_neg (by rw[h2]; simp[h1]),hp]
theorem ma {ls:List (List UInt8)} {k:Nat} {acc:List aJ} {l:List UInt8} {r:aJ} (h:ls[k]? =some l) (h1:l≠[]) (h2:Lib.hasPrefix l [35]=false) (hp:bI l=some r) (ha:acc.length=256):cr (ls.drop k) k acc=([],(k:Int)+1,2):=by
 obtain⟨hk,rfl⟩:=List.getElem?_eq_some_iff.1 h;rw[List.drop_eq_getElem_cons hk,cr,if_neg (by rw[h2]; simp[h1]),hp];simp[ha]
theorem uC {ls:List (List UInt8)} {k:Nat} {acc:List aJ} {l:List UInt8} {r:aJ} (h:ls[k]? =some l) (h1:l≠[]) (h2:Lib.hasPrefix l [35]=false) (hp:bI l=some r) (ha: ¬acc.length=256):cr (ls.drop k) k acc=cr (ls.drop (k+1)) (k+1) (acc++[r]):=by
 obtain⟨hk,rfl⟩:=List.getElem?_eq_some_iff.1 h;rw[List.drop_eq_getElem_cons hk,cr,if_neg (by rw[h2]; simp[h1]),hp];simp[ha]
theorem uD (s:ByteArray) (w:World) (he:iI w):Calls Tryz.prog 37 #[.string s] w (vQ (bH (bl s)) w):=by
 have HE:=aa he;clear he
 by_cases h6:s.size<=65536
 ·have hpe:bH (bl s)=cr (aw 10 (bl s)) 0 []:=by unfold bH; rw[if_neg (by rw[<-aN]; omega)]
  have HPE:=aa hpe;clear hpe
  go_enter Tryz.func37,Tryz.ntmps37
  go_wp2_with fail;refine(ks s 10 w HE.out (by omega)).mono ?_;rintro e w' ⟨xs,hx,rfl,rfl⟩;have hxl:xs.length<=65537:=by
   have h1:(aw 10 (bl s)).length=xs.length:=by rw[<-hx]; simp
   have h2:=eq 10 (bl s);rw[<-aN]at h2;omega
  have HX:=aa hx;clear hx;go_wp2_with fail
  go_loopw [5,16] (fun v i wr=> ∃(k:Nat) (rs:List aJ),k<=xs.length/\rs.length<=256/\i= .int .i64 k/\wr.ownsRow (w.heap.size+1) 141 4 v rs.length (rs.flatMap gY)/\
    Below (w.heap.size+1) (w.alloc (.cells (xs.map Value.string).toArray 9)) wr/\cr (aw 10 (bl s)) 0 []=cr ((xs.map bl).drop k) k rs) (fun _ i _=>xs.length-(intOf i).toNat)
  case atStart=>exact⟨0,[],Nat.zero_le _,Nat.zero_le _,rfl,World.ownsRow_nil _ _ _ _,Below.refl _ _,by rw[HX.out]; rfl⟩
  case round=>
   obtain⟨k,rs,hk,hrs,rfl,hown,hb,hc⟩:=hrel;have HC:=aa hc;have HB:=aa hb;have HO:=aa hown;have hsz:w.heap.size+1<=wr.heap.size:=by have:=hb.size; simpa using this
   have hbw:Below w.heap.size w wr:=ag ((Below.refl _ _).alloc (Nat.le_refl _) _) (by simpa using hb);have HBW:=aa hbw;obtain⟨av,cv,rfl,hnv,hmv⟩:=aj hown;clear hbw
   by_cases hlt:k<xs.length
   ·obtain⟨x,hx⟩: ∃x,xs[k]? =some x:=⟨xs[k],by simp[hlt]⟩;have hcell:wr.cell? ⟨w.heap.size,k,none⟩=some (.string x):=(hb.cell (p:=⟨w.heap.size,k,none⟩) (by simp)).trans (jK (oN hx));have hxs:x.size<=65536:=by have:=km HX.out hx; omega
    have HK:=aa hx;clear hx hb hc hown;have HP:=aa (show(xs.map bl)[k]? =some (bl x) by simp[HK.out])
    by_cases h0:bl x=[]
    ·have e0:x.toList.isEmpty=true:=by rw[bw,h0]; rfl
     have H0:=aa h0;clear h0;go_wp2_with fail
     go_roundw
     case rel=>exact⟨k+1,rs,by omega,hrs,by go_num,HO.out,HB.out,by rw[HC.out]; exact me HP.out (.inl H0.out)⟩
     case measure=>simp[intOf]; omega
    ·have e0:x.toList.isEmpty=false:=by rw[bw]; simpa using h0
     have H0:=aa h0;clear h0
     cases hh:Lib.hasPrefix (bl x) [35]
     ·have HH:=aa hh;clear hh;go_wp2_with fail;refine(bT x ⟨#[35]⟩ false _ HH.out).mono ?_;rintro e w' ⟨rfl,rfl⟩;go_wp2_with fail
      cases hpl:bI (bl x)with
      | none=>
       have HPL:=aa hpl;clear hpl;refine(iQ x wr (HE.out.below HBW.out) hxs).mono ?_;rw[HPL.out];rintro e w2 ⟨rfl,hb2⟩;have HB2:=aa hb2;clear hb2;simp only[ei,qN];go_wp2_with fail
       go_ret3
       refine⟨.slice none 0 0, ?_, ?_,ag (ag HBW.out HB2.out) ((Below.refl _ _).alloc (Nat.le_refl _) _)⟩
       ·rw[HPE.out,HC.out,nK HP.out H0.out HH.out HPL.out]; rfl
       ·rw[HPE.out,HC.out,nK HP.out H0.out HH.out HPL.out]; exact kq
      | some r=>
       have HPL:=aa hpl;clear hpl;refine(iQ x wr (HE.out.below HBW.out) hxs).mono ?_;rw[HPL.out];rintro e w2 ⟨rfl,hb2⟩;have HB2:=aa hb2;have hsz2:=hb2.size;clear hb2;obtain⟨rp,rk,rd,rr⟩:=r;simp only[ei,nQ]
       by_cases hfull:rs.length=256
       ·have ef:((rs.length:Int) == 256)=true:=by rw[hfull]; rfl
        have HF:=aa hfull;clear hfull;go_wp2_with fail
        go_ret3
        refine⟨.slice none 0 0, ?_, ?_,ag (ag HBW.out HB2.out) ((Below.refl _ _).alloc (Nat.le_refl _) _)⟩
        ·rw[HPE.out,HC.out,ma HP.out H0.out HH.out HPL.out HF.out]; rfl
        ·rw[HPE.out,HC.out,ma HP.out H0.out HH.out HPL.out HF.out]; exact kq
       ·have ef:((rs.length:Int) == 256)=false:=by rw[beq_eq_false_iff_ne]; omega
        have HF:=aa hfull;have hlt2:rs.length<256:=by omega
        clear hfull;have HO2:=aa (show World.ownsRow (w2.alloc (.cells #[.string ⟨rp.toArray⟩, .bool rk, .bool rd, .bool rr] 141)) (w.heap.size+1) 141 4 (.slice av rs.length cv) rs.length (rs.flatMap gY)from(qh HO.out HB2.out).alloc _);go_wp2_with (at_builtin; go_must (refine im Tryz.appRules rfl _ _ rfl (w.heap.size+1) (.slice av rs.length cv) rs.length (rs.flatMap gY) rfl (w2.alloc (.cells #[.string ⟨rp.toArray⟩, .bool rk, .bool rd, .bool rr] 141)) (gY ⟨rp,rk,rd,rr⟩) _ (by rw[qU]; rfl) rfl (by simp[gY]; exact⟨rfl,rfl,rfl,rfl⟩) HO2.out (by omega) (by simp; omega) ?_); intro v' w3 hown1 hgrow1 _)
        have HO1:=aa hown1;have HG1:=aa hgrow1;clear hown1 hgrow1;go_wp2_with fail
        go_roundw
        case rel=>
         refine⟨k+1,rs++[⟨rp,rk,rd,rr⟩],by omega,by simp; omega,by go_num, ?_, ?_,by rw[HC.out]; exact uC HP.out H0.out HH.out HPL.out HF.out⟩
         ·have:=HO1.out; simpa using this
         ·exact aP (((HB.out.trans (HB2.out.mono hsz)).alloc (by omega) _)) HO2.out HG1.out (Nat.le_refl _) (by simp; omega)
        case measure=>simp[intOf]; omega
     ·have HH:=aa hh;clear hh;go_wp2_with fail;refine(bT x ⟨#[35]⟩ true _ HH.out).mono ?_;rintro e w' ⟨rfl,rfl⟩;go_wp2_with fail
      go_roundw
      case rel=>exact⟨k+1,rs,by omega,hrs,by go_num,HO.out,HB.out,by rw[HC.out]; exact me HP.out (.inr HH.out)⟩
      case measure=>simp[intOf]; omega
   ·clear hb hc hown;go_wp2_with fail
    go_ret3
    have hfin:bH (bl s)=(rs,0,0):=by
     rw[HPE.out,HC.out,List.drop_eq_nil_of_le (by simp; omega)]; rfl
    refine⟨.slice av rs.length cv,by rw[hfin]; rfl, ?_,HBW.out⟩;rw[hfin];exact aT.mono (nd HO.out) (by omega) (fun k _ hk=>by omega) (fun _ _ _ h=>h)
 ·have hpe:bH (bl s)=([],0,2):=by unfold bH; rw[if_pos (by rw[<-aN]; omega)]
  have HPE:=aa hpe;clear hpe
  go_enter Tryz.func37,Tryz.ntmps37
  go_wp2_with fail
  go_ret3
  exact⟨.slice none 0 0,by rw[HPE.out]; rfl,by rw[HPE.out]; exact kq,Below.refl _ _⟩
open Go Go.RowKit Go.Maps
section
variable {w : World} {b : Nat} {a0 a1 a2 a3 a4 a5 x0 x1 x2 x3 x4 x5 : Value}
theorem Af (h:w.heap[b]? =some (.cells #[a0,a1,a2,a3,a4,a5] 54 (0,0))):
  ((((((w.setCell ⟨b,0,none⟩ x0).setCell ⟨b,1,none⟩ x1).setCell ⟨b,2,none⟩ x2).setCell ⟨b,3,none⟩ x3).setCell ⟨b,4,none⟩ x4).setCell ⟨b,5,none⟩ x5).heap[b]? =some (.cells #[x0,x1,x2,x3,x4,x5] 54 (0,0)):=by
 have h0:=mw (k:=0) h x0;have h1:=mw (k:=1) h0 x1;have h2:=mw (k:=2) h1 x2;have h3:=mw (k:=3) h2 x3;have h4:=mw (k:=4) h3 x4;have h5:=mw (k:=5) h4 x5
 simpa using h5
theorem yX {a:Act} {e7:Value} (h:w.heap[b]? =some (.cells #[x0,x1,x2,x3,x4,x5] 54 (0,0)))
  (h10:a.tmps[10]? =some (.pointer (some ⟨b,0,none⟩))) (h11:a.tmps[11]? =some e7):(results Tryz.f20 a.tmps).run Tryz.prog w= .ok (.tuple #[.agg #[x0,x1,x2,x3,x4,x5],e7]) w:=by
 have m0:=af (k:=0) h;have m1:=af (k:=1) h;have m2:=af (k:=2) h;have m3:=af (k:=3) h;have m4:=af (k:=4) h;have m5:=af (k:=5) h;simp only[kJ]at m0 m1 m2 m3 m4 m5;simp[results,Tryz.results20,go_sem,h10,h11,m0,m1,m2,m3,m4,m5]
theorem iD {a:Act} {e7:Value} {Q:Ending->World->Prop} (h:w.heap[b]? =some (.cells #[a0,a1,a2,a3,a4,a5] 54 (0,0)))
  (h10:a.tmps[10]? =some (.pointer (some ⟨b,0,none⟩))) (h11:a.tmps[11]? =some e7) (hd:a.defers=[])
  (hQ:Q (.returned (.tuple #[.agg #[x0,x1,x2,x3,x4,x5],e7])) ((((((w.setCell ⟨b,0,none⟩ x0).setCell ⟨b,1,none⟩ x1).setCell ⟨b,2,none⟩ x2).setCell ⟨b,3,none⟩ x3).setCell ⟨b,4,none⟩ x4).setCell ⟨b,5,none⟩ x5)):
  bodyPost Tryz.prog Tryz.f20 Q Exit.ret a ((((((w.setCell ⟨b,0,none⟩ x0).setCell ⟨b,1,none⟩ x1).setCell ⟨b,2,none⟩ x2).setCell ⟨b,3,none⟩ x3).setCell ⟨b,4,none⟩ x4).setCell ⟨b,5,none⟩ x5):=bodyPost_ret (yX (Af h) h10 h11) hd hQ
theorem rI {k:Nat} (hk:k≠b):((((((w.setCell ⟨b,0,none⟩ x0).setCell ⟨b,1,none⟩ x1).setCell ⟨b,2,none⟩ x2).setCell ⟨b,3,none⟩ x3).setCell ⟨b,4,none⟩ x4).setCell ⟨b,5,none⟩ x5).heap[k]? =w.heap[k]? :=by
 rw[Below.heap_setCell _ _ _ _ (by exact hk),Below.heap_setCell _ _ _ _ (by exact hk),Below.heap_setCell _ _ _ _ (by exact hk),Below.heap_setCell _ _ _ _ (by exact hk),Below.heap_setCell _ _ _ _ (by exact hk),Below.heap_setCell _ _ _ _ (by exact hk)]
theorem jZ {B:Nat} {u:World} (hb:Below B u w) (hB:B<=b) (hz:B<=w.heap.size):Below B u ((((((w.setCell ⟨b,0,none⟩ x0).setCell ⟨b,1,none⟩ x1).setCell ⟨b,2,none⟩ x2).setCell ⟨b,3,none⟩ x3).setCell ⟨b,4,none⟩ x4).setCell ⟨b,5,none⟩ x5):=by
 have hk: ∀(i:Nat),(some b)=some i->B<=i:=fun i e=>by cases e; exact hB
 have g: ∀ {v:World} (k:Nat) (x:Value),B<=v.heap.size->Below B u v->Below B u (v.setCell ⟨b,k,none⟩ x)/\B<=(v.setCell ⟨b,k,none⟩ x).heap.size:=fun k x hz h=>⟨h.grown (be _ _ _ _) hz hk,Nat.le_trans hz (be _ b k x).size⟩
 obtain⟨c0,z0⟩:=g 0 x0 hz hb;obtain⟨c1,z1⟩:=g 1 x1 z0 c0;obtain⟨c2,z2⟩:=g 2 x2 z1 c1;obtain⟨c3,z3⟩:=g 3 x3 z2 c2;obtain⟨c4,z4⟩:=g 4 x4 z3 c3;exact(g 5 x5 z4 c4).1
end
def tN :Value:= .agg #[.int .i64 0, .slice none 0 0, .slice none 0 0, .slice none 0 0, .int .i64 0, .int .i64 0]
def jm (res:Except Int sU) (w:World) (e:Ending) (w':World):Prop:=Below w.heap.size w w'/\match res with
 | .error x=>e= .returned (.tuple #[tN, .int .i64 x])/\x≠0
 | .ok r=> ∃fv cv nv,e= .returned (.tuple #[.agg #[.int .i64 r.idx.tm,fv,cv,nv, .int .i64 (r.read:Int), .int .i64 (r.kept:Int)], .int .i64 0])/\bB w' w.heap.size fv r.idx.files/\w'.ownsRow w.heap.size 60 2 cv r.chg.length (eH r.chg)/\bW w.heap.size nv r.news w'
theorem fB (S:Nat->Prop) (x:gF) (fv:Value) (b:Bool) (w:World) (hx:aY S w fv x.files) (henv:iI w) (h:fm x=b):Calls Tryz.prog 12 #[kY fv x.tm] w fun e w'=>e= .returned (.bool b)/\Below w.heap.size w w':=by
 rw[<-h]; exact oT S x fv w hx henv
theorem rC (rs:List aJ) (S:Nat->Prop) (v:Value) (s:ByteArray) (dir ig:Bool) (w:World) (he:iI w) (hv:bA S w v rs) (hp: ∀r∈rs,r.pat.length<=9223372036854775807) (h:cy rs (bl s) dir=(ig,0)):
  Calls Tryz.prog 40 #[v, .string s, .bool dir] w fun e w'=>e= .returned (.tuple #[.bool ig, .int .i64 0])/\Below w.heap.size w w':=by
 have:=pW rs S v s dir w he hv hp;rw[h]at this;exact this
theorem xy {S:Nat->Prop} {w:World} {v:Value} {rs:List aJ} (h:bA S w v rs):bA (· <w.heap.size) w v rs:=by
 obtain⟨cells,h1,h2⟩:=h;exact⟨cells,aB.mono h1 (fun k hk _=>hk) (by omega),h2⟩
theorem xz {S T:Nat->Prop} {w:World} {v:Value} {rs:List aJ} (h:bA S w v rs) (hs: ∀k,S k->T k):bA T w v rs:=by
 obtain⟨cells,h1,h2⟩:=h;exact⟨cells,h1.weak hs,h2⟩
theorem mr {prev:gF} {tm:Int} {tree:List aX} {rules:List UInt8} {c:cR} (h: ¬(fm prev=true/\prev.tm<=tm/\dA c=true)):dm prev tm tree rules c= .error 1:=by unfold dm; rw[if_neg h]
theorem sw {prev:gF} {tm:Int} {tree:List aX} {rules:List UInt8} {c:cR} {rs:List aJ} {n x:Int} (h:fm prev=true/\prev.tm<=tm/\dA c=true) (hp:bH rules=(rs,n,x)) (hx: ¬x=0):dm prev tm tree rules c= .error x:=by
 unfold dm; rw[if_pos h,hp,if_neg hx]
theorem vi {prev:gF} {tm x:Int} {tree:List aX} {rules:List UInt8} {c:cR} {rs:List aJ} {n:Int} (h:fm prev=true/\prev.tm<=tm/\dA c=true) (hp:bH rules=(rs,n,0)) (hx:cj tree=x) (h0: ¬x=0):dm prev tm tree rules c= .error x:=by
 unfold dm; rw[if_pos h,hp,if_pos rfl,hx,if_neg h0]
theorem yV {prev:gF} {tm:Int} {tree:List aX} {rules:List UInt8} {c:cR} {rs:List aJ} {n:Int} {s:iH} (h:fm prev=true/\prev.tm<=tm/\dA c=true) (hp:bH rules=(rs,n,0)) (hx:cj tree=0) (hs:s=bZ prev.tm prev.files c (bJ rs tree)):dm prev tm tree rules c= .ok ⟨⟨tm,s.files⟩,kV prev.files s.files,s.news,s.read,s.kept⟩:=by
 unfold dm; rw[if_pos h,hp,if_pos rfl,if_pos hx,hs]
theorem yF {x:gF} (h:fm x=true):x.files.length<=4096:=by
 unfold fm at h;simp only[Bool.and_eq_true,decide_eq_true_eq]at h;exact h.1.1.2
theorem xC {tm:Int} {prev:List au} {c:cR} (hc:dA c=true) {K:List aX} (hv: ∀e∈K,dC e=true):(bZ tm prev c K).news.length<=K.length*1048576:=by
 show(List.foldl bo (nt prev,[]) _).2.length<=_
 refine Nat.le_trans (xq _ _) ?_;simp only[List.length_nil,Nat.zero_add];have key: ∀(L:List aX),(∀e∈L,dC e=true/\e.kind=1)->(L.flatMap fun e=>bF c e.data).length<=L.length*1048576:=by
  intro L
  induction L with
  | nil=>simp
  | cons e L ih=>
   intro h;rw[List.flatMap_cons,List.length_append,List.length_cons];have h1:=ih fun x hx=>h x (by simp[hx])
   have h2:=wA hc e.data;have h3:=(eZ (h e (by simp)).1).1 (h e (by simp)).2;omega
 refine Nat.le_trans (key _ fun e he=> ?_) (Nat.mul_le_mul_right _ (List.length_filter_le _ _));rw[List.mem_filter]at he;refine⟨hv e he.1, ?_⟩;have:=he.2;unfold lm at this;rw[Bool.and_eq_true]at this;exact of_decide_eq_true this.1
theorem bA.old {base:Nat} {w w':World} {v:Value} {rs:List aJ} (h:bA (· <base) w v rs) (hb:Below base w w'):bA (· <base) w' v rs:=by
 obtain⟨cells,h1,h2⟩:=h;exact⟨cells,aB.same h1 (fun k hk=>hb.block k hk),h2⟩
theorem xh {S:Nat->Prop} {w:World} {v:Value} {l:List bq} (h:ay S w v l):ay (· <w.heap.size) w v l:=by
 obtain⟨cells,h1,h2⟩:=h;exact⟨cells,aB.mono h1 (fun k hk _=>hk) (by omega),h2⟩
theorem wK {S:Nat->Prop} {w:World} {v:Value} {l:List au} (h:aY S w v l):aY (· <w.heap.size) w v l:=by
 obtain⟨cells,h1,h2⟩:=h;exact⟨cells,aB.mono h1 (fun k hk _=>hk) (by omega),h2.mono fun c x _ ⟨u,e1,e2,e3⟩=>⟨u,e1,xh e2,e3⟩⟩
theorem xk {S T:Nat->Prop} {w:World} {v:Value} {l:List bq} (h:ay S w v l) (hs: ∀k,S k->T k):ay T w v l:=by
 obtain⟨cells,h1,h2⟩:=h;exact⟨cells,h1.weak hs,h2⟩
theorem wM {S T:Nat->Prop} {w:World} {v:Value} {l:List au} (h:aY S w v l) (hs: ∀k,S k->T k):aY T w v l:=by
 obtain⟨cells,h1,h2⟩:=h;exact⟨cells,h1.weak hs,h2.mono fun c x _ ⟨u,e1,e2,e3⟩=>⟨u,e1,xk e2 hs,e3⟩⟩
theorem yA {S:Nat->Prop} {w:World} {v:Value} {l:List aX} (h:bM S w v l):bM (· <w.heap.size) w v l:=by
 obtain⟨cells,h1,h2⟩:=h;exact⟨cells,aB.mono h1 (fun k hk _=>hk) (by omega),h2.mono fun c x _ ⟨u,e1,e2,e3⟩=>⟨u,e1,aB.mono e2 (fun k hk _=>hk) (by omega),e3⟩⟩
theorem yB {S T:Nat->Prop} {w:World} {v:Value} {l:List aX} (h:bM S w v l) (hs: ∀k,S k->T k):bM T w v l:=by
 obtain⟨cells,h1,h2⟩:=h;exact⟨cells,h1.weak hs,h2.mono fun c x _ ⟨u,e1,e2,e3⟩=>⟨u,e1,e2.weak hs,e3⟩⟩
theorem wI {base:Nat} {w w':World} {v:Value} {l:List aX} (h:bM (· <base) w v l) (hb:Below base w w'):bM (· <base) w' v l:=by
 obtain⟨cells,h1,h2⟩:=h;refine⟨cells,aB.same h1 (fun k hk=>hb.block k hk),h2.mono fun c x _ ⟨u,e1,e2,e3⟩=>⟨u,e1,aB.same e2 (fun k hk=>hb.block k hk),e3⟩⟩
theorem jO (S T:Nat->Prop) (prev:gF) (fv tv:Value) (tm:Int) (tree:List aX) (rules:ByteArray) (c:cR) (w:World) (hf:aY S w fv prev.files) (ht:bM T w tv tree) (he:gB w) (hs:c.seed<18446744073709551616) (hpl: ∀f∈prev.files,f.parts.length<=1048576):
  Calls Tryz.prog 20 #[kY fv prev.tm, .int .i64 tm,tv, .string rules,ed c] w (jm (dm prev tm tree (bl rules) c) w):=by
 obtain⟨fa,fc,rfl,hfc,hfm,-⟩:=aT.shape hf fK.len;obtain⟨ta,tc,rfl,htc,htm,-⟩:=aT.shape ht iV.len;unfold maxLen at htm;have HF:=aa hf;have HT:=aa ht;have HE:=aa he;have HPL:=aa hpl;clear hf ht he hpl;obtain⟨fl,hfl⟩: ∃fl,fl=prev.files.length:=⟨_,rfl⟩;rw[<-hfl]at HF hfc ⊢;have HFL:=aa hfl;obtain⟨tl,htl⟩: ∃tl,tl=tree.length:=⟨_,rfl⟩;rw[<-htl]at HT htc ⊢
 have HTL:=aa htl;clear hfl htl;obtain⟨W,hW⟩: ∃W,W=((w.alloc (.cells #[.int .i64 prev.tm, .slice fa fl fc] 24)).alloc (.cells #[.int .i64 c.mn, .int .i64 c.mx, .int .i64 c.win, .int .i64 c.bits, .int .u64 (c.seed:Int)] 48)).alloc (.cells #[.int .i64 0, .slice none 0 0, .slice none 0 0, .slice none 0 0, .int .i64 0, .int .i64 0] 54):=⟨_,rfl⟩;have HBW:=aa (show Below w.heap.size w W by rw[hW]; exact(((Below.refl _ _).alloc (Nat.le_refl _) _).alloc (by simp) _).alloc (by simp; omega) _)
 have HX:=aa (show W.heap[w.heap.size]? =some (.cells #[.int .i64 prev.tm, .slice fa fl fc] 24 (0,0)) by rw[hW]; exact jY (jY (heap_alloc_new w _) _) _);have HC:=aa (show W.heap[w.heap.size+1]? =some (.cells #[.int .i64 c.mn, .int .i64 c.mx, .int .i64 c.win, .int .i64 c.bits, .int .u64 (c.seed:Int)] 48 (0,0)) by rw[hW]; exact jY (heap_alloc2_new w _ _) _);have HR:=aa (show W.heap[w.heap.size+1+1]? =some (.cells #[.int .i64 0, .slice none 0 0, .slice none 0 0, .slice none 0 0, .int .i64 0, .int .i64 0] 54 (0,0)) by
  rw[hW];have h:=heap_alloc_new ((w.alloc (.cells #[.int .i64 prev.tm, .slice fa fl fc] 24)).alloc (.cells #[.int .i64 c.mn, .int .i64 c.mx, .int .i64 c.win, .int .i64 c.bits, .int .u64 (c.seed:Int)] 48)) (.cells #[.int .i64 0, .slice none 0 0, .slice none 0 0, .slice none 0 0, .int .i64 0, .int .i64 0] 54);have e2:((w.alloc (.cells #[.int .i64 prev.tm, .slice fa fl fc] 24)).alloc (.cells #[.int .i64 c.mn, .int .i64 c.mx, .int .i64 c.win, .int .i64 c.bits, .int .u64 (c.seed:Int)] 48)).heap.size=w.heap.size+1+1:=by simp
  rw[e2]at h;exact h)
 have HSZ:=aa (show W.heap.size=w.heap.size+3 by rw[hW]; simp);unfold kY ed
 go_enter Tryz.func20,Tryz.ntmps20
 go_upto_region 1 with fail
 change Code.wp _ _ _ _ (((w.alloc (.cells #[.int .i64 prev.tm, .slice fa fl fc] 24)).alloc (.cells #[.int .i64 c.mn, .int .i64 c.mx, .int .i64 c.win, .int .i64 c.bits, .int .u64 (c.seed:Int)] 48)).alloc (.cells #[.int .i64 0, .slice none 0 0, .slice none 0 0, .slice none 0 0, .int .i64 0, .int .i64 0] 54))
 rw[<-hW];clear hW;have HFW:=aa (show aY S W (.slice fa fl fc) prev.files from HF.out.below HBW.out);have HEW:=aa (HE.out.below HBW.out);have x0:=af (k:=0) HX.out;have x1:=af (k:=1) HX.out;simp only[List.getElem?_toArray,cw]at x0 x1
 cases hvx:fm prev with
 | false=>
  have HBAD:=aa (show dm prev tm tree (bl rules) c= .error 1 from mr (fun h=>by rw[hvx]at h; cases h.1));have HVX:=aa hvx;clear hvx
  go_upto_region 2 with(go_at_call 12; refine(fB S prev (.slice fa fl fc) false W HFW.out HEW.out.env HVX.out).mono ?_; rintro e w1 ⟨rfl,hb1⟩; have HB1:=aa hb1; clear hb1)
  have HR1:=aa ((HB1.out.block _ (lt_of_block HR.out)).trans HR.out);have z0:=af (k:=0) HR1.out;have z1:=af (k:=1) HR1.out;have z2:=af (k:=2) HR1.out;have z3:=af (k:=3) HR1.out;have z4:=af (k:=4) HR1.out;have z5:=af (k:=5) HR1.out;simp only[List.getElem?_toArray,cw]at z0 z1 z2 z3 z4 z5;have g0:=aI (k:=0) HR1.out;have g1:=aI (k:=1) HR1.out
  have g2:=aI (k:=2) HR1.out;have g3:=aI (k:=3) HR1.out;have g4:=aI (k:=4) HR1.out;have g5:=aI (k:=5) HR1.out;go_wp2_with fail;refine iD HR1.out rfl rfl rfl ?_;refine⟨jZ (HBW.out.trans (HB1.out.mono (by have:=HSZ.out; omega))) (by omega) (by have:=HB1.out.size; have:=HSZ.out; omega), ?_⟩;rw[HBAD.out];exact⟨rfl,by decide⟩
 | true=>
  have HVX:=aa hvx;clear hvx
  by_cases hlt:tm<prev.tm
  ·have HBAD:=aa (show dm prev tm tree (bl rules) c= .error 1 from mr (fun h=>by omega))
   go_upto_region 2 with(go_at_call 12; refine(fB S prev (.slice fa fl fc) true W HFW.out HEW.out.env HVX.out).mono ?_; rintro e w1 ⟨rfl,hb1⟩; have HB1:=aa hb1; have y0:=(hb1.cell (p:=⟨w.heap.size,0,none⟩) (ax x0)).trans x0; clear hb1)
   have HR1:=aa ((HB1.out.block _ (lt_of_block HR.out)).trans HR.out);have z0:=af (k:=0) HR1.out;have z1:=af (k:=1) HR1.out;have z2:=af (k:=2) HR1.out;have z3:=af (k:=3) HR1.out;have z4:=af (k:=4) HR1.out;have z5:=af (k:=5) HR1.out;simp only[List.getElem?_toArray,cw]at z0 z1 z2 z3 z4 z5;have g0:=aI (k:=0) HR1.out;have g1:=aI (k:=1) HR1.out
   have g2:=aI (k:=2) HR1.out;have g3:=aI (k:=3) HR1.out;have g4:=aI (k:=4) HR1.out;have g5:=aI (k:=5) HR1.out;go_wp2_with fail;refine iD HR1.out rfl rfl rfl ?_;refine⟨jZ (HBW.out.trans (HB1.out.mono (by have:=HSZ.out; omega))) (by omega) (by have:=HB1.out.size; have:=HSZ.out; omega), ?_⟩;rw[HBAD.out];exact⟨rfl,by decide⟩
  ·cases hvc:dA c with
   | false=>
    have HBAD:=aa (show dm prev tm tree (bl rules) c= .error 1 from mr (fun h=>by rw[hvc]at h; cases h.2.2));have HVC:=aa hvc;clear hvc
    go_upto_region 2 with(first | (go_at_call 12; refine(fB S prev (.slice fa fl fc) true W HFW.out HEW.out.env HVX.out).mono ?_; rintro e w1 ⟨rfl,hb1⟩; have HB1:=aa hb1; have y0:=(hb1.cell (p:=⟨w.heap.size,0,none⟩) (ax x0)).trans x0; have HC1:=aa ((hb1.block _ (lt_of_block HC.out)).trans HC.out); have c0:=af (k:=0) HC1.out; have c1:=af (k:=1) HC1.out; have c2:=af (k:=2) HC1.out; have c3:=af (k:=3) HC1.out; have c4:=af (k:=4) HC1.out; simp only[List.getElem?_toArray,cw]at c0 c1 c2 c3 c4; clear hb1) | (go_at_call 36; refine(fq c false _ HVC.out).mono ?_; rintro e w2 ⟨rfl,hb2⟩; have HB2:=aa hb2; clear hb2))
    have HB12:=aa (ag HB1.out HB2.out);have HR1:=aa ((HB12.out.block _ (lt_of_block HR.out)).trans HR.out);have z0:=af (k:=0) HR1.out;have z1:=af (k:=1) HR1.out;have z2:=af (k:=2) HR1.out;have z3:=af (k:=3) HR1.out;have z4:=af (k:=4) HR1.out;have z5:=af (k:=5) HR1.out;simp only[List.getElem?_toArray,cw]at z0 z1 z2 z3 z4 z5;have g0:=aI (k:=0) HR1.out
    have g1:=aI (k:=1) HR1.out;have g2:=aI (k:=2) HR1.out;have g3:=aI (k:=3) HR1.out;have g4:=aI (k:=4) HR1.out;have g5:=aI (k:=5) HR1.out;go_wp2_with fail;refine iD HR1.out rfl rfl rfl ?_;refine⟨jZ (HBW.out.trans (HB12.out.mono (by have:=HSZ.out; omega))) (by omega) (by have:=HB12.out.size; have:=HSZ.out; omega), ?_⟩;rw[HBAD.out];exact⟨rfl,by decide⟩
   | true=>
    have HVC:=aa hvc;have HOK:=aa (show fm prev=true/\prev.tm<=tm/\dA c=true from⟨HVX.out,by omega,hvc⟩);clear hvc
    go_upto_region 3 with(first | (go_at_call 12; refine(fB S prev (.slice fa fl fc) true W HFW.out HEW.out.env HVX.out).mono ?_; rintro e w1 ⟨rfl,hb1⟩; have HB1:=aa hb1; have y0:=(hb1.cell (p:=⟨w.heap.size,0,none⟩) (ax x0)).trans x0; have HC1:=aa ((hb1.block _ (lt_of_block HC.out)).trans HC.out); have c0:=af (k:=0) HC1.out; have c1:=af (k:=1) HC1.out; have c2:=af (k:=2) HC1.out; have c3:=af (k:=3) HC1.out; have c4:=af (k:=4) HC1.out; simp only[List.getElem?_toArray,cw]at c0 c1 c2 c3 c4; clear hb1) | (go_at_call 36; refine(fq c true _ HVC.out).mono ?_; rintro e w2 ⟨rfl,hb2⟩; have HB2:=aa (ag HB1.out hb2); clear hb2))
    clear x0 x1 y0 c0 c1 c2 c3 c4 hlt;have HE2:=aa (HEW.out.below HB2.out);obtain⟨rs,rn,rx,hpe⟩: ∃rs rn rx,bH (bl rules)=(rs,rn,rx):=⟨_,_,_,rfl⟩;have HPE:=aa hpe;have hpa:=uD rules w2 HE2.out.env;rw[hpe]at hpa;have HPA:=aa hpa;clear hpe hpa
    go_upto_region 4 with(go_at_call 37; refine HPA.out.mono ?_; rintro e w3 ⟨rv,rfl,hru,hb3⟩; have HB3:=aa (ag HB2.out hb3); have HRU:=aa hru; have hz23:=hb3.size; clear hru hb3)
    by_cases hx:rx=0
    ·subst hx;obtain⟨z,hz⟩: ∃z,cj tree=z:=⟨_,rfl⟩;have HZ:=aa hz;have HE3:=aa (HEW.out.below HB3.out);have HT3:=aa (show bM T w3 (.slice ta tl tc) tree from(HT.out.below HBW.out).below HB3.out);clear hz
     go_upto_region 7 with(go_at_call 34; refine(pt T tree (.slice ta tl tc) z _ HT3.out HE3.out.env HZ.out).mono ?_; rintro e w4 ⟨rfl,hb4⟩; have HB4:=aa (ag HB3.out hb4); have HB34:=aa hb4; have hz34:=hb4.size; clear hb4)
     by_cases hz0:z=0
     ·subst hz0;have hz12:w.heap.size+3<=w4.heap.size:=by have:=HB4.out.size; have:=HSZ.out; omega
      go_upto_region 9 with fail
      obtain⟨W0,hW0⟩: ∃W0:World,W0=w4.drew:=⟨_,rfl⟩;have HBZ:=aa (show Below W.heap.size W W0 by rw[hW0]; exact HB4.out.drew);have HB40:=aa (show Below w4.heap.size w4 W0 by rw[hW0]; exact(Below.refl _ _).drew);have hz0:W0.heap.size=w4.heap.size:=by rw[hW0]; rfl
      have HX0:=aa ((HBZ.out.block _ (lt_of_block HX.out)).trans HX.out);have HC0:=aa ((HBZ.out.block _ (lt_of_block HC.out)).trans HC.out);have HR0:=aa ((HBZ.out.block _ (lt_of_block HR.out)).trans HR.out);obtain⟨base,hbase⟩: ∃base,base=W0.heap.size:=⟨_,rfl⟩;have HBS:=aa hbase;have HFB:=aa (show aY (· <base) W0 (.slice fa fl fc) prev.files from wM (wK (HFW.out.below HBZ.out)) (fun k hk=>by rw[hbase]; exact hk))
      have HTB:=aa (show bM (· <base) W0 (.slice ta tl tc) tree from yB (yA ((HT.out.below HBW.out).below HBZ.out)) (fun k hk=>by rw[hbase]; exact hk));have HE0:=aa (HEW.out.below HBZ.out);have hvi:=HVX.out;have hlen:prev.files.length<=4096:=yF hvi;have HND:=aa (show(prev.files.map au.path).Nodup from by
       have h1:=yE hvi;unfold zQ at h1;unfold List.Nodup;rw[List.pairwise_map];exact h1.imp fun h=>Ab h)
      clear hvi;have S0:=aa (And.intro HX0.out HC0.out);refine fR (fun w'=>w'.heap[w.heap.size]? =some (.cells #[.int .i64 prev.tm, .slice fa fl fc] 24 (0,0))/\w'.heap[w.heap.size+1]? =some (.cells #[.int .i64 c.mn, .int .i64 c.mx, .int .i64 c.win, .int .i64 c.bits, .int .u64 (c.seed:Int)] 48 (0,0))) (by kernel_rfl) ?_;rw[<-hW0];clear hW0 hbase;refine ac 0 rfl (by kernel_rfl) (by kernel_rfl) (by kernel_rfl) (fun _ _ _ h=>h) rfl S0.out (by rintro w' ⟨hw1,hw2⟩; have o0:=af (k:=0) hw1; have o1:=af (k:=1) hw1; have c0:=af (k:=0) hw2; have c1:=af (k:=1) hw2; have c2:=af (k:=2) hw2; have c3:=af (k:=3) hw2; have c4:=af (k:=4) hw2; simp only[List.getElem?_toArray,cw]at o0 o1 c0 c1 c2 c3 c4; clear hw1 hw2; go_simp; rfl) ?_
      simp only[Act.put,aD,aE,aF];refine ac 1 rfl (by kernel_rfl) (by kernel_rfl) (by kernel_rfl) (fun _ _ _ h=>h) rfl S0.out (by rintro w' ⟨hw1,hw2⟩; have o0:=af (k:=0) hw1; have o1:=af (k:=1) hw1; have c0:=af (k:=0) hw2; have c1:=af (k:=1) hw2; have c2:=af (k:=2) hw2; have c3:=af (k:=3) hw2; have c4:=af (k:=4) hw2; simp only[List.getElem?_toArray,cw]at o0 o1 c0 c1 c2 c3 c4; clear hw1 hw2; go_simp; rfl) ?_
      simp only[Act.put,aD,aE,aF];refine ac 2 rfl (by kernel_rfl) (by kernel_rfl) (by kernel_rfl) (fun _ _ _ h=>h) rfl S0.out (by rintro w' ⟨hw1,hw2⟩; have o0:=af (k:=0) hw1; have o1:=af (k:=1) hw1; have c0:=af (k:=0) hw2; have c1:=af (k:=1) hw2; have c2:=af (k:=2) hw2; have c3:=af (k:=3) hw2; have c4:=af (k:=4) hw2; simp only[List.getElem?_toArray,cw]at o0 o1 c0 c1 c2 c3 c4; clear hw1 hw2; go_simp; rfl) ?_
      simp only[Act.put,aD,aE,aF];refine ac 4 rfl (by kernel_rfl) (by kernel_rfl) (by kernel_rfl) (fun _ _ _ h=>h) rfl S0.out (by rintro w' ⟨hw1,hw2⟩; have o0:=af (k:=0) hw1; have o1:=af (k:=1) hw1; have c0:=af (k:=0) hw2; have c1:=af (k:=1) hw2; have c2:=af (k:=2) hw2; have c3:=af (k:=3) hw2; have c4:=af (k:=4) hw2; simp only[List.getElem?_toArray,cw]at o0 o1 c0 c1 c2 c3 c4; clear hw1 hw2; go_simp; rfl) ?_
      simp only[Act.put,aD,aE,aF];refine ac 6 rfl (by kernel_rfl) (by kernel_rfl) (by kernel_rfl) (fun _ _ _ h=>h) rfl S0.out (by rintro w' ⟨hw1,hw2⟩; have o0:=af (k:=0) hw1; have o1:=af (k:=1) hw1; have c0:=af (k:=0) hw2; have c1:=af (k:=1) hw2; have c2:=af (k:=2) hw2; have c3:=af (k:=3) hw2; have c4:=af (k:=4) hw2; simp only[List.getElem?_toArray,cw]at o0 o1 c0 c1 c2 c3 c4; clear hw1 hw2; go_simp; rfl) ?_
      simp only[Act.put,aD,aE,aF];refine bc 3 rfl (by kernel_rfl) rfl (fun K hK=> ?_);go_wp2_with (go_at_call 38; refine(pK (· <base) prev (.slice fa fl fc) W0 HFB.out HND.out hlen).mono ?_; rintro e w5 ⟨mb,rfl,hmb,hfm,hb5⟩; have HB5:=aa hb5; have HFM:=aa hfm; have hz5:=hb5.size; clear hb5 hfm);have S5:=aa (And.intro ((HB5.out.block _ (lt_of_block HX0.out)).trans HX0.out) ((HB5.out.block _ (lt_of_block HC0.out)).trans HC0.out))
      refine⟨S5.out, ?_⟩;refine bc 5 rfl (by kernel_rfl) rfl (fun K hK=> ?_);go_wp2_with (go_at_call 39; refine(oE (· <base) prev (.slice fa fl fc) w5 (HFB.out.below HB5.out)).mono ?_; rintro e w6 ⟨kb,rfl,hkb,hkn,hb6⟩; have HB6:=aa hb6; have HKN:=aa hkn; have hz6:=hb6.size; clear hb6 hkn);have HB06:=aa (ag HB5.out HB6.out);have S6:=aa (And.intro ((HB06.out.block _ (lt_of_block HX0.out)).trans HX0.out) ((HB06.out.block _ (lt_of_block HC0.out)).trans HC0.out))
      refine⟨S6.out, ?_⟩;refine ac 7 rfl (by kernel_rfl) (by kernel_rfl) (by kernel_rfl) (fun _ _ _ h=>h) rfl S6.out (by rintro w' ⟨hw1,hw2⟩; have o0:=af (k:=0) hw1; have o1:=af (k:=1) hw1; have c0:=af (k:=0) hw2; have c1:=af (k:=1) hw2; have c2:=af (k:=2) hw2; have c3:=af (k:=3) hw2; have c4:=af (k:=4) hw2; simp only[List.getElem?_toArray,cw]at o0 o1 c0 c1 c2 c3 c4; clear hw1 hw2; go_simp; rfl) ?_
      simp only[Act.put,aD,aE,aF];refine bc 8 rfl (by kernel_rfl) rfl (fun K hK=> ?_);go_wp2_with fail;obtain⟨wc,hwc⟩: ∃wc,wc=w6.alloc (.cells (bN ⟨0, .slice none 0 0, .slice none 0 0,0,0,prev.tm,mb,c⟩ kb (.slice none 0 0)).toArray 95):=⟨_,rfl⟩;have HBC:=aa (show Below w6.heap.size w6 wc by rw[hwc]; exact(Below.refl _ _).alloc (Nat.le_refl _) _);have HCB:=aa (show wc.heap[w6.heap.size]? =some (.cells (bN ⟨0, .slice none 0 0, .slice none 0 0,0,0,prev.tm,mb,c⟩ kb (.slice none 0 0)).toArray 95 (0,0)) by rw[hwc]; exact heap_alloc_new w6 _)
      have hwc2:=hwc;simp only[bN,bR,List.cons_append,List.nil_append]at hwc2;have HB0C:=aa (ag HB06.out HBC.out);have SC:=aa (And.intro ((HB0C.out.block _ (lt_of_block HX0.out)).trans HX0.out) ((HB0C.out.block _ (lt_of_block HC0.out)).trans HC0.out));have hb0:=HBS.out;have HCO:=aa (show cD W0 wc base w6.heap.size kb ⟨0, .slice none 0 0, .slice none 0 0,0,0,prev.tm,mb,c⟩ (.slice none 0 0) prev.files ⟨[],nt prev.files,[],0,0⟩from
       ⟨⟨HCB.out,⟨[],rfl,World.ownsRow_nil _ _ _ _,by simp⟩,HKN.out.below HBC.out⟩,bB.nil _ _,(HFM.out.below HB6.out).below HBC.out,by rw[hb0]; exact HB0C.out,by have:=HFM.out.lt; show mb≠kb; omega,rfl,rfl⟩)
      have hzc:w6.heap.size<wc.heap.size:=lt_of_block HCB.out;have hwc3:w6.alloc (.cells #[.int .i64 0, .slice none 0 0, .slice none 0 0, .slice none 0 0, .int .i64 0, .int .i64 0, .int .i64 prev.tm, .map (some mb), .map (some kb), .int .i64 c.mn, .int .i64 c.mx, .int .i64 c.win, .int .i64 c.bits, .int .u64 (c.seed:Int)] 95)=wc:=hwc.symm;rw[hwc3];clear hwc hwc2 hwc3;refine⟨SC.out, ?_⟩
      refine ac 9 rfl (by kernel_rfl) (by kernel_rfl) (by kernel_rfl) (fun _ _ _ h=>h) rfl SC.out (by rintro w' ⟨hw1,hw2⟩; have o0:=af (k:=0) hw1; have o1:=af (k:=1) hw1; have c0:=af (k:=0) hw2; have c1:=af (k:=1) hw2; have c2:=af (k:=2) hw2; have c3:=af (k:=3) hw2; have c4:=af (k:=4) hw2; simp only[List.getElem?_toArray,cw]at o0 o1 c0 c1 c2 c3 c4; clear hw1 hw2; go_simp; rfl) ?_
      simp only[Act.put,aD,aE,aF];refine bO (by kernel_rfl) ?_;have k0:=af (k:=0) HCB.out;have f0:=aI (k:=0) HCB.out;simp only[bN,bR,List.cons_append,List.nil_append,List.getElem?_toArray,List.getElem?_cons_zero]at k0
      go_upto_region 11 with fail
      obtain⟨wd,hwd⟩: ∃wd,wd=wc.setCell ⟨w6.heap.size,0,none⟩ (.int .i64 tm):=⟨_,rfl⟩;rw[<-hwd];obtain⟨cb,hcb⟩: ∃cb,cb=w6.heap.size:=⟨_,rfl⟩;have HCO2:=aa (show cD W0 wd base cb kb ⟨tm, .slice none 0 0, .slice none 0 0,0,0,prev.tm,mb,c⟩ (.slice none 0 0) prev.files ⟨[],nt prev.files,[],0,0⟩ by
       rw[hwd,hcb];exact HCO.out.setq 0 (.int .i64 tm) (q':=⟨tm, .slice none 0 0, .slice none 0 0,0,0,prev.tm,mb,c⟩) (by simp[bN]) rfl rfl rfl rfl rfl rfl rfl (by omega) (by omega))
      have hzd:wd.heap.size=wc.heap.size:=by rw[hwd]; simp[World.setCell]
      rw[<-hcb];have hcbb:base<=cb:=by omega
      have hkbb:base<=kb:=by omega
      clear hwd k0 f0 hcb;have h6:6<=base:=by have:=HE0.out.six; omega
      have hTO:=dZ.1 HZ.out;have HVE:=aa hTO.val;have htl2:tl<=4096:=by have h1:=hTO.len; rwa [<-HTL.out]at h1
      obtain⟨us,hus,hig⟩:=wT HPE.out;have HIG:=aa hig;have HPT:=aa (show ∀r∈rs,r.pat.length<=9223372036854775807 from fun r hr=>by have:=(qj HPE.out).2.2.2 r hr; omega);have hz34':w3.heap.size<=base:=by have:=HBS.out; omega
      have HRB:=aa (show bA (· <base) W0 rv rs from xz (xy (bA.below (bA.below HRU.out HB34.out) HB40.out)) (fun k hk=>by have:=HBS.out; rw[this]; exact hk));clear hTO hus hig;go_wp2_with fail
      go_loopw [70] (fun i wr=> ∃(k:Nat) (fv' nv':Value) (rd kp:Nat),k<=tl/\i= .int .i64 k/\cD W0 wr base cb kb ⟨tm,fv', .slice none 0 0,rd,kp,prev.tm,mb,c⟩ nv' prev.files (bZ prev.tm prev.files c (bJ rs (tree.take k)))) (fun i _=>tl-(intOf i).toNat)
      case atStart=>exact⟨0,_,_,0,0,Nat.zero_le _,rfl,HCO2.out⟩
      case round=>
       obtain⟨k,fv',nv',rd,kp,hk,rfl,hco⟩:=hrel;have HCK:=aa hco;have HBK:=aa hco.old;have hzk:=hco.old.size;clear hco
       by_cases hlt:k<tl
       ·obtain⟨e,he⟩: ∃e,tree[k]? =some e:=⟨_,List.getElem?_eq_getElem (show k<tree.length by rw[<-HTL.out]; exact hlt)⟩;have HTK:=aa (wI HTB.out HBK.out);obtain⟨b,o,dv,rfl,-,-,hd,heok,-,q0,q1,q2,q3,q4,q5⟩:=iw HTK.out he;obtain⟨da,dc,rfl,hd1,hd2⟩:=hd.slice;have HAT:=aa he;have HDA:=aa hd;have HEO:=aa heok;have hve:=HVE.out e (List.mem_of_getElem? he)
        have HVL:=aa hve;have hk256:(tree.take k).length<=k:=List.length_take_le _ _;have hKl:(bJ rs (tree.take k)).length<=k:=Nat.le_trans (List.length_filter_le _ _) hk256;have HKV:=aa (show ∀x∈bJ rs (tree.take k),dC x=true from fun x hx=>HVE.out x (List.take_subset _ _ (jG hx).1));obtain⟨ig,hig⟩: ∃ig,cy rs (bl e.path) (e.kind == 2)=(ig,0):=⟨_,HIG.out _ _ (bL hve)⟩
        have HIGE:=aa hig;have HIGK:=aa (show kZ rs e=ig by unfold kZ; rw[show decide (e.kind=2)=(e.kind == 2)from rfl,hig]);have HAL:=aa ((Below.refl wr.heap.size wr).alloc (Nat.le_refl _) (.cells #[.string e.path, .int .i64 e.kind, .int .i64 e.mode, .int .i64 e.time, .slice da e.data.length dc, .string e.link] 30));have HRK:=aa (bA.below (bA.old HRB.out HBK.out) HAL.out)
        have HEK:=aa ((HE0.out.keep HBK.out h6).below HAL.out);clear he hd heok hve hig
        go_upto_region 15 with(go_at_call 40; refine(rC rs (· <base) rv e.path (e.kind == 2) ig _ HEK.out.env HRK.out HPT.out HIGE.out).mono ?_; rintro e8 w8 ⟨rfl,hb8⟩; have HB8:=aa (ag HAL.out hb8); have HY8:=aa ((hb8.block _ (by simp)).trans (heap_alloc_new wr (.cells #[.string e.path, .int .i64 e.kind, .int .i64 e.mode, .int .i64 e.time, .slice da e.data.length dc, .string e.link] 30))); clear hb8)
        have hz8:=HB8.out.size;have HC8:=aa (HCK.out.below HB8.out (by omega))
        cases hg:ig with
        | true=>
         subst hg;go_wp2_with fail
         go_roundw
         case rel=>
          refine⟨k+1,fv',nv',rd,kp,by omega,rfl, ?_⟩;rw[ba HAT.out,uj HIGK.out];exact HC8.out
         case measure=>simp only[intOf,Int.toNat_natCast]; omega
        | false=>
         subst hg;have HD8:=aa (show bP (· <base) w8 (.slice da e.data.length dc) e.data from aB.same HDA.out (fun i hi=>HB8.out.block i (by omega)));have HE8:=aa (HE0.out.keep HC8.out.old h6);have x0:=af (k:=0) HY8.out;have x1:=af (k:=1) HY8.out;have x2:=af (k:=2) HY8.out;have x3:=af (k:=3) HY8.out;have x4:=af (k:=4) HY8.out;have x5:=af (k:=5) HY8.out
         simp only[List.getElem?_toArray,cw]at x0 x1 x2 x3 x4 x5;have hnw:=xC (tm:=prev.tm) (prev:=prev.files) HVC.out HKV.out;have hadd:=ve W0 base cb kb ⟨tm,fv', .slice none 0 0,rd,kp,prev.tm,mb,c⟩ nv' (.slice da e.data.length dc) prev.files (bZ prev.tm prev.files c (bJ rs (tree.take k))) e w8 HC8.out HD8.out HEO.out HVL.out HVC.out hs HE8.out hcbb hkbb (by omega) h6 (by omega)
          (by show(List.map _ _).length<=_; rw[List.length_map]; omega) (by show(List.filter _ _).length<=_; exact Nat.le_trans (List.length_filter_le _ _) (by omega)) (by show(List.filter _ _).length<=_; exact Nat.le_trans (List.length_filter_le _ _) (by omega)) HPL.out
         have HADD:=aa hadd;clear hnw hadd
         go_upto_region 19 with(go_at_call 41; refine HADD.out.mono ?_; rintro e9 w9 ⟨fv2,nv2,rd2,kp2,rfl,hco9,hb9⟩; have HC9:=aa hco9; clear hco9 hb9)
         go_wp2_with fail
         go_roundw
         case rel=>
          refine⟨k+1,fv2,nv2,rd2,kp2,by omega,rfl, ?_⟩;rw[ba HAT.out,uk HIGK.out,xB];exact HC9.out
         case measure=>simp only[intOf,Int.toNat_natCast]; omega
       ·have hkt:k=tl:=by omega
        subst hkt;have htk:tree.take k=tree:=List.take_of_length_le (by rw[<-HTL.out]; exact Nat.le_refl _);rw[htk]at HCK;clear htk
        go_upto_region 22 with fail
        obtain⟨s,hss⟩: ∃s,s=bZ prev.tm prev.files c (bJ rs tree):=⟨_,rfl⟩;rw[<-hss]at HCK;have HSK:=aa hss;obtain⟨zsF,-,hzrF,-⟩:=HCK.out.files.row;obtain⟨fva,fvc,hfv,-,-⟩:=aj hzrF;obtain⟨ysN,-,hysN,-⟩:=HCK.out.col.news;obtain⟨nva,nvc,hnv,-,-⟩:=aj hysN;obtain⟨fvn,hfvn⟩: ∃n,n=zsF.length:=⟨_,rfl⟩;obtain⟨nvn,hnvn⟩: ∃n,n=ysN.length:=⟨_,rfl⟩
        rw[<-hfvn]at hfv;rw[<-hnvn]at hnv;have hfv:fv'= .slice fva fvn fvc:=hfv;have hnv:nv'= .slice nva nvn nvc:=hnv;clear hzrF hysN hfvn hnvn;subst hfv hnv;have HOUT:=aa (yV (tree:=tree) HOK.out HPE.out HZ.out hss);have hsf:s.files.length<=4096:=by
         rw[hss]
         show(List.map _ _).length<=_
         rw[List.length_map];have h1:(bJ rs tree).length<=tree.length:=List.length_filter_le _ _;have:=HTL.out;omega
        obtain⟨q,hq⟩: ∃q:fI,q=⟨tm,(.slice fva fvn fvc), .slice none 0 0,rd,kp,prev.tm,mb,c⟩:=⟨_,rfl⟩;have HQ:=aa hq;obtain⟨WE,hWE⟩: ∃WE:World,WE=wr.drew:=⟨_,rfl⟩;have HBE:=aa (show Below wr.heap.size wr WE by rw[hWE]; exact(Below.refl _ _).drew);have HCE:=aa (HCK.out.below HBE.out (by omega));have HBXE:=aa (show WE.heap[cb]? =some (.cells (bN ⟨tm,(.slice fva fvn fvc), .slice none 0 0,rd,kp,prev.tm,mb,c⟩ kb (.slice nva nvn nvc)).toArray 95 (0,0))from HCE.out.col.box)
        have hzE:=HBE.out.size;have hwb:w.heap.size<base:=by omega
        have HXE:=aa ((HCE.out.old.block _ hwb).trans HX0.out);have HFE:=aa (show aY (fun i=>base<=i) WE (.slice fva fvn fvc) s.files from HCE.out.files.at);have HFP:=aa (show aY (· <base) WE (.slice fa fl fc) prev.files from by
         obtain⟨cells,h1,h2⟩:=HFB.out;exact⟨cells,aB.same h1 (fun i hi=>HCE.out.old.block i hi),h2.mono fun c x _ ⟨u,e1,e2,e3⟩=>⟨u,e1,e2.old HCE.out.old,e3⟩⟩)
        have SE:=aa (And.intro HXE.out HBXE.out);clear hss hq;refine cN (fun w'=>w'.heap[w.heap.size]? =some (.cells #[.int .i64 prev.tm, .slice fa fl fc] 24 (0,0))/\w'.heap[cb]? =some (.cells (bN ⟨tm,(.slice fva fvn fvc), .slice none 0 0,rd,kp,prev.tm,mb,c⟩ kb (.slice nva nvn nvc)).toArray 95 (0,0))) (by kernel_rfl) (by kernel_rfl) ?_;simp only[List.dropLast_cons_cons,List.dropLast_singleton,List.length_cons,List.length_nil,Nat.reduceAdd,Nat.reduceSub]
        rw[<-hWE];clear hWE;refine ac 0 rfl (by kernel_rfl) (by kernel_rfl) (by kernel_rfl) (fun _ _ _ h=>h) rfl SE.out (by rintro w' ⟨hw1,hw2⟩; have o0:=af (k:=0) hw1; have o1:=af (k:=1) hw1; have c0:=af (k:=0) hw2; have c1:=af (k:=1) hw2; simp only[bN,bR,List.cons_append,List.nil_append,List.getElem?_toArray,cw]at o0 o1 c0 c1; clear hw1 hw2; go_simp; rfl) ?_
        simp only[Act.put,aD,aE,aF];refine ac 1 rfl (by kernel_rfl) (by kernel_rfl) (by kernel_rfl) (fun _ _ _ h=>h) rfl SE.out (by rintro w' ⟨hw1,hw2⟩; have o0:=af (k:=0) hw1; have o1:=af (k:=1) hw1; have c0:=af (k:=0) hw2; have c1:=af (k:=1) hw2; simp only[bN,bR,List.cons_append,List.nil_append,List.getElem?_toArray,cw]at o0 o1 c0 c1; clear hw1 hw2; go_simp; rfl) ?_
        simp only[Act.put,aD,aE,aF];refine ac 2 rfl (by kernel_rfl) (by kernel_rfl) (by kernel_rfl) (fun _ _ _ h=>h) rfl SE.out (by rintro w' ⟨hw1,hw2⟩; have o0:=af (k:=0) hw1; have o1:=af (k:=1) hw1; have c0:=af (k:=0) hw2; have c1:=af (k:=1) hw2; simp only[bN,bR,List.cons_append,List.nil_append,List.getElem?_toArray,cw]at o0 o1 c0 c1; clear hw1 hw2; go_simp; rfl) ?_
        simp only[Act.put,aD,aE,aF];refine ac 3 rfl (by kernel_rfl) (by kernel_rfl) (by kernel_rfl) (fun _ _ _ h=>h) rfl SE.out (by rintro w' ⟨hw1,hw2⟩; have o0:=af (k:=0) hw1; have o1:=af (k:=1) hw1; have c0:=af (k:=0) hw2; have c1:=af (k:=1) hw2; simp only[bN,bR,List.cons_append,List.nil_append,List.getElem?_toArray,cw]at o0 o1 c0 c1; clear hw1 hw2; go_simp; rfl) ?_
        simp only[Act.put,aD,aE,aF];refine ac 4 rfl (by kernel_rfl) (by kernel_rfl) (by kernel_rfl) (fun _ _ _ h=>h) rfl SE.out (by rintro w' ⟨hw1,hw2⟩; have o0:=af (k:=0) hw1; have o1:=af (k:=1) hw1; have c0:=af (k:=0) hw2; have c1:=af (k:=1) hw2; simp only[bN,bR,List.cons_append,List.nil_append,List.getElem?_toArray,cw]at o0 o1 c0 c1; clear hw1 hw2; go_simp; rfl) ?_
        simp only[Act.put,aD,aE,aF];refine ac 5 rfl (by kernel_rfl) (by kernel_rfl) (by kernel_rfl) (fun _ _ _ h=>h) rfl SE.out (by rintro w' ⟨hw1,hw2⟩; have o0:=af (k:=0) hw1; have o1:=af (k:=1) hw1; have c0:=af (k:=0) hw2; have c1:=af (k:=1) hw2; simp only[bN,bR,List.cons_append,List.nil_append,List.getElem?_toArray,cw]at o0 o1 c0 c1; clear hw1 hw2; go_simp; rfl) ?_
        simp only[Act.put,aD,aE,aF];refine ac 6 rfl (by kernel_rfl) (by kernel_rfl) (by kernel_rfl) (fun _ _ _ h=>h) rfl SE.out (by rintro w' ⟨hw1,hw2⟩; have o0:=af (k:=0) hw1; have o1:=af (k:=1) hw1; have c0:=af (k:=0) hw2; have c1:=af (k:=1) hw2; simp only[bN,bR,List.cons_append,List.nil_append,List.getElem?_toArray,cw]at o0 o1 c0 c1; clear hw1 hw2; go_simp; rfl) ?_
        simp only[Act.put,aD,aE,aF];refine bc 7 rfl (by kernel_rfl) rfl (fun K hK=> ?_);have hlen2:prev.files.length<=4096:=hlen;go_wp2_with (go_at_call 42; refine(pp (· <base) (fun i=>base<=i) prev ⟨tm,s.files⟩ (.slice fa fl fc) (.slice fva fvn fvc) WE HFP.out HFE.out hlen2 hsf).mono ?_; rintro e9 w9 ⟨cv,rfl,ho9,hb9⟩; obtain⟨va,vc,rfl,-,-⟩:=aj ho9; have HO9:=aa ho9; have HB9:=aa hb9; have hz9:=hb9.size; clear ho9 hb9)
        obtain⟨vn,hvn⟩: ∃n,n=(kV prev.files s.files).length:=⟨_,rfl⟩;rw[<-hvn]at HO9 ⊢;have HVN:=aa hvn;clear hvn;have HC9:=aa (HCE.out.below HB9.out (by omega));have HBX9:=aa (show w9.heap[cb]? =some (.cells (bN ⟨tm,(.slice fva fvn fvc), .slice none 0 0,rd,kp,prev.tm,mb,c⟩ kb (.slice nva nvn nvc)).toArray 95 (0,0))from HC9.out.col.box);have S9:=aa (And.intro ((HB9.out.block _ (lt_of_block HXE.out)).trans HXE.out) HBX9.out)
        refine⟨S9.out, ?_⟩;refine ac 8 rfl (by kernel_rfl) (by kernel_rfl) (by kernel_rfl) (fun _ _ _ h=>h) rfl S9.out (by rintro w' ⟨hw1,hw2⟩; have o0:=af (k:=0) hw1; have o1:=af (k:=1) hw1; have c0:=af (k:=0) hw2; have c1:=af (k:=1) hw2; simp only[bN,bR,List.cons_append,List.nil_append,List.getElem?_toArray,cw]at o0 o1 c0 c1; clear hw1 hw2; go_simp; rfl) ?_
        simp only[Act.put,aD,aE,aF];refine ac 9 rfl (by kernel_rfl) (by kernel_rfl) (by kernel_rfl) (fun _ _ _ h=>h) rfl S9.out (by rintro w' ⟨hw1,hw2⟩; have o0:=af (k:=0) hw1; have o1:=af (k:=1) hw1; have c0:=af (k:=0) hw2; have c1:=af (k:=1) hw2; simp only[bN,bR,List.cons_append,List.nil_append,List.getElem?_toArray,cw]at o0 o1 c0 c1; clear hw1 hw2; go_simp; rfl) ?_
        simp only[Act.put,aD,aE,aF];refine ac 10 rfl (by kernel_rfl) (by kernel_rfl) (by kernel_rfl) (fun _ _ _ h=>h) rfl S9.out (by rintro w' ⟨hw1,hw2⟩; have o0:=af (k:=0) hw1; have o1:=af (k:=1) hw1; have c0:=af (k:=0) hw2; have c1:=af (k:=1) hw2; simp only[bN,bR,List.cons_append,List.nil_append,List.getElem?_toArray,cw]at o0 o1 c0 c1; clear hw1 hw2; go_simp; rfl) ?_
        simp only[Act.put,aD,aE,aF];refine bO (by kernel_rfl) ?_;refine cZ rfl rfl (fun K hK=> ?_);have k2:=af (k:=2) HBX9.out;have f2:=aI (k:=2) HBX9.out;simp only[bN,bR,List.cons_append,List.nil_append,List.getElem?_toArray,cw]at k2
        go_upto_region 23 with fail
        obtain⟨WF,hWF⟩: ∃WF,WF=w9.setCell ⟨cb,2,none⟩ (.slice va vn vc):=⟨_,rfl⟩;rw[<-hWF];have HCF:=aa (show cD W0 WF base cb kb ⟨tm,(.slice fva fvn fvc),(.slice va vn vc),rd,kp,prev.tm,mb,c⟩ (.slice nva nvn nvc) prev.files s by
         rw[hWF];exact HC9.out.setq 2 (.slice va vn vc) (q':=⟨tm,(.slice fva fvn fvc),(.slice va vn vc),rd,kp,prev.tm,mb,c⟩) (by simp[bN]) rfl rfl rfl rfl rfl HC9.out.rd HC9.out.kp hcbb (by omega))
        have HOF:=aa (show WF.ownsRow WE.heap.size 60 2 (.slice va vn vc) vn (eH (kV prev.files s.files)) by
         rw[hWF];refine bC HO9.out (fun i hi hv=>Below.heap_setCell _ _ _ _ (fun e1=> ?_));obtain⟨cs2,hc2⟩:=aH HO9.out hv;rw[e1]at hc2;exact absurd (aK HBX9.out hc2) (by decide))
        have HBXF:=aa (show WF.heap[cb]? =some (.cells (bN ⟨tm,(.slice fva fvn fvc),(.slice va vn vc),rd,kp,prev.tm,mb,c⟩ kb (.slice nva nvn nvc)).toArray 95 (0,0))from HCF.out.col.box);have hzF:=HCF.out.old.size;have HRF:=aa ((HCF.out.old.block _ (show w.heap.size+1+1<base by omega)).trans HR0.out);have m0:=af (k:=0) HBXF.out;have m1:=af (k:=1) HBXF.out;have m2:=af (k:=2) HBXF.out
        have m3:=af (k:=3) HBXF.out;have m4:=af (k:=4) HBXF.out;have m5:=af (k:=5) HBXF.out;simp only[bN,bR,List.cons_append,List.nil_append,List.getElem?_toArray,cw]at m0 m1 m2 m3 m4 m5;clear hWF k2 f2;have z0:=af (k:=0) HRF.out;have z1:=af (k:=1) HRF.out;have z2:=af (k:=2) HRF.out;have z3:=af (k:=3) HRF.out;have z4:=af (k:=4) HRF.out
        have z5:=af (k:=5) HRF.out;simp only[List.getElem?_toArray,cw]at z0 z1 z2 z3 z4 z5;have g0:=aI (k:=0) HRF.out;have g1:=aI (k:=1) HRF.out;have g2:=aI (k:=2) HRF.out;have g3:=aI (k:=3) HRF.out;have g4:=aI (k:=4) HRF.out;have g5:=aI (k:=5) HRF.out;go_wp2_with fail;refine iD HRF.out rfl rfl rfl ?_;have hzW:w.heap.size+3<=base:=by omega
        have hBWF:Below w.heap.size w WF:=(HBW.out.trans (HBZ.out.mono (by have:=HSZ.out; omega))).trans (HCF.out.old.mono (by omega));refine⟨jZ hBWF (by omega) (by omega), ?_⟩;rw[HOUT.out];have hrd:rd=s.read:=HCF.out.rd;have hkp:kp=s.kept:=HCF.out.kp;refine⟨_,_,_,by rw[hrd,hkp]; rfl, ?_, ?_, ?_⟩
        ·exact(HCF.out.files.le (show w.heap.size<=base by omega)).same fun i cs2 t2 hi hib hc2 ht2=>rI (fun e1=>by
          rw[e1]at hc2;have h1:=aK HRF.out hc2
          rcases ht2 with⟨rfl,_⟩ | rfl
          ·exact absurd h1 (by decide)
          ·exact absurd h1 (by decide))
        ·rw[show(kV prev.files s.files).length=vn from HVN.out.symm];refine bC (bK HOF.out (by omega)) (fun i hi hv=>rI (fun e1=> ?_));have:=(HOF.out.lt i hv).1;omega
        ·exact(HCF.out.col.news.le (show w.heap.size<=base by omega)).same fun i cs2 t2 hi hib hc2 ht2=>rI (fun e1=>by
          rw[e1]at hc2;have h1:=aK HRF.out hc2
          rcases ht2 with ht2 | rfl
          ·obtain⟨ys,_,h3,_⟩:=HCF.out.col.news;obtain⟨cs3,h4⟩:=aH h3 ht2;rw[e1]at h4;exact absurd (aK HRF.out h4) (by decide)
          ·exact absurd h1 (by decide))
     ·have HBAD:=aa (vi (tree:=tree) HOK.out HPE.out HZ.out hz0);have HR1:=aa ((HB4.out.block _ (lt_of_block HR.out)).trans HR.out);have z0:=af (k:=0) HR1.out;have z1:=af (k:=1) HR1.out;have z2:=af (k:=2) HR1.out;have z3:=af (k:=3) HR1.out;have z4:=af (k:=4) HR1.out;have z5:=af (k:=5) HR1.out;simp only[List.getElem?_toArray,cw]at z0 z1 z2 z3 z4 z5
      have g0:=aI (k:=0) HR1.out;have g1:=aI (k:=1) HR1.out;have g2:=aI (k:=2) HR1.out;have g3:=aI (k:=3) HR1.out;have g4:=aI (k:=4) HR1.out;have g5:=aI (k:=5) HR1.out;go_wp2_with fail;refine iD HR1.out rfl rfl rfl ?_;refine⟨jZ (HBW.out.trans (HB4.out.mono (by have:=HSZ.out; omega))) (by omega) (by have:=HB4.out.size; have:=HSZ.out; omega), ?_⟩
      rw[HBAD.out];exact⟨rfl,hz0⟩
    ·have HBAD:=aa (sw (tree:=tree) HOK.out HPE.out hx);have HR1:=aa ((HB3.out.block _ (lt_of_block HR.out)).trans HR.out);have z0:=af (k:=0) HR1.out;have z1:=af (k:=1) HR1.out;have z2:=af (k:=2) HR1.out;have z3:=af (k:=3) HR1.out;have z4:=af (k:=4) HR1.out;have z5:=af (k:=5) HR1.out;simp only[List.getElem?_toArray,cw]at z0 z1 z2 z3 z4 z5
     have g0:=aI (k:=0) HR1.out;have g1:=aI (k:=1) HR1.out;have g2:=aI (k:=2) HR1.out;have g3:=aI (k:=3) HR1.out;have g4:=aI (k:=4) HR1.out;have g5:=aI (k:=5) HR1.out;go_wp2_with fail;refine iD HR1.out rfl rfl rfl ?_;refine⟨jZ (HBW.out.trans (HB3.out.mono (by have:=HSZ.out; omega))) (by omega) (by have:=HB3.out.size; have:=HSZ.out; omega), ?_⟩
     rw[HBAD.out];exact⟨rfl,hx⟩
end Go.Proofs.YtnjkpcalgoefhaaGreatDoor
namespace Go.Proofs.YtnjkpcalgoefhaaGreatDoor
open Go.RowKit
def gN :cR:=⟨4,8,4,20,0⟩
theorem jy :dA gN=true:=by decide
def vL (l:List UInt8):ByteArray:=⟨l.toArray⟩
def yz :aX:=⟨vL [100],2,0,0,[],vL []⟩
def kF (d:List UInt8):aX:=⟨vL [100,47,102],1,0,5,d,vL []⟩
def dd (d:List UInt8):List aX:=[yz,kF d]
def bS (ps:List bq):List au:=[⟨vL [100],2,0,0,0,vL [],[]⟩,⟨vL [100,47,102],1,0,5,3,vL [],ps⟩]
theorem pC :bF gN [97,98,99]=[[97,98,99]]:=by decide+kernel
theorem ie (d:List UInt8) (h:d=[97,98,99]\/d=[97,98,100]):cj (dd d)=0:=by
 rcases h with rfl | rfl<;> decide+kernel
theorem tq (T:List aX):bJ [] T=T:=by
 have h: ∀(f n:Nat) (d:Bool) (p:List (List UInt8)),bE d p [] f n=false:=by
  intro f
  induction f with
  | zero=>intros; rfl
  | succ f ih=>intro n d p; simp[bE,dW,ih]
 unfold bJ;rw[List.filter_eq_self];intro e _;unfold kZ cy
 split
 ·rfl
 ·simp[aL,h]
def zr :aJ:=⟨[100],false,true,false⟩
theorem tE :bH [100,47]=([zr],0,0):=by kernel_rfl
theorem zY (d:List UInt8) (h:d=[97,98,100]):bJ [zr] (dd d)=[]:=by
 subst h; decide+kernel
theorem zt :dm ⟨0,[]⟩ 10 (dd [97,98,99]) [] gN= .ok ⟨⟨10,bS [bd [97,98,99]]⟩,[(vL [100],1),(vL [100,47,102],1)],[[97,98,99]],1,0⟩:=by
 unfold dm;rw[if_pos ⟨by decide+kernel,by decide,jy⟩,if_pos (by rw[dh]),if_pos (ie _ (.inl rfl)),dh,tq];have hk:lm 0 [] (kF [97,98,99])=true:=rfl;have hd: ∀d,lm 0 [] yz=false/\jS 0 [] yz=false/\jS 0 [] (kF d)=false:=fun d=>⟨rfl,rfl,rfl⟩
 have h1:bZ 0 [] gN (dd [97,98,99])=⟨bS [bd [97,98,99]],[gC [97,98,99]],[[97,98,99]],1,0⟩:=by
  have e1:cV 0 [] gN (kF [97,98,99])=[bd [97,98,99]]:=by
   rw[mh hk]
   show(bF gN [97,98,99]).map bd=_
   rw[pC]; rfl
  have e2:(dd [97,98,99]).filter (lm 0 [])=[kF [97,98,99]]:=rfl;have e3:(dd [97,98,99]).filter (jS 0 [])=[]:=rfl;unfold bZ;rw[e2,e3];have e4:(dd [97,98,99]).map (dw 0 [] gN)=bS [bd [97,98,99]]:=by
   unfold dd;simp only[List.map_cons,List.map_nil];unfold dw;rw[e1]; rfl
  rw[e4];simp only[List.flatMap_cons,List.flatMap_nil,List.append_nil];rw[show bF gN (kF [97,98,99]).data=[[97,98,99]]from pC]
  rfl
 rw[h1]
 generalize [bd [97,98,99]]=ps
 rfl
theorem tp :fm ⟨10,bS [bd [97,98,99]]⟩=true:=by
 have h:=zK (rules:=[]) (T:=dd [97,98,99]) (prev:=⟨0,[]⟩) (tm:=10) (c:=gN) dh (ie _ (.inl rfl)) (by decide+kernel) (by decide) jy;have h2:=zt;unfold dm at h2;rw[if_pos ⟨by decide+kernel,by decide,jy⟩,if_pos (by rw[dh]),if_pos (ie _ (.inl rfl)),dh]at h2;have h3:(bZ 0 [] gN (bJ [] (dd [97,98,99]))).files=bS [bd [97,98,99]]:=by
  have:=Except.ok.inj h2;exact congrArg (fun r=>r.idx.files) this
 have h4:(bJ [] (dd [97,98,99])).map (dw 0 [] gN)=bS [bd [97,98,99]]:=h3;rw[<-h4]; exact h
theorem Ad :dm ⟨10,bS [bd [97,98,99]]⟩ 20 (dd [97,98,100]) [] gN= .ok ⟨⟨20,bS [bd [97,98,99]]⟩,[],[],0,1⟩:=by
 have hi:=tp
 revert hi
 generalize [bd [97,98,99]]=ps
 intro hi;unfold dm;rw[if_pos ⟨hi,show(10:Int)<=20 by decide,jy⟩,if_pos (by rw[dh]),if_pos (ie _ (.inr rfl)),dh,tq];have e4:(dd [97,98,100]).map (dw 10 (bS ps) gN)=bS ps:=rfl;have e2:(dd [97,98,100]).filter (lm 10 (bS ps))=[]:=rfl;have e3:((dd [97,98,100]).filter (jS 10 (bS ps))).length=1:=rfl;unfold bZ
 simp only;rw[e2,e3,e4,show kV (bS ps) (bS ps)=[]from pw _ _]
 rfl
theorem Ae :dm ⟨10,bS [bd [97,98,99]]⟩ 20 (dd [97,98,100]) [100,47] gN= .ok ⟨⟨20,[]⟩,[(vL [100],4),(vL [100,47,102],4)],[],0,0⟩:=by
 have hi:=tp
 revert hi
 generalize [bd [97,98,99]]=ps
 intro hi;unfold dm;rw[if_pos ⟨hi,show(10:Int)<=20 by decide,jy⟩,if_pos (by rw[tE]),if_pos (ie _ (.inr rfl)),tE,zY _ rfl]
 rfl
open Go Go.RowKit Go.Maps
theorem zX (r r':bq) (w:World):(Op.equalIn 10000 82 (gz r) (gz r')).run Tryz.prog w= .ok (decide (r=r')) w:=by
 have u1:=Tryz.underlying9;have u2:=Tryz.underlying3;have hS:Tryz.prog.underlying 82=some (.struct (Tryz.prog.fieldsOf 82)):=by kernel_rfl
 rw[show(10000:Nat)=9999+1 from rfl];unfold gz;rw[run_equalIn_struct w 9999 82 _ _ hS (by kernel_rfl)];simp only[Program.fieldsOf,Tryz.underlying82]
 go_simp
 obtain⟨n,s⟩:=r;obtain⟨n',s'⟩:=r';have hn:n.toList=n'.toList<->n=n':=⟨fun h=>gI (by rw[<-bw,<-bw,h]),fun h=>by rw[h]⟩;simp only[bq.mk.injEq,hn]
 by_cases h1:n=n'<;> by_cases h3:s=s'<;> simp[h1,h3]
theorem qt (S T:Nat->Prop) (v u:Value) (rs ss:List bq) (w:World) (hv:ay S w v rs) (hu:ay T w u ss):
  Calls Tryz.prog 24 #[v,u] w fun e w'=>e= .returned (.bool (decide (rs=ss)))/\Below w.heap.size w w':=by
 obtain⟨a,cap,rfl,hc,hm,-⟩:=aT.shape hv dH.len;obtain⟨a2,cap2,rfl,hc2,hm2,-⟩:=aT.shape hu dH.len;unfold maxLen at hm hm2;have HV:=aa hv;have HU:=aa hu;clear hv hu
 by_cases hl:rs.length=ss.length
 ·have HL:=aa hl;have hl2:ss.length=rs.length:=hl.symm;rw[hl2]at HU hc2 ⊢;clear hl hl2
  go_enter Tryz.func24,Tryz.ntmps24
  go_wp2_with fail
  go_loopw [5] (fun i wr=> ∃k:Nat,k<=rs.length/\i= .int .i64 k/\rs.take k=ss.take k/\Below w.heap.size w wr) (fun i _=>rs.length-(intOf i).toNat)
  case atStart=>exact⟨0,Nat.zero_le _,rfl,by simp,Below.refl _ _⟩
  case round=>
   obtain⟨k,hk,rfl,hn,hb⟩:=hrel;have HN:=aa hn;have HB:=aa hb;clear hn hb
   by_cases hlt:k<rs.length
   ·obtain⟨r,hr⟩: ∃r,rs[k]? =some r:=⟨rs[k],by simp[hlt]⟩;obtain⟨x,hx⟩: ∃x,ss[k]? =some x:=⟨ss[k]'(by have:=HL.out; omega),by simp⟩;have HR:=aa hr;have HX:=aa hx;have heq:=zX r x;obtain⟨W,hW⟩: ∃W:World,W=wr.drew:=⟨_,rfl⟩;have HBW:=aa (show Below w.heap.size w W by rw[hW]; exact HB.out.drew);obtain⟨b,o,rfl,-,-,-,q0,q1⟩:=dP HV.out HBW.out hr
    obtain⟨b2,o2,rfl,-,-,-,p0,p1⟩:=dP (by have:=HU.out; rw[HL.out]at this; exact this) HBW.out hx;unfold gz at heq;clear hr hx
    by_cases hm:r=x
    ·have e1:decide (r=x)=true:=by simp[hm]
     rw[e1]at heq;have HT:=aa (show rs.take (k+1)=ss.take (k+1) by rw[ba HR.out,ba HX.out,HN.out,hm]);clear e1 hm;go_wp2_with fail;refine ak [some 9] (by kernel_rfl) (by kernel_rfl) (by kernel_rfl) ?_;simp only[bb,List.take_succ_cons,List.take_zero];rw[<-hW];clear hW
     repeat (first | (refine am rfl ?_; simp only[Act.put,aD,aE,aF]) | (refine aA rfl (fun K hK=> ?_); go_simp; refine hK _ ?_; clear hK K))
     refine az ?_;go_wp2_with fail
     go_roundw
     case rel=>exact⟨k+1,by omega,rfl,HT.out,HBW.out⟩
     case measure=>simp only[intOf,Int.toNat_natCast]; omega
    ·have e1:decide (r=x)=false:=by simp[hm]
     rw[e1]at heq;have HT:=aa (show decide (rs=ss)=false by
      rw[decide_eq_false_iff_not];intro e;have h1:=HR.out;rw[e,HX.out]at h1;exact hm (Option.some.inj h1).symm)
     clear e1 hm;go_wp2_with fail;refine ak [some 9] (by kernel_rfl) (by kernel_rfl) (by kernel_rfl) ?_;simp only[bb,List.take_succ_cons,List.take_zero];rw[<-hW];clear hW
     repeat (first | (refine am rfl ?_; simp only[Act.put,aD,aE,aF]) | (refine aA rfl (fun K hK=> ?_); go_simp; refine hK _ ?_; clear hK K))
     refine az ?_;go_wp2_with fail;go_ret;exact⟨al HT.out.symm,HBW.out⟩
   ·obtain rfl:k=rs.length:=by omega
    have HT:=aa (show decide (rs=ss)=true by
     have:=HN.out;rw[List.take_of_length_le (Nat.le_refl _),List.take_of_length_le (by rw[HL.out]; exact Nat.le_refl _)]at this;simp[this])
    go_wp2_with fail;go_ret;exact⟨al HT.out.symm,HB.out⟩
 ·have HT:=aa (show decide (rs=ss)=false by rw[decide_eq_false_iff_not]; intro e; exact hl (by rw[e]));have e1:((rs.length:Int) != (ss.length:Int))=true:=by simp; omega
  clear hl
  go_enter Tryz.func24,Tryz.ntmps24
  go_wp2_with fail;go_ret;exact⟨al HT.out.symm,Below.refl _ _⟩
def oV (l:List Nat):Nat:=l.foldl (· + ·) 0
theorem vC (l:List Nat) (n:Nat):oV (l++[n])=oV l+n:=by unfold oV; rw[List.foldl_append]; rfl
theorem zf {l:List Nat} {B:Nat} (h: ∀n∈l,n<=B):oV l<=l.length*B:=by
 have key: ∀(l:List Nat) (a:Nat),(∀n∈l,n<=B)->l.foldl (· + ·) a<=a+l.length*B:=by
  intro l
  induction l with
  | nil=>intro a _; simp
  | cons x l ih=>
   intro a h;rw[List.foldl_cons,List.length_cons];have h1:=ih (a+x) fun n hn=>h n (by simp[hn])
   have h2:=h x (by simp);rw[Nat.add_mul];omega
 have:=key l 0 h;unfold oV;omega
theorem xL {l:List Nat} {n:Nat} (h:n∈l):n<=oV l:=by
 have key: ∀(l:List Nat) (a:Nat),a<=l.foldl (· + ·) a/\ ∀n∈l,n<=l.foldl (· + ·) a:=by
  intro l
  induction l with
  | nil=>intro a; simp
  | cons x l ih=>
   intro a;rw[List.foldl_cons];obtain⟨h1,h2⟩:=ih (a+x);refine⟨by omega,fun n hn=> ?_⟩
   rcases List.mem_cons.1 hn with rfl | hn
   ·omega
   ·exact h2 n hn
 exact(key l 0).2 n h
def sA (t:List aX):Nat:=oV ((t.take 20).map fun e=>e.data.length)
def ic (t:List aX):Bool:=decide (t.length<=16) && decide (sA t<=400)
theorem vw (S:Nat->Prop) (tree:List aX) (tv:Value) (w:World) (hx:bM S w tv tree) (hw: ∀e∈tree,e.data.length<=1125899906842624):Calls Tryz.prog 18 #[tv] w fun e w'=>e= .returned (.bool (ic tree))/\Below w.heap.size w w':=by
 obtain⟨a,cap,rfl,hc,hm,-⟩:=aT.shape hx iV.len;unfold maxLen at hm;have HV:=aa hx;have HWT:=aa hw;clear hx hw;obtain⟨n,hn⟩: ∃n,n=tree.length:=⟨_,rfl⟩;rw[<-hn]at hc HV ⊢;have HN:=aa hn;clear hn
 go_enter Tryz.func18,Tryz.ntmps18
 go_wp2_with fail
 go_loopw [3,4] (fun s i wr=> ∃k:Nat,k<=n/\k<=20/\i= .int .i64 k/\s= .int .i64 ((oV ((tree.take k).map fun f=>f.data.length):Nat):Int)/\wr=w) (fun _ i _=>20-(intOf i).toNat)
 case atStart=>exact⟨0,Nat.zero_le _,by omega,rfl,rfl,rfl⟩
 case round=>
  obtain⟨k,hk,hk2,rfl,rfl,rfl⟩:=hrel;obtain⟨m,hm2⟩: ∃m,m=oV ((tree.take k).map fun f=>f.data.length):=⟨_,rfl⟩;have HM:=aa hm2;have hmb:m<=k*1125899906842624:=by
   rw[hm2];refine Nat.le_trans (zf (B:=1125899906842624) (fun y hy=> ?_)) ?_
   ·obtain⟨f,hf,rfl⟩:=List.mem_map.1 hy;exact HWT.out f (List.take_subset _ _ hf)
   ·rw[List.length_map];exact Nat.mul_le_mul_right _ (List.length_take_le _ _)
  rw[<-hm2];clear hm2
  by_cases hlt:k<n
  ·by_cases h20:k<20
   ·obtain⟨f,hf⟩: ∃f,tree[k]? =some f:=⟨_,List.getElem?_eq_getElem (show k<tree.length by rw[<-HN.out]; exact hlt)⟩;obtain⟨b,o,dv,rfl,-,-,hd,-,-,-,-,-,-,q4,-⟩:=iw HV.out hf;obtain⟨da,dc,rfl,-,-⟩:=hd.slice;have hpl:=HWT.out f (List.mem_of_getElem? hf);have HF:=aa hf;obtain⟨p,hp⟩: ∃p,p=f.data.length:=⟨_,rfl⟩;rw[<-hp]at q4 hpl;have HP:=aa hp
    clear hf hp hd;have hadd:IntKind.i64.wrap ((m:Int)+(p:Int))=((m+p:Nat):Int):=by rw[IntKind.wrap_i64]; omega
    go_wp2_with fail
    go_roundw
    case rel=>
     refine⟨k+1,by omega,by omega,rfl, ?_,trivial⟩;rw[ba HF.out,List.map_append,List.map_singleton,vC,<-HM.out,<-HP.out]
     first | rfl | (rw[hadd])
    case measure=>simp only[intOf,Int.toNat_natCast]; omega
   ·have hk20:k=20:=by omega
    subst hk20;have HR:=aa (show ic tree=false by
     unfold ic;rw[show decide (tree.length<=16)=false by rw[decide_eq_false_iff_not,<-HN.out]; omega]; rfl)
    have hn16: ¬(n:Int)<=16:=by omega
    go_wp2_with fail;go_ret;exact⟨al (by rw[HR.out]),Below.refl _ _⟩
  ·have hkn:k=n:=by omega
   subst hkn;have htk:tree.take k=tree.take 20:=by rw[List.take_of_length_le (by rw[<-HN.out]; exact Nat.le_refl _),List.take_of_length_le (by rw[<-HN.out]; exact hk2)]
   have HR:=aa (show ic tree=(decide (k<=16) && decide (m<=400)) by
    unfold ic sA;rw[<-HN.out,<-htk,<-HM.out])
   by_cases h16:k<=16
   ·have h16':(k:Int)<=16:=by omega
    go_wp2_with fail;go_ret;exact⟨al (by rw[HR.out]; simp[h16]; omega),Below.refl _ _⟩
   ·have h16': ¬(k:Int)<=16:=by omega
    go_wp2_with fail;go_ret;exact⟨al (by rw[HR.out]; simp[h16]),Below.refl _ _⟩
theorem zk (c:cR):dA c=(decide (1<=c.win) && decide (c.win<=64) && decide (c.win<=c.mn) && decide (c.mn<=c.mx) && decide (c.mx<=32768) && decide (0<=c.bits) && decide (c.bits<=20)):=rfl
theorem qH (c:cR) (w:World):Calls Tryz.prog 21 #[ed c] w fun e w'=>e= .returned (.bool (dA c))/\Below w.heap.size w w':=by
 obtain⟨mn,mx,win,bits,seed⟩:=c;unfold ed;rw[zk]
 go_enter Tryz.func21,Tryz.ntmps21
 by_cases e1:1<=win
 ·by_cases e2:win<=64
  ·by_cases e3:win<=mn
   ·by_cases e4:mn<=mx
    ·by_cases e5:mx<=32768
     ·by_cases e6:0<=bits
      ·by_cases e7:bits<=20
       all_goals
        go_wp2_with fail;go_ret;exact⟨al (by simp[e1,e2,e3,e4,e5,e6,e7]),(Below.refl _ _).alloc (Nat.le_refl _) _⟩
      ·go_wp2_with fail;go_ret;exact⟨al (by simp; omega),(Below.refl _ _).alloc (Nat.le_refl _) _⟩
     ·go_wp2_with fail;go_ret;exact⟨al (by simp; omega),(Below.refl _ _).alloc (Nat.le_refl _) _⟩
    ·go_wp2_with fail;go_ret;exact⟨al (by simp; omega),(Below.refl _ _).alloc (Nat.le_refl _) _⟩
   ·go_wp2_with fail;go_ret;exact⟨al (by simp; omega),(Below.refl _ _).alloc (Nat.le_refl _) _⟩
  ·go_wp2_with fail;go_ret;exact⟨al (by simp; omega),(Below.refl _ _).alloc (Nat.le_refl _) _⟩
 ·go_wp2_with fail;go_ret;exact⟨al (by simp; omega),(Below.refl _ _).alloc (Nat.le_refl _) _⟩
def fo (w:World) (v:Value) (L:List (List UInt8)):Prop:= ∃ys:List Value,aB (fun _=>True) w 1 v L.length ys/\ ∀(k:Nat) y pl,ys[k]? =some y->L[k]? =some pl->aR (fun _=>True) w y pl
theorem fo.below {w w':World} {v:Value} {L:List (List UInt8)} (h:fo w v L) (hb:Below w.heap.size w w'):fo w' v L:=by
 obtain⟨ys,h1,h2⟩:=h;exact⟨ys,aB.below h1 (by omega) hb,fun k y pl hy hp=>aB.below (h2 k y pl hy hp) (by omega) hb⟩
theorem rP {B:Nat} {v:Value} {L:List (List UInt8)} {w:World} (h:bW B v L w):fo w v L:=by
 obtain⟨ys,h1,h2,h3⟩:=h;have hl:ys.length=L.length:=by rw[<-h1,List.length_map]
 refine⟨ys.map Prod.fst, ?_,fun k y pl hy hp=> ?_⟩
 ·rw[<-hl];exact(bu h2).weak (fun _ _=>trivial)
 ·rw[List.getElem?_map,Option.map_eq_some_iff]at hy;obtain⟨z,hz,rfl⟩:=hy;rw[<-h1,List.getElem?_map,hz]at hp
  cases hp
  exact(bu (h3 z (List.mem_of_getElem? hz))).weak (fun _ _=>trivial)
theorem wk {w:World} {a:Option Addr} {n cap:Nat} {L:List (List UInt8)} (h:fo w (.slice a n cap) L) {k:Nat} {pl:List UInt8} (hk:L[k]? =some pl):
  ∃b o ya yc,a=some ⟨b,o,none⟩/\w.cell? ⟨b,o+k,none⟩=some (.slice ya pl.length yc)/\aR (fun _=>True) w (.slice ya pl.length yc) pl:=by
 obtain⟨ys,⟨hl,a',cap',hv,_,_,h0⟩,h2⟩:=h
 cases hv
 have hlt:=(List.getElem?_eq_some_iff.1 hk).1
 rcases h0 with h0 | ⟨b,o,rfl,_,hc⟩
 ·omega
 ·obtain⟨y,hy⟩: ∃y,ys[k]? =some y:=⟨_,List.getElem?_eq_getElem (show k<ys.length by omega)⟩;have h3:=h2 k y pl hy hk;obtain⟨_,ya,yc,rfl,_,_,_⟩:=id h3;exact⟨b,o,ya,yc,rfl,hc k _ hy,h3⟩
theorem su (v u:Value) (L M:List (List UInt8)) (w:World) (hv:fo w v L) (hu:fo w u M):
  Calls Tryz.prog 32 #[v,u] w fun e w'=>e= .returned (.bool (decide (L=M)))/\Below w.heap.size w w':=by
 obtain⟨_,⟨_,a,cap,rfl,hc,hm,_⟩,_⟩:=id hv;obtain⟨_,⟨_,a2,cap2,rfl,hc2,hm2,_⟩,_⟩:=id hu;unfold maxLen at hm hm2;have HV:=aa hv;have HU:=aa hu;clear hv hu
 by_cases hl:L.length=M.length
 ·have HL:=aa hl;have hl2:M.length=L.length:=hl.symm;rw[hl2]at HU hc2 ⊢;clear hl hl2
  go_enter Tryz.func32,Tryz.ntmps32
  go_wp2_with fail
  go_loopw [5] (fun i wr=> ∃k:Nat,k<=L.length/\i= .int .i64 k/\L.take k=M.take k/\Below w.heap.size w wr) (fun i _=>L.length-(intOf i).toNat)
  case atStart=>exact⟨0,Nat.zero_le _,rfl,by simp,Below.refl _ _⟩
  case round=>
   obtain⟨k,hk,rfl,hn,hb⟩:=hrel;have HN:=aa hn;have HB:=aa hb;clear hn hb
   by_cases hlt:k<L.length
   ·obtain⟨r,hr⟩: ∃r,L[k]? =some r:=⟨L[k],by simp[hlt]⟩;obtain⟨x,hx⟩: ∃x,M[k]? =some x:=⟨M[k]'(by have:=HL.out; omega),by simp⟩;have HR:=aa hr;have HX:=aa hx;obtain⟨W,hW⟩: ∃W:World,W=wr.drew:=⟨_,rfl⟩;have HBW:=aa (show Below w.heap.size w W by rw[hW]; exact HB.out.drew);obtain⟨b,o,ya,yc,rfl,q0,hy⟩:=wk (HV.out.below HBW.out) hr;obtain⟨b2,o2,za,zc,rfl,p0,hy2⟩:=wk (by have:=HU.out.below HBW.out; rw[HL.out]at this; exact this) hx
    have hc1:=iZ (bs:=r) hy;have hc2:=iZ (bs:=x) hy2;clear hr hx hy hy2
    by_cases hm:r=x
    ·have HT:=aa (show L.take (k+1)=M.take (k+1) by rw[ba HR.out,ba HX.out,HN.out,hm]);subst hm;go_wp2_with fail;refine ak [some 11] (by kernel_rfl) (by kernel_rfl) (by kernel_rfl) ?_;simp only[bb,List.take_succ_cons,List.take_zero];rw[<-hW];clear hW
     repeat (first | (refine am rfl ?_; simp only[Act.put,aD,aE,aF]) | (refine aA rfl (fun K hK=> ?_); go_simp; refine hK _ ?_; clear hK K))
     refine az ?_;go_wp2_with fail
     all_goals exact⟨⟨k+1,by omega,rfl,HT.out,HBW.out⟩,by simp only[intOf,Int.toNat_natCast]; omega⟩
    ·have HT:=aa (show decide (L=M)=false by
      rw[decide_eq_false_iff_not];intro e;have h1:=HR.out;rw[e,HX.out]at h1;exact hm (Option.some.inj h1).symm)
     have hm4:(r == x)=false:=by simpa using hm
     have hm3: ¬(⟨r.toArray⟩:ByteArray).toList=(⟨x.toArray⟩:ByteArray).toList:=fun h=>hm (by rw[bw,bw,kA,kA]at h; exact h)
     go_wp2_with fail;refine ak [some 11] (by kernel_rfl) (by kernel_rfl) (by kernel_rfl) ?_;simp only[bb,List.take_succ_cons,List.take_zero];rw[<-hW];clear hW
     repeat (first | (refine am rfl ?_; simp only[Act.put,aD,aE,aF]) | (refine aA rfl (fun K hK=> ?_); go_simp; refine hK _ ?_; clear hK K))
     refine az ?_;go_wp2_with fail;go_ret;exact⟨al HT.out.symm,HBW.out⟩
   ·obtain rfl:k=L.length:=by omega
    have HT:=aa (show decide (L=M)=true by
     have:=HN.out;rw[List.take_of_length_le (Nat.le_refl _),List.take_of_length_le (by rw[HL.out]; exact Nat.le_refl _)]at this;simp[this])
    go_wp2_with fail;go_ret;exact⟨al HT.out.symm,HB.out⟩
 ·have HT:=aa (show decide (L=M)=false by rw[decide_eq_false_iff_not]; intro e; exact hl (by rw[e]));have e1:((L.length:Int) != (M.length:Int))=true:=by simp; omega
  clear hl
  go_enter Tryz.func32,Tryz.ntmps32
  go_wp2_with fail;go_ret;exact⟨al HT.out.symm,Below.refl _ _⟩
def mD (b:Nat):List Value:=[.string ⟨#[100]⟩, .int .i64 2, .int .i64 0, .int .i64 0, .slice none 0 0, .string ⟨#[]⟩, .string ⟨#[100,47,102]⟩, .int .i64 1, .int .i64 0, .int .i64 5, .slice (some ⟨b,0,none⟩) 3 3, .string ⟨#[]⟩]
theorem wl {w:World} {b k:Nat} {cs:Array Value} {t:TypeId} {z:Nat×Nat} (h:w.heap[b]? =some (.cells cs t z)):w.cell? ⟨b,k,none⟩=cs[k]? :=by
 simp[World.cell?,h]
theorem jL {W:World} {b n sz:Nat} {cells:List Value} {t:TypeId} {z:Nat×Nat} (h:W.heap[b]? =some (.cells cells.toArray t z)) (hl:cells.length=n*sz) (hn:n<=maxLen):aB (fun _=>True) W sz (.slice (some ⟨b,0,none⟩) n n) n cells:=
 ⟨hl,some ⟨b,0,none⟩,n,rfl,Nat.le_refl _,hn, .inr ⟨b,0,rfl,trivial,fun j u hj=>by rw[wl h,Nat.zero_add,List.getElem?_toArray]; exact hj⟩⟩
theorem oW {w:World} {rb b:Nat} {d:List UInt8} {t u:TypeId} {z:Nat×Nat} (h:w.heap[rb]? =some (.cells (mD b).toArray t (0,0))) (hb:w.heap[b]? =some (.cells (d.map aC).toArray u z)) (hd:d.length=3):bM (fun _=>True) w (.slice (some ⟨rb,0,none⟩) 2 2) (dd d):=by
 refine⟨mD b,jL (n:=2) (sz:=6) (cells:=mD b) h rfl (by unfold maxLen; omega), ?_⟩;have hda:bP (fun _=>True) w (.slice (some ⟨b,0,none⟩) 3 3) d:=by
  have h1:=jL (n:=d.length) (sz:=1) (cells:=d.map aC) hb (by simp) (by rw[hd]; unfold maxLen; omega);rw[show Value.slice (some ⟨b,0,none⟩) 3 3= .slice (some ⟨b,0,none⟩) d.length d.length by rw[hd]];exact h1
 refine⟨jB (.slice none 0 0) yz,jB (.slice (some ⟨b,0,none⟩) 3 3) (kF d),rfl,⟨_,rfl,bP.nil _ _, ?_⟩,⟨jB (.slice (some ⟨b,0,none⟩) 3 3) (kF d),[],rfl,⟨_,rfl,hda, ?_⟩,rfl⟩⟩
 ·exact⟨by show(1:Nat)<=_; unfold maxLen; omega,by show(0:Nat)<=_; omega,rfl,rfl,rfl⟩
 ·exact⟨by show(3:Nat)<=_; unfold maxLen; omega,by show(0:Nat)<=_; omega,rfl,rfl,rfl⟩
def qD (p:ByteArray×Int):bq:=⟨p.1,p.2⟩
theorem lA (l:List (ByteArray×Int)):eH l=bh (l.map qD):=by
 induction l with
 | nil=>rfl
 | cons p l ih=>
  unfold eH bh at *;rw[List.flatMap_cons,List.map_cons,List.flatMap_cons,ih]; rfl
theorem tD {w:World} {base:Nat} {v:Value} {l:List (ByteArray×Int)} (h:w.ownsRow base 60 2 v l.length (eH l)) (hok: ∀p∈l,dE (qD p)):ay (fun _=>True) w v (l.map qD):=by
 rw[lA]at h;refine⟨_, ?_,fw (fun p hp=> ?_)⟩
 ·rw[List.length_map];exact(bu h).weak (fun _ _=>trivial)
 ·obtain⟨q,hq,rfl⟩:=List.mem_map.1 hp;exact hok q hq
theorem tu {w:World} {b:Nat} {l:List (ByteArray×Int)} {t:TypeId} (h:w.heap[b]? =some (.cells (eH l).toArray t (0,0))) (hl:l.length<=maxLen) (hok: ∀p∈l,dE (qD p)):ay (fun _=>True) w (.slice (some ⟨b,0,none⟩) l.length l.length) (l.map qD):=by
 rw[lA]at h;refine⟨_, ?_,fw (fun p hp=> ?_)⟩
 ·have h1:=(fy (n:=l.length) (sz:=2) (cells:=bh (l.map qD)) h (by rw[mg,List.length_map]) hl).weak (T:=fun _=>True) (fun _ _=>trivial);rw[List.length_map];exact h1
 ·obtain⟨q,hq,rfl⟩:=List.mem_map.1 hp;exact hok q hq
theorem tw (x:Int):([(⟨#[100]⟩,x),(⟨#[100,47,102]⟩,x)]:List (ByteArray×Int)).length<=maxLen:=by show 2<=maxLen; unfold maxLen; omega
def ly (x:Int):List (ByteArray×Int):=[(⟨#[100]⟩,x),(⟨#[100,47,102]⟩,x)]
theorem lj {x:Int} (h:x=1\/x=4): ∀p∈ly x,dE (qD p):=by
 intro p hp;simp only[ly,List.mem_cons,List.not_mem_nil,or_false]at hp
 rcases h with rfl | rfl<;> rcases hp with rfl | rfl
 all_goals exact⟨by first | (show(1:Nat)<=_; unfold maxLen; omega) | (show(3:Nat)<=_; unfold maxLen; omega),rfl⟩
theorem mq (S T:Nat->Prop) (v u:Value) (rs ss:List bq) (b:Bool) (w:World) (hv:ay S w v rs) (hu:ay T w u ss) (h:decide (rs=ss)=b):Calls Tryz.prog 24 #[v,u] w fun e w'=>e= .returned (.bool b)/\Below w.heap.size w w':=by
 rw[<-h]; exact qt S T v u rs ss w hv hu
theorem ke (w:World) (C:Array Value) (n c:Nat):(convert 28 28 (.slice (some ⟨w.heap.size,0,none⟩) n c)).run Tryz.prog (w.alloc (.cells C 5))= .ok (.slice (some ⟨w.heap.size,0,none⟩) n c) (w.alloc (.cells C 5 (C.size,C.size+1))):=
 Lib.run_convert_bytes_const w 28 5 C n c Tryz.underlying28 Tryz.underlying5
theorem vd (v u:Value) (L M:List (List UInt8)) (b:Bool) (w:World) (hv:fo w v L) (hu:fo w u M) (h:decide (L=M)=b):Calls Tryz.prog 32 #[v,u] w fun e w'=>e= .returned (.bool b)/\Below w.heap.size w w':=by
 rw[<-h]; exact su v u L M w hv hu
theorem vf (tv:Value) (w:World) (ht:bM (fun _=>True) w tv (dd [97,98,99])) (he:gB w):Calls Tryz.prog 20 #[.agg #[.int .i64 0, .slice none 0 0], .int .i64 10,tv, .string ⟨#[]⟩, .agg #[.int .i64 4, .int .i64 8, .int .i64 4, .int .i64 20, .int .u64 0]] w (jm (.ok ⟨⟨10,bS [bd [97,98,99]]⟩,ly 1,[[97,98,99]],1,0⟩) w):=by
 have h:=jO (fun _=>True) (fun _=>True) ⟨0,[]⟩ (.slice none 0 0) tv 10 (dd [97,98,99]) ⟨#[]⟩ gN w (aY.nil _ _) ht he (by decide) (by simp);rw[show bl ⟨#[]⟩=[]from rfl,zt]at h;exact h
theorem wP : ∀f∈bS [bd [97,98,99]],f.parts.length<=1048576:=by
 intro f hf;simp only[bS,List.mem_cons,List.not_mem_nil,or_false]at hf
 rcases hf with rfl | rfl<;> simp
theorem vg (S:Nat->Prop) (fv tv:Value) (w:World) (hf:aY S w fv (bS [bd [97,98,99]])) (ht:bM (fun _=>True) w tv (dd [97,98,100])) (he:gB w):Calls Tryz.prog 20 #[.agg #[.int .i64 10,fv], .int .i64 20,tv, .string ⟨#[]⟩, .agg #[.int .i64 4, .int .i64 8, .int .i64 4, .int .i64 20, .int .u64 0]] w (jm (.ok ⟨⟨20,bS [bd [97,98,99]]⟩,[],[],0,1⟩) w):=by
 have h:=jO S (fun _=>True) ⟨10,bS [bd [97,98,99]]⟩ fv tv 20 (dd [97,98,100]) ⟨#[]⟩ gN w hf ht he (by decide) wP;rw[show bl ⟨#[]⟩=[]from rfl,Ad]at h;exact h
theorem vh (S:Nat->Prop) (fv tv:Value) (w:World) (hf:aY S w fv (bS [bd [97,98,99]])) (ht:bM (fun _=>True) w tv (dd [97,98,100])) (he:gB w):Calls Tryz.prog 20 #[.agg #[.int .i64 10,fv], .int .i64 20,tv, .string ⟨#[100,47]⟩, .agg #[.int .i64 4, .int .i64 8, .int .i64 4, .int .i64 20, .int .u64 0]] w (jm (.ok ⟨⟨20,[]⟩,ly 4,[],0,0⟩) w):=by
 have h:=jO S (fun _=>True) ⟨10,bS [bd [97,98,99]]⟩ fv tv 20 (dd [97,98,100]) ⟨#[100,47]⟩ gN w hf ht he (by decide) wP;rw[show bl ⟨#[100,47]⟩=[100,47]from rfl,Ae]at h;exact h
theorem fk (w:World) (o:Obj):(w.alloc o).heap.size=w.heap.size+1:=by simp
theorem kj {w:World} {o x:Obj} {k:Nat} (h:w.heap[k]? =some x):(w.alloc o).heap[k]? =some x:=by
 rw[heap_alloc_old _ _ (lt_of_block h)]; exact h
theorem sJ {w W:World} {n:Nat} (o p:Obj) (h:Below n w W) (hn:n<=W.heap.size):Below n w ((W.alloc o).alloc p):=
 (h.alloc hn _).alloc (by rw[fk]; omega) _
theorem tA (W:World) (o p:Obj):((W.alloc o).alloc p).heap[W.heap.size+1]? =some p:=by
 rw[<-fk W o]; exact heap_alloc_new _ _
theorem xP {w:World} {rb b c:Nat} {t:TypeId} (h:w.heap[rb]? =some (.cells (mD b).toArray t (0,0))):(w.setCell ⟨rb,10,none⟩ (.slice (some ⟨c,0,none⟩) 3 3)).heap[rb]? =some (.cells (mD c).toArray t (0,0)):=by
 rw[heap_setCell_same _ _ _ _ _ _ h]
 rfl
theorem yR (w:World) (a:Addr) (v:Value) (o:Obj):((w.setCell a v).alloc o).heap[w.heap.size]? =some o:=by
 have h:=heap_alloc_new (w.setCell a v) o;have e:(w.setCell a v).heap.size=w.heap.size:=by simp
 rw[e]at h; exact h
theorem tB {w:World} {a:Addr} {v:Value} {o x:Obj} {k:Nat} (h:w.heap[k]? =some x) (hk:k≠a.block):((w.setCell a v).alloc o).heap[k]? =some x:=
 kj ((heap_setCell_other _ _ _ _ hk).trans h)
theorem zI {w:World} {base b j:Nat} {v fv:Value} {o:Obj} {fs:List au} (h:bB w base fv fs) (hb:b<base):bB ((w.setCell ⟨b,j,none⟩ v).alloc o) base fv fs:=
 bB.below (h.same fun k _ _ _ hB _ _=>heap_setCell_other _ _ _ _ (by show k≠b; omega)) ((Below.refl _ _).alloc (Nat.le_refl _) _)
theorem zP {w W:World} {n:Nat} {a:Addr} (v:Value) (o:Obj) (h:Below n w W) (hn:n<=a.block) (hz:n<=W.heap.size):Below n w ((W.setCell a v).alloc o):=
 (h.setCell hn _).alloc (by simpa using hz) _
theorem rJ {r:sU} {w w':World} {e:Ending} (h:jm (.ok r) w e w') (hok: ∀p∈r.chg,dE (qD p)): ∃fa fn fc ca cn cc na nc,e= .returned (.tuple #[.agg #[.int .i64 r.idx.tm, .slice fa fn fc, .slice ca cn cc, .slice na r.news.length nc, .int .i64 (r.read:Int), .int .i64 (r.kept:Int)], .int .i64 0])/\Below w.heap.size w w'/\bB w' w.heap.size (.slice fa fn fc) r.idx.files/\ay (fun _=>True) w' (.slice ca cn cc) (r.chg.map qD)/\fo w' (.slice na r.news.length nc) r.news/\cn=r.chg.length:=by
 obtain⟨hb,fv,cv,nv,rfl,hf,hc,hn⟩:=h;obtain⟨zs,-,hz,-⟩:=hf.row;obtain⟨fa,fc,rfl,-,-⟩:=aj hz;have hc':=tD hc hok;obtain⟨ca,cc,rfl,-,-⟩:=aj hc;obtain⟨ys,hys,hn1,-⟩:=id hn;have hl:ys.length=r.news.length:=by rw[<-hys,List.length_map]
 have hn':=rP hn;obtain⟨na,nc,rfl,-,-⟩:=aj hn1;rw[hl]at hn' ⊢;exact⟨fa,_,fc,ca,_,cc,na,nc,rfl,hb,hf,hc',hn',rfl⟩
theorem yn {w:World} {rb b:Nat} {d:List UInt8} {t u:TypeId} {z z':Nat×Nat} (h:w.heap[rb]? =some (.cells #[.slice (some ⟨b,0,none⟩) 3 3] t z')) (hb:w.heap[b]? =some (.cells (d.map aC).toArray u z)) (hd:d.length=3):fo w (.slice (some ⟨rb,0,none⟩) 1 1) [d]:=by
 refine⟨[.slice (some ⟨b,0,none⟩) 3 3],jL (n:=1) (sz:=1) (cells:=[.slice (some ⟨b,0,none⟩) 3 3]) h rfl (by unfold maxLen; omega),fun k y pl hy hp=> ?_⟩
 rcases k with _ | k
 ·cases hy; cases hp
  have h1:=jL (n:=d.length) (sz:=1) (cells:=d.map aC) hb (by simp) (by rw[hd]; unfold maxLen; omega);rw[show Value.slice (some ⟨b,0,none⟩) 3 3= .slice (some ⟨b,0,none⟩) d.length d.length by rw[hd]];exact h1
 ·simp at hy
theorem fo.two {w:World} {v:Value} {L:List (List UInt8)} {o p:Obj} (h:fo w v L):fo ((w.alloc o).alloc p) v L:=h.below (sJ _ _ (Below.refl _ _) (Nat.le_refl _))
theorem ay.below' {w w':World} {v:Value} {ps:List bq} (h:ay (fun _=>True) w v ps) (hb:Below w.heap.size w w'):ay (fun _=>True) w' v ps:=by
 obtain⟨cells,h1,h2⟩:=h;exact⟨cells,aB.below h1 (by omega) hb,h2⟩
theorem ew (w:World) (he:gB w):Calls Tryz.prog 11 #[] w fun e w'=>e= .returned (.bool true)/\Below w.heap.size w w':=by
 have HE:=aa he;have h6:=he.six;clear he
 go_enter Tryz.func11,Tryz.ntmps11
 go_upto_region 2 with fail
 obtain⟨W1,hW1⟩: ∃W1,W1=w.alloc (.cells #[.int .i64 4, .int .i64 8, .int .i64 4, .int .i64 20, .int .u64 0] 48):=⟨_,rfl⟩;rw[<-hW1];have HB1:=aa (show Below w.heap.size w W1 by rw[hW1]; exact(Below.refl _ _).alloc (Nat.le_refl _) _);have HC1:=aa (show W1.heap[w.heap.size]? =some (.cells #[.int .i64 4, .int .i64 8, .int .i64 4, .int .i64 20, .int .u64 0] 48 (0,0)) by rw[hW1]; exact heap_alloc_new w _)
 have hz1:w.heap.size<W1.heap.size:=lt_of_block HC1.out;clear hW1;have hcv:=ke W1 #[.int .u8 97, .int .u8 98, .int .u8 99] 3 3
 go_upto_region 3 with fail
 obtain⟨W3,hW3⟩: ∃W3,W3=(W1.alloc (.cells #[.int .u8 97, .int .u8 98, .int .u8 99] 5 (3,4))).alloc (.cells #[.string ⟨#[100]⟩, .int .i64 2, .int .i64 0, .int .i64 0, .slice none 0 0, .string ⟨#[]⟩, .string ⟨#[100,47,102]⟩, .int .i64 1, .int .i64 0, .int .i64 5, .slice (some ⟨W1.heap.size,0,none⟩) 3 3, .string ⟨#[]⟩] 30):=⟨_,rfl⟩;rw[<-hW3];have HB3:=aa (show Below w.heap.size w W3 by rw[hW3]; exact sJ _ _ HB1.out (by omega))
 have HC3:=aa (show W3.heap[w.heap.size]? =some (.cells #[.int .i64 4, .int .i64 8, .int .i64 4, .int .i64 20, .int .u64 0] 48 (0,0)) by rw[hW3]; exact kj (kj HC1.out));have HD3:=aa (show W3.heap[W1.heap.size]? =some (.cells ([97,98,99].map aC).toArray 5 (3,4)) by rw[hW3]; exact kj (heap_alloc_new W1 _));have HT3:=aa (show W3.heap[W1.heap.size+1]? =some (.cells (mD W1.heap.size).toArray 30 (0,0)) by rw[hW3]; exact tA W1 _ _)
 clear hW3;have c0:=af (k:=0) HC3.out;have c1:=af (k:=1) HC3.out;have c2:=af (k:=2) HC3.out;have c3:=af (k:=3) HC3.out;have c4:=af (k:=4) HC3.out;simp only[List.getElem?_toArray,cw]at c0 c1 c2 c3 c4;have ht3:=aa (oW HT3.out HD3.out rfl);go_wp2_with (refine(vf _ _ ht3.out (HE.out.below HB3.out)).mono ?_);intro e w4 h4;obtain⟨fa,fn,fc,ca,cn,cc,na,nc,rfl,hb4,hf4,hc4,hn4,-⟩:=rJ h4 (lj (.inl rfl))
 have HB4:=aa hb4;have HF4:=aa hf4;have HP4:=aa hc4;have HN4:=aa hn4;have hz4:=hb4.size;clear h4 hb4 hf4 hc4 hn4
 go_upto_region 4 with fail
 obtain⟨W5,hW5⟩: ∃W5,W5=w4.alloc (.cells #[.int .i64 10, .slice fa fn fc, .slice ca cn cc, .slice na 1 nc, .int .i64 1, .int .i64 0] 54):=⟨_,rfl⟩;rw[<-hW5];have HX5:=aa (show W5.heap[w4.heap.size]? =some (.cells #[.int .i64 10, .slice fa fn fc, .slice ca cn cc, .slice na 1 nc, .int .i64 1, .int .i64 0] 54 (0,0)) by rw[hW5]; exact heap_alloc_new w4 _);have HB5:=aa (show Below w4.heap.size w4 W5 by rw[hW5]; exact(Below.refl _ _).alloc (Nat.le_refl _) _)
 have hz5:W5.heap.size=w4.heap.size+1:=by rw[hW5]; exact fk _ _
 clear hW5;have hcv5:=ke W5 #[.int .u8 97, .int .u8 98, .int .u8 99] 3 3;have HZ5:=aa hz5;clear hz5;have x0:=af (k:=0) HX5.out;have x1:=af (k:=1) HX5.out;have x2:=af (k:=2) HX5.out;have x3:=af (k:=3) HX5.out;have x4:=af (k:=4) HX5.out;have x5:=af (k:=5) HX5.out;simp only[List.getElem?_toArray,cw]at x0 x1 x2 x3 x4 x5;go_wp2_with (refine(vd _ _ [[97,98,99]] [[97,98,99]] true _ (HN4.out.below HB5.out).two (yn (tA _ _ _) (kj (heap_alloc_new _ _)) rfl) (by decide)).mono ?_)
 rintro e w6 ⟨rfl,hb6⟩;have HB6:=aa (show Below W5.heap.size W5 w6 from(sJ _ _ (Below.refl _ _) (Nat.le_refl _)).trans (hb6.mono (by rw[fk,fk]; omega)));clear hb6;have HX6:=aa ((HB6.out.block _ (lt_of_block HX5.out)).trans HX5.out);have hz6:=HB6.out.size;have HP6:=aa ((HP4.out.below' HB5.out).below' HB6.out);clear x0 x1 x2 x3 x4 x5;have x0:=af (k:=0) HX6.out;have x1:=af (k:=1) HX6.out
 have x2:=af (k:=2) HX6.out;have x3:=af (k:=3) HX6.out;have x4:=af (k:=4) HX6.out;have x5:=af (k:=5) HX6.out;simp only[List.getElem?_toArray,cw]at x0 x1 x2 x3 x4 x5;go_wp2_with (refine(mq _ _ _ _ ((ly 1).map qD) ((ly 1).map qD) true _ (HP6.out.below' ((Below.refl _ _).alloc (Nat.le_refl _) _)) (tu (l:=ly 1) (heap_alloc_new _ _) (tw 1) (lj (.inl rfl))) (decide_eq_true rfl)).mono ?_)
 rintro e w7 ⟨rfl,hb7⟩;have HB7:=aa (show Below w6.heap.size w6 w7 from((Below.refl _ _).alloc (Nat.le_refl _) _).trans (hb7.mono (by rw[fk]; omega)));clear hb7;have HX7:=aa ((HB7.out.block _ (lt_of_block HX6.out)).trans HX6.out);have hz7:=HB7.out.size;clear x0 x1 x2 x3 x4 x5 hcv5
 go_upto_region 6 with fail
 have hz4s:W3.heap.size<=w7.heap.size:=by have:=HZ5.out; omega
 have HB37:=aa (show Below W3.heap.size W3 w7 from((HB4.out.trans (HB5.out.mono hz4)).trans (HB6.out.mono (by have:=HZ5.out; omega))).trans (HB7.out.mono (by have:=HZ5.out; omega)));have HT7:=aa ((HB37.out.block _ (lt_of_block HT3.out)).trans HT3.out);have HC7:=aa ((HB37.out.block _ (lt_of_block HC3.out)).trans HC3.out);have HF7:=aa (((HF4.out.below HB5.out).below HB6.out).below HB7.out)
 have hcv7:=ke w7 #[.int .u8 97, .int .u8 98, .int .u8 100] 3 3;have hz17:W1.heap.size+1<w7.heap.size:=lt_of_block HT7.out;have f10:w7.frozen? ⟨W1.heap.size+1,10,none⟩=false:=ah HT7.out;have t10:w7.cell? ⟨W1.heap.size+1,10,none⟩=some (.slice (some ⟨W1.heap.size,0,none⟩) 3 3):=wl (k:=10) HT7.out;have hw37:w.heap.size<=W3.heap.size:=HB3.out.size
 clear hz4s
 go_upto_region 7 with fail
 obtain⟨W8,hW8⟩: ∃W8,W8=(w7.setCell ⟨W1.heap.size+1,10,none⟩ (.slice (some ⟨w7.heap.size,0,none⟩) 3 3)).alloc (.cells #[.int .u8 97, .int .u8 98, .int .u8 100] 5 (3,4)):=⟨_,rfl⟩;rw[<-hW8];have HT8:=aa (show W8.heap[W1.heap.size+1]? =some (.cells (mD w7.heap.size).toArray 30 (0,0)) by rw[hW8]; exact kj (xP HT7.out));have HD8:=aa (show W8.heap[w7.heap.size]? =some (.cells ([97,98,100].map aC).toArray 5 (3,4)) by rw[hW8]; exact yR _ _ _ _)
 have hl3:W1.heap.size+1<W3.heap.size:=lt_of_block HT3.out;have HC8:=aa (show W8.heap[w.heap.size]? =some (.cells #[.int .i64 4, .int .i64 8, .int .i64 4, .int .i64 20, .int .u64 0] 48 (0,0)) by rw[hW8]; exact tB HC7.out (by show w.heap.size≠W1.heap.size+1; omega));have HX8:=aa (show W8.heap[w4.heap.size]? =some (.cells #[.int .i64 10, .slice fa fn fc, .slice ca cn cc, .slice na 1 nc, .int .i64 1, .int .i64 0] 54 (0,0)) by rw[hW8]; exact tB HX7.out (by show w4.heap.size≠W1.heap.size+1; omega))
 have HF8:=aa (show bB W8 W3.heap.size (.slice fa fn fc) (bS [bd [97,98,99]]) by rw[hW8]; exact zI HF7.out hl3);have HB8:=aa (show Below w.heap.size w W8 by rw[hW8]; exact zP _ _ (HB3.out.trans (HB37.out.mono hw37)) (by show w.heap.size<=W1.heap.size+1; omega) (by omega));have HE8:=aa (HE.out.keep HB8.out h6);have hz8:w.heap.size<=W8.heap.size:=HB8.out.size
 clear hW8 hcv7 t10 f10 c0 c1 c2 c3 c4;have x0:=af (k:=0) HX8.out;have x1:=af (k:=1) HX8.out;have x2:=af (k:=2) HX8.out;have x3:=af (k:=3) HX8.out;have x4:=af (k:=4) HX8.out;have x5:=af (k:=5) HX8.out;simp only[List.getElem?_toArray,cw]at x0 x1 x2 x3 x4 x5;have c0:=af (k:=0) HC8.out;have c1:=af (k:=1) HC8.out;have c2:=af (k:=2) HC8.out
 have c3:=af (k:=3) HC8.out;have c4:=af (k:=4) HC8.out;simp only[List.getElem?_toArray,cw]at c0 c1 c2 c3 c4;have ht8:=aa (oW HT8.out HD8.out rfl);go_wp2_with (refine(vg (fun k=>W3.heap.size<=k) _ _ _ HF8.out.at ht8.out HE8.out).mono ?_);intro e w9 h9;obtain⟨fa2,fn2,fc2,ca2,cn2,cc2,na2,nc2,rfl,hb9,-,-,-,hcn2⟩:=rJ h9 (fun p hp=>absurd hp (by simp))
 dsimp only at hcn2
 subst hcn2;have HB9:=aa hb9;have hz9:=hb9.size;clear h9 hb9
 go_upto_region 8 with fail
 obtain⟨WA,hWA⟩: ∃WA,WA=w9.alloc (.cells #[.int .i64 20, .slice fa2 fn2 fc2, .slice ca2 0 cc2, .slice na2 0 nc2, .int .i64 0, .int .i64 1] 54):=⟨_,rfl⟩;rw[<-hWA];have HYA:=aa (show WA.heap[w9.heap.size]? =some (.cells #[.int .i64 20, .slice fa2 fn2 fc2, .slice ca2 0 cc2, .slice na2 0 nc2, .int .i64 0, .int .i64 1] 54 (0,0)) by rw[hWA]; exact heap_alloc_new w9 _);have HBA:=aa (show Below W8.heap.size W8 WA by rw[hWA]; exact HB9.out.alloc hz9 _)
 have HTA:=aa ((HBA.out.block _ (lt_of_block HT8.out)).trans HT8.out);have HDA:=aa ((HBA.out.block _ (lt_of_block HD8.out)).trans HD8.out);have HCA:=aa ((HBA.out.block _ (lt_of_block HC8.out)).trans HC8.out);have HXA:=aa ((HBA.out.block _ (lt_of_block HX8.out)).trans HX8.out);have HFA:=aa (HF8.out.below HBA.out);have HEA:=aa (HE8.out.below HBA.out);have hzA:=HBA.out.size;clear hWA c0 c1 c2 c3 c4 x0 x1 x2 x3 x4 x5
 have x0:=af (k:=0) HXA.out;have x1:=af (k:=1) HXA.out;have x2:=af (k:=2) HXA.out;have x3:=af (k:=3) HXA.out;have x4:=af (k:=4) HXA.out;have x5:=af (k:=5) HXA.out;simp only[List.getElem?_toArray,cw]at x0 x1 x2 x3 x4 x5;have c0:=af (k:=0) HCA.out;have c1:=af (k:=1) HCA.out;have c2:=af (k:=2) HCA.out;have c3:=af (k:=3) HCA.out
 have c4:=af (k:=4) HCA.out;simp only[List.getElem?_toArray,cw]at c0 c1 c2 c3 c4;have htA:=aa (oW HTA.out HDA.out rfl);go_wp2_with (refine(vh (fun k=>W3.heap.size<=k) _ _ _ HFA.out.at htA.out HEA.out).mono ?_);intro e wb hb;obtain⟨fa3,fn3,fc3,ca3,cn3,cc3,na3,nc3,rfl,hbb,-,hcb,-,-⟩:=rJ hb (lj (.inr rfl));have HBB:=aa hbb;have HPB:=aa hcb;have hzb:=hbb.size
 clear hb hbb hcb
 go_upto_region 9 with fail
 obtain⟨WC,hWC⟩: ∃WC,WC=wb.alloc (.cells #[.int .i64 20, .slice fa3 fn3 fc3, .slice ca3 cn3 cc3, .slice na3 0 nc3, .int .i64 0, .int .i64 0] 54):=⟨_,rfl⟩;rw[<-hWC];have HZC:=aa (show WC.heap[wb.heap.size]? =some (.cells #[.int .i64 20, .slice fa3 fn3 fc3, .slice ca3 cn3 cc3, .slice na3 0 nc3, .int .i64 0, .int .i64 0] 54 (0,0)) by rw[hWC]; exact heap_alloc_new wb _);have HBC:=aa (show Below WA.heap.size WA WC by rw[hWC]; exact HBB.out.alloc hzb _)
 have HPC:=aa (show ay (fun _=>True) WC (.slice ca3 cn3 cc3) ((ly 4).map qD) by rw[hWC]; exact HPB.out.below' ((Below.refl _ _).alloc (Nat.le_refl _) _));have HYC:=aa ((HBC.out.block _ (lt_of_block HYA.out)).trans HYA.out);have hzC:=HBC.out.size;clear hWC c0 c1 c2 c3 c4 x0 x1 x2 x3 x4 x5;have x0:=af (k:=0) HYC.out;have x1:=af (k:=1) HYC.out;have x2:=af (k:=2) HYC.out
 have x3:=af (k:=3) HYC.out;have x4:=af (k:=4) HYC.out;have x5:=af (k:=5) HYC.out;simp only[List.getElem?_toArray,cw]at x0 x1 x2 x3 x4 x5;have y0:=af (k:=0) HZC.out;have y1:=af (k:=1) HZC.out;have y2:=af (k:=2) HZC.out;have y3:=af (k:=3) HZC.out;have y4:=af (k:=4) HZC.out;have y5:=af (k:=5) HZC.out;simp only[List.getElem?_toArray,cw]at y0 y1 y2 y3 y4 y5
 go_wp2_with (refine(mq _ _ _ _ ((ly 4).map qD) ((ly 4).map qD) true _ (HPC.out.below' ((Below.refl _ _).alloc (Nat.le_refl _) _)) (tu (l:=ly 4) (heap_alloc_new _ _) (tw 4) (lj (.inr rfl))) (decide_eq_true rfl)).mono ?_);rintro e wd ⟨rfl,hbd⟩;have HBD:=aa (show Below w.heap.size w wd from((HB8.out.trans (HBA.out.mono hz8)).trans (HBC.out.mono (by omega))).trans (((Below.refl WC.heap.size WC).alloc (Nat.le_refl _) _).mono (by omega) |>.trans (hbd.mono (by rw[fk]; omega))))
 clear hbd;go_wp2_with fail;go_ret
 first | exact HBD.out | exact⟨rfl,HBD.out⟩
end Go.Proofs.YtnjkpcalgoefhaaGreatDoor
namespace Go.Proofs.YtnjkpcalgoefhaaGreatDoor
open Go Go.RowKit
theorem cP {x a b:Nat} {s:Nat} (ha:2^s=a) (hb:2^(32-s)=b) (hx:x<4294967296):bits .or .u32 ((x:Int)/(b:Int)) ((x:Int)*(a:Int)%4294967296)=((bD x s:Nat):Int):=by
 rw[show((x:Int)*(a:Int)%4294967296)=((x*a%4294967296:Nat):Int) by simp,show((x:Int)/(b:Int))=((x/b:Nat):Int) by simp,
  u32_or_nat _ _ (Nat.lt_of_le_of_lt (Nat.div_le_self _ _) hx) (Nat.mod_lt _ (by decide)),Nat.or_comm]
 unfold bD; rw[ha,hb]
theorem rZ (x:Nat) (w:World) (hx:x<4294967296):Calls Tryz.prog 80 #[.int .u32 (x:Int), .int .i64 17] w fun e w'=>e= .returned (.int .u32 ((bD x 15:Nat):Int))/\ ∃m,w'=w.drewN m:=by
 have hw:IntKind.i64.wrap 15=15:=by decide
 go_enter Tryz.func80,Tryz.ntmps80
 go_wp2_with fail
 go_quiet (fail)
 go_wp2_with fail;go_ret;refine⟨?_,_,rfl⟩;rw[<-cP (a:=32768) (b:=131072) (by decide) (by decide) hx]
 rfl
theorem rX (x:Nat) (w:World) (hx:x<4294967296):Calls Tryz.prog 80 #[.int .u32 (x:Int), .int .i64 19] w fun e w'=>e= .returned (.int .u32 ((bD x 13:Nat):Int))/\ ∃m,w'=w.drewN m:=by
 have hw:IntKind.i64.wrap 13=13:=by decide
 go_enter Tryz.func80,Tryz.ntmps80
 go_wp2_with fail
 go_quiet (fail)
 go_wp2_with fail;go_ret;refine⟨?_,_,rfl⟩;rw[<-cP (a:=8192) (b:=524288) (by decide) (by decide) hx]
 rfl
theorem sk (x:Nat) (w:World) (hx:x<4294967296):Calls Tryz.prog 80 #[.int .u32 (x:Int), .int .i64 7] w fun e w'=>e= .returned (.int .u32 ((bD x 25:Nat):Int))/\ ∃m,w'=w.drewN m:=by
 have hw:IntKind.i64.wrap 25=25:=by decide
 go_enter Tryz.func80,Tryz.ntmps80
 go_wp2_with fail
 go_quiet (fail)
 go_wp2_with fail;go_ret;refine⟨?_,_,rfl⟩;rw[<-cP (a:=33554432) (b:=128) (by decide) (by decide) hx]
 rfl
theorem rY (x:Nat) (w:World) (hx:x<4294967296):Calls Tryz.prog 80 #[.int .u32 (x:Int), .int .i64 18] w fun e w'=>e= .returned (.int .u32 ((bD x 14:Nat):Int))/\ ∃m,w'=w.drewN m:=by
 have hw:IntKind.i64.wrap 14=14:=by decide
 go_enter Tryz.func80,Tryz.ntmps80
 go_wp2_with fail
 go_quiet (fail)
 go_wp2_with fail;go_ret;refine⟨?_,_,rfl⟩;rw[<-cP (a:=16384) (b:=262144) (by decide) (by decide) hx]
 rfl
theorem so (x:Nat) (w:World) (hx:x<4294967296):Calls Tryz.prog 80 #[.int .u32 (x:Int), .int .i64 6] w fun e w'=>e= .returned (.int .u32 ((bD x 26:Nat):Int))/\ ∃m,w'=w.drewN m:=by
 have hw:IntKind.i64.wrap 26=26:=by decide
 go_enter Tryz.func80,Tryz.ntmps80
 go_wp2_with fail
 go_quiet (fail)
 go_wp2_with fail;go_ret;refine⟨?_,_,rfl⟩;rw[<-cP (a:=67108864) (b:=64) (by decide) (by decide) hx]
 rfl
theorem sj (x:Nat) (w:World) (hx:x<4294967296):Calls Tryz.prog 80 #[.int .u32 (x:Int), .int .i64 11] w fun e w'=>e= .returned (.int .u32 ((bD x 21:Nat):Int))/\ ∃m,w'=w.drewN m:=by
 have hw:IntKind.i64.wrap 21=21:=by decide
 go_enter Tryz.func80,Tryz.ntmps80
 go_wp2_with fail
 go_quiet (fail)
 go_wp2_with fail;go_ret;refine⟨?_,_,rfl⟩;rw[<-cP (a:=2097152) (b:=2048) (by decide) (by decide) hx]
 rfl
theorem uY (x:Nat) (w:World) (hx:x<4294967296):Calls Tryz.prog 80 #[.int .u32 (x:Int), .int .i64 25] w fun e w'=>e= .returned (.int .u32 ((bD x 7:Nat):Int))/\ ∃m,w'=w.drewN m:=by
 have hw:IntKind.i64.wrap 7=7:=by decide
 go_enter Tryz.func80,Tryz.ntmps80
 go_wp2_with fail
 go_quiet (fail)
 go_wp2_with fail;go_ret;refine⟨?_,_,rfl⟩;rw[<-cP (a:=128) (b:=33554432) (by decide) (by decide) hx]
 rfl
theorem sq (x:Nat) (w:World) (hx:x<4294967296):Calls Tryz.prog 80 #[.int .u32 (x:Int), .int .i64 2] w fun e w'=>e= .returned (.int .u32 ((bD x 30:Nat):Int))/\ ∃m,w'=w.drewN m:=by
 have hw:IntKind.i64.wrap 30=30:=by decide
 go_enter Tryz.func80,Tryz.ntmps80
 go_wp2_with fail
 go_quiet (fail)
 go_wp2_with fail;go_ret;refine⟨?_,_,rfl⟩;rw[<-cP (a:=1073741824) (b:=4) (by decide) (by decide) hx]
 rfl
theorem si (x:Nat) (w:World) (hx:x<4294967296):Calls Tryz.prog 80 #[.int .u32 (x:Int), .int .i64 13] w fun e w'=>e= .returned (.int .u32 ((bD x 19:Nat):Int))/\ ∃m,w'=w.drewN m:=by
 have hw:IntKind.i64.wrap 19=19:=by decide
 go_enter Tryz.func80,Tryz.ntmps80
 go_wp2_with fail
 go_quiet (fail)
 go_wp2_with fail;go_ret;refine⟨?_,_,rfl⟩;rw[<-cP (a:=524288) (b:=8192) (by decide) (by decide) hx]
 rfl
theorem rW (x:Nat) (w:World) (hx:x<4294967296):Calls Tryz.prog 80 #[.int .u32 (x:Int), .int .i64 22] w fun e w'=>e= .returned (.int .u32 ((bD x 10:Nat):Int))/\ ∃m,w'=w.drewN m:=by
 have hw:IntKind.i64.wrap 10=10:=by decide
 go_enter Tryz.func80,Tryz.ntmps80
 go_wp2_with fail
 go_quiet (fail)
 go_wp2_with fail;go_ret;refine⟨?_,_,rfl⟩;rw[<-cP (a:=1024) (b:=4194304) (by decide) (by decide) hx]
 rfl
def mm (x:Nat) (n:Int):Nat:=bD x (32-n.toNat)
theorem fY (x:Nat) (n:Int) (w:World) (hx:x<4294967296) (hn:n=7\/n=18\/n=17\/n=19\/n=6\/n=11\/n=25\/n=2\/n=13\/n=22):Calls Tryz.prog 80 #[.int .u32 (x:Int), .int .i64 n] w fun e w'=>e= .returned (.int .u32 ((mm x n:Nat):Int))/\ ∃m,w'=w.drewN m:=by
 rcases hn with rfl | rfl | rfl | rfl | rfl | rfl | rfl | rfl | rfl | rfl
 ·exact sk x w hx
 ·exact rY x w hx
 ·exact rZ x w hx
 ·exact rX x w hx
 ·exact so x w hx
 ·exact sj x w hx
 ·exact uY x w hx
 ·exact sq x w hx
 ·exact si x w hx
 ·exact rW x w hx
def eK :Array Value:=(kc.map bp).toArray
theorem wV :Tryz.prog.built 156 ((kc.map bp).zipIdx.map fun p=>(p.2,p.1))=some eK:=by kernel_rfl
theorem mQ (w:World):Calls Tryz.prog 79 #[] w fun e w'=>e= .returned (.agg eK)/\Below w.heap.size w w':=by
 go_enter Tryz.func79,Tryz.ntmps79
 obtain⟨W0,hW0⟩: ∃W0:World,W0=w.alloc (.cells (List.replicate 64 (bp 0)).toArray 156):=⟨_,rfl⟩;have HBX:=aa (show W0.heap[w.heap.size]? =some (.cells (List.replicate 64 (bp 0)).toArray 156 (0,0)) by rw[hW0]; exact heap_alloc_new w _);have HB:=aa (show Below w.heap.size w W0 by rw[hW0]; exact(Below.refl _ _).alloc (Nat.le_refl _) _)
 go_upto_region 1 with(fail)
 change Code.wp _ _ _ _ (w.alloc (.cells (List.replicate 64 (bp 0)).toArray 156))
 rw[<-hW0];clear hW0;go_wp2_with (first | (refine dT rfl 156 _ rfl ((kc.map bp).zipIdx.map fun p=>(p.2,p.1)) (by kernel_rfl) eK wV ?_) | (refine wpList_store_row rfl 156 _ _ rfl w.heap.size eK rfl rfl _ _ HBX.out (by kernel_rfl) (by kernel_rfl) (by kernel_rfl) ?_));refine bodyPost_ret (results_cell_row rfl _ _ w.heap.size _ _ _ _ rfl (setRow_heap W0 _ _ _ _ _ HBX.out) Tryz.underlying156 rfl (by kernel_rfl)) rfl ?_
 exact⟨rfl,below_setRow HB.out (Nat.le_refl _) _⟩
end Go.Proofs.YtnjkpcalgoefhaaGreatDoor
