/- Texts of this proof, one after the other: DivE, DivF, Match, Rules, Ign, Parse, ScnR, ScnA, ScnX, ScnY. -/
import Derived.Test.YtnjkpcalgoefhaaGreatDoorCQuietD
set_option maxRecDepth 100000
set_option maxHeartbeats 8000000
namespace Go.Proofs.YtnjkpcalgoefhaaGreatDoor
open Go.RowKit
def cy (c:aB) (x:ByteArray):Bool:=sC c (bl x)
theorem iC (S:Nat->Prop) (c:aB) (v:Value) (x:ByteArray) (w:World) (hv:bW S w v c.items) (hn:c.items.length<=65536) (hx:x.size<=65536):
  Calls Tryz.prog 116 #[.agg #[.bool c.dbl,v], .string x] w fun e w'=>e= .returned (.bool (cy c x))/\Below w.heap.size w w':=kI S c v x w hv hn hx
theorem lI (ps:List aB) (ts:List ByteArray) (S:Nat->Prop) (w0:World) (B:Nat) (pv tv:Value) (hB:w0.heap.size=B) (hp:cG S w0 pv ps) (htv:aD S w0 1 tv ts.length (ts.map Value.string))
  (hn:ps.length<=65536) (hm:ts.length<=65536) (hps: ∀c∈ps,c.items.length<=65536) (hts: ∀x∈ts,x.size<=65536) (i j:Nat) (w:World) (tr:List Bool) (hi:i<=ps.length) (hj:j<=ts.length)
  (IH:i<ps.length->sk aB.dbl cy ps ts (i+1) w0 B ((ps.length+1)*(ts.length+1)) 140 pv tv (.func (.func 115) #[] #[]) (.func (.func 116) #[] #[]))
  (hst:ei w0 B ((ps.length+1)*(ts.length+1)) 140 pv tv (.func (.func 115) #[] #[]) (.func (.func 116) #[] #[]) tr w) (hinv:dJ aB.dbl cy ps ts i tr):
  Calls Tryz.prog 140 #[.int .i64 i, .int .i64 j, .pointer (some ⟨B+1,0,none⟩), .pointer (some ⟨B+5,0,none⟩), .pointer (some ⟨B,0,none⟩), .pointer (some ⟨B+2,0,none⟩), .pointer (some ⟨B+3,0,none⟩), .pointer (some ⟨B+6,0,none⟩)] w
   (nS aB.dbl cy ps ts i j w0 B ((ps.length+1)*(ts.length+1)) 140 pv tv (.func (.func 115) #[] #[]) (.func (.func 116) #[] #[]) tr):=by
 obtain⟨pa,pc,rfl,hpc,hpm,hpx⟩:=hp.shape eh.len;obtain⟨_,ta,tc,rfl,htc,htm,ht0⟩:=htv;unfold maxLen at hpm htm;obtain⟨c0,c1,c2,c3,c5,c6,-,hlen,-,-⟩:=id hst;have HST:=ab hst;have HINV:=ab hinv;have HIH:=ab IH;clear IH;have HPX:=ab hpx;have HT0:=ab ht0;have HLEN:=ab hlen;have hpS:=hp;have HPS:=ab hpS;have HPZ:=ab hps;have HTZ:=ab hts;clear hps hts
 clear hst hinv hpx ht0 hlen hp hpS;obtain⟨N,hN⟩: ∃N:Nat,N=(ps.length+1)*(ts.length+1):=⟨_,rfl⟩;have hpN:i*(ts.length+1)+j<N:=by rw[hN]; exact pR _ _ _ _ hi hj
 have hNb:N<=4295098369:=by
  have h1:(ps.length+1)*(ts.length+1)<=65537*65537:=Nat.mul_le_mul (by omega) (by omega);omega
 have hX:(i:Int)*((ts.length:Int)+1)=((i*(ts.length+1):Nat):Int):=by simp
 have hb1:0<=(i:Int)*((ts.length:Int)+1):=by rw[hX]; omega
 have hb2:(i:Int)*((ts.length:Int)+1)<=4295098369:=by rw[hX]; omega
 have hb3:(i:Int)*((ts.length:Int)+1)+(j:Int)<(N:Int):=by rw[hX]; omega
 obtain⟨b0,hq⟩: ∃b,tr[i*(ts.length+1)+j]? =some b:=⟨tr[i*(ts.length+1)+j]'(by rw[HLEN.out,<-hN]; exact hpN),by simp⟩;have HQ:=ab hq;have c4:=HST.out.cell hq;have f4:=HST.out.free (i*(ts.length+1)+j);rw[<-hN]at c5 HST HIH ⊢;have HN:=ab hN;clear hN hq HLEN hX
 cases b0 with
 | true=>
  go_enter Tryz.func140,Tryz.ntmps140
  go_wp2_with fail;go_ret;have hf:dv aB.dbl cy (ps.drop i) (ts.drop j)=false:=HINV.out.hit hi hj HQ.out;exact⟨tr,by rw[hf]; rfl,HST.out,fun _=>HINV.out,fun _ _=>rfl⟩
 | false=>
  have hst1:=HST.out.mark (i*(ts.length+1)+j);have HST1:=ab hst1;have HINV1:=ab (HINV.out.marked (j:=j) hj);obtain⟨d0,d1,d2,d3,d5,d6,-,-,-,-⟩:=hst1
  by_cases hin:i=ps.length
  ·have e1:((i:Int) == (ps.length:Int))=true:=by rw[hin]; simp
   have HIN:=ab hin;clear hin
   go_enter Tryz.func140,Tryz.ntmps140
   go_wp2_with fail;go_ret;have hdv:=vV (star:=aB.dbl) (M:=cy) HIN.out hj;refine⟨tr.set (i*(ts.length+1)+j) true, ?_,HST1.out,fun hf=>HINV.out.down HINV1.out (fun q' _=>rfl) hf,fun q' hq'=> ?_⟩
   ·rw[hdv];exact al (by rw[Bool.eq_iff_iff]; simp; omega)
   ·rw[List.getElem?_set_ne];omega
  ·have hin':i<ps.length:=by omega
   have e1:((i:Int) == (ps.length:Int))=false:=by rw[beq_eq_false_iff_ne]; omega
   clear hin;obtain⟨it,hit⟩: ∃it,ps[i]? =some it:=⟨ps[i],by simp[hin']⟩;obtain⟨pb,po,c,rfl,hSb,⟨rv,rfl,hrv⟩,-,hcl⟩:=HPX.out i it hit;have HIT:=ab hit;have HRV:=ab hrv;have q0:=hcl 0 (by omega);have q1:=hcl 1 (by omega);simp only[Nat.add_zero,<-Nat.add_assoc,bZ]at q0 q1;have Q0:=ab q0;have Q1:=ab q1;have g0:=cl HST1.out.below hB q0;have g1:=cl HST1.out.below hB q1
   clear hit hrv hcl q0 q1
   cases hs:it.dbl
   ·have HS:=ab hs;clear hs
    go_enter Tryz.func140,Tryz.ntmps140
    go_wp2_with fail;clear c0 c1 c2 c3 c4 c5 c6 f4
    generalize hW:w.setCell ⟨B+4,i*(ts.length+1)+j,none⟩ (.bool true)=W at *
    clear hW hb1 hb2 hb3 hpN hNb;refine aj [some 5,none,some 1] (by kernel_rfl) (by kernel_rfl) (by kernel_rfl) ?_;simp only[bh,List.take_succ_cons,List.take_zero,List.drop_succ_cons,List.drop_zero];have HST2:=ab (HST1.out.grown (Below.refl _ W).drew)
    repeat (first | (refine au rfl ?_; simp only[Act.put,aM,aN,aO]) | (refine aA rfl (fun K hK=> ?_); go_simp; refine hK _ ?_; clear hK K))
    refine az ?_;clear d0 d1 d2 d3 d5 d6 g0 g1 HST1
    generalize W.drew=W2 at *
    refine bu rfl (fun K hK=> ?_);go_wp2_with (go_at_call 115; refine(kj it rv _).mono ?_; rintro e w3 ⟨rfl,hb3⟩; rw[HS.out]; have HST3:=ab (HST2.out.grown hb3); clear hb3 HST2)
    repeat (first | (refine au rfl ?_; simp only[Act.put,aM,aN,aO]) | (refine aA rfl (fun K hK=> ?_); go_simp; refine hK _ ?_; clear hK K))
    refine az ?_;go_wp2_with fail;obtain⟨d0,d1,d2,d3,d5,d6,-,-,-,-⟩:=id HST3.out;have g0:=cl HST3.out.below hB Q0.out;have g1:=cl HST3.out.below hB Q1.out
    by_cases hjm:j<ts.length
    ·have ejm:decide ((j:Int)<(ts.length:Int))=true:=by simpa using hjm
     obtain⟨x,hx⟩: ∃x,ts[j]? =some x:=⟨ts[j],by simp[hjm]⟩;obtain⟨tb,tof,rfl,hSt,htcl⟩:=HT0.out.resolve_left (by omega);have hx3:=cl HST3.out.below hB (htcl j (.string x) (by simp[hx]));have HX:=ab hx;clear hx htcl
     cases hM:cy it x
     ·have HM:=ab hM;clear hM;have ejm2:(j:Int)<(ts.length:Int):=by omega
      refine aj [some 14,none,some 7,none,some 2] (by kernel_rfl) (by kernel_rfl) (by kernel_rfl) ?_;simp only[bh,List.take_succ_cons,List.take_zero,List.drop_succ_cons,List.drop_zero];have HST3':=ab (HST3.out.grown (Below.refl _ w3).drew)
      repeat (first | (refine au rfl ?_; simp only[Act.put,aM,aN,aO]) | (refine aA rfl (fun K hK=> ?_); go_simp; refine hK _ ?_; clear hK K))
      refine az ?_;clear d0 d1 d2 d3 d5 d6 g0 g1 hx3;have hrv4:bW S w3.drew rv it.items:=bW.move HRV.out (fun k hk h=>⟨h,HST3'.out.below.block k (by omega)⟩);have HRV4:=ab hrv4;clear hrv4
      generalize w3.drew=w3d at *
      refine bu rfl (fun K hK=> ?_);go_wp2_with (go_at_call 116; refine(iC S it rv x _ HRV4.out (HPZ.out it (List.mem_of_getElem? HIT.out)) (HTZ.out x (List.mem_of_getElem? HX.out))).mono ?_; rintro e w4 ⟨rfl,hb4⟩; rw[HM.out]; have HST4:=ab (HST3'.out.grown hb4); clear hb4)
      repeat (first | (refine au rfl ?_; simp only[Act.put,aM,aN,aO]) | (refine aA rfl (fun K hK=> ?_); go_simp; refine hK _ ?_; clear hK K))
      refine az ?_;refine jd rfl ?_;simp only[Act.put,aM,aN,aO]
      repeat (first | (refine au rfl ?_; simp only[Act.put,aM,aN,aO]) | (refine aA rfl (fun K hK=> ?_); go_simp; refine hK _ ?_; clear hK K))
      refine az ?_;go_wp2_with fail;go_ret;have hdv:=show dv aB.dbl cy (ps.drop i) (ts.drop j)=false by rw[ol HIT.out HS.out HX.out,HM.out]; rfl
      refine⟨tr.set (i*(ts.length+1)+j) true,by rw[hdv]; rfl,HST4.out,fun hf=>HINV.out.down HINV1.out (fun _ _=>rfl) hf,fun q hq=> ?_⟩;rw[List.getElem?_set_ne (by omega)]
     ·have HM:=ab hM;clear hM;have ejm2:(j:Int)<(ts.length:Int):=by omega
      refine aj [some 14,none,some 7,none,some 2] (by kernel_rfl) (by kernel_rfl) (by kernel_rfl) ?_;simp only[bh,List.take_succ_cons,List.take_zero,List.drop_succ_cons,List.drop_zero];have HST3':=ab (HST3.out.grown (Below.refl _ w3).drew)
      repeat (first | (refine au rfl ?_; simp only[Act.put,aM,aN,aO]) | (refine aA rfl (fun K hK=> ?_); go_simp; refine hK _ ?_; clear hK K))
      refine az ?_;clear d0 d1 d2 d3 d5 d6 g0 g1 hx3;have hrv4:bW S w3.drew rv it.items:=bW.move HRV.out (fun k hk h=>⟨h,HST3'.out.below.block k (by omega)⟩);have HRV4:=ab hrv4;clear hrv4
      generalize w3.drew=w3d at *
      refine bu rfl (fun K hK=> ?_);go_wp2_with (go_at_call 116; refine(iC S it rv x _ HRV4.out (HPZ.out it (List.mem_of_getElem? HIT.out)) (HTZ.out x (List.mem_of_getElem? HX.out))).mono ?_; rintro e w4 ⟨rfl,hb4⟩; rw[HM.out]; have HST4:=ab (HST3'.out.grown hb4); clear hb4);have d6:=HST4.out.c6
      repeat (first | (refine au rfl ?_; simp only[Act.put,aM,aN,aO]) | (refine aA rfl (fun K hK=> ?_); go_simp; refine hK _ ?_; clear hK K))
      refine az ?_;refine bu rfl (fun K hK=> ?_);go_wp2_with (go_at_call 140; refine(HIH.out hin' _ _ (j+1) w4 (tr.set (i*(ts.length+1)+j) true) (by omega) (by omega) (by omega) HST4.out HINV1.out).mono ?_; rintro e w5 ⟨tr2,rfl,hst5,hinv5,hsame5⟩; have HST5:=ab hst5; have HINV5:=ab hinv5; have HSM5:=ab hsame5; clear hst5 hinv5 hsame5)
      repeat (first | (refine au rfl ?_; simp only[Act.put,aM,aN,aO]) | (refine aA rfl (fun K hK=> ?_); go_simp; refine hK _ ?_; clear hK K))
      refine az ?_;go_wp2_with fail;go_ret;have hdv:dv aB.dbl cy (ps.drop i) (ts.drop j)=dv aB.dbl cy (ps.drop (i+1)) (ts.drop (j+1)):=by rw[ol HIT.out HS.out HX.out,HM.out]; rfl
      refine⟨tr2,by rw[hdv]; rfl,HST5.out,fun hf=>HINV.out.down (HINV5.out (by rw[<-hdv]; exact hf)) (fun q hq=>HSM5.out q hq) hf,fun q hq=> ?_⟩;rw[HSM5.out q (by rw[Nat.add_mul]; omega),List.getElem?_set_ne (by omega)]
    ·have ejm:decide ((j:Int)<(ts.length:Int))=false:=by simpa using hjm
     go_quiet (fail)
     go_wp2_with fail;go_ret;have HST4:=ab (HST3.out.grown (em (Below.refl _ w3) nq));have hdv:=show dv aB.dbl cy (ps.drop i) (ts.drop j)=false from sE HIT.out HS.out (by omega);refine⟨tr.set (i*(ts.length+1)+j) true,by rw[hdv]; rfl,HST4.out,fun hf=>HINV.out.down HINV1.out (fun _ _=>rfl) hf,fun q hq=> ?_⟩;rw[List.getElem?_set_ne (by omega)]
   ·have HS:=ab hs;clear hs
    go_enter Tryz.func140,Tryz.ntmps140
    go_wp2_with fail;clear c0 c1 c2 c3 c4 c5 c6 f4
    generalize hW:w.setCell ⟨B+4,i*(ts.length+1)+j,none⟩ (.bool true)=W at *
    clear hW hb1 hb2 hb3 hpN hNb;refine aj [some 5,none,some 1] (by kernel_rfl) (by kernel_rfl) (by kernel_rfl) ?_;simp only[bh,List.take_succ_cons,List.take_zero,List.drop_succ_cons,List.drop_zero];have HST2:=ab (HST1.out.grown (Below.refl _ W).drew)
    repeat (first | (refine au rfl ?_; simp only[Act.put,aM,aN,aO]) | (refine aA rfl (fun K hK=> ?_); go_simp; refine hK _ ?_; clear hK K))
    refine az ?_;clear d0 d1 d2 d3 d5 d6 g0 g1 HST1
    generalize W.drew=W2 at *
    refine bu rfl (fun K hK=> ?_);go_wp2_with (go_at_call 115; refine(kj it rv _).mono ?_; rintro e w3 ⟨rfl,hb3⟩; rw[HS.out]; have HST3:=ab (HST2.out.grown hb3); clear hb3 HST2)
    repeat (first | (refine au rfl ?_; simp only[Act.put,aM,aN,aO]) | (refine aA rfl (fun K hK=> ?_); go_simp; refine hK _ ?_; clear hK K))
    refine az ?_;go_wp2_with fail
    go_loopw [12] (fun en wr=> ∃(k:Nat) (tr':List Bool),j<=k/\k<=ts.length+1/\en= .int .i64 k/\ei w0 B N 140 (.slice (some ⟨pb,po,none⟩) ps.length pc) (.slice ta ts.length tc) (.func (.func 115) #[] #[]) (.func (.func 116) #[] #[]) tr' wr/\
      dJ aB.dbl cy ps ts (i+1) tr'/\(∀q,q<(i+1)*(ts.length+1)->tr'[q]? =(tr.set (i*(ts.length+1)+j) true)[q]?)/\dv aB.dbl cy (ps.drop i) (ts.drop j)=(decide (k<=ts.length) && eL (dv aB.dbl cy (ps.drop (i+1))) (ts.drop k))) (fun en _=>ts.length+1-(intOf en).toNat)
    case atStart=>exact⟨j,_,Nat.le_refl _,by omega,rfl,HST3.out,HINV1.out,fun _ _=>rfl,by rw[sF HIT.out HS.out]; simp[hj]⟩
    case round=>
     obtain⟨k,tr',hjk,hk,rfl,hst4,hinv4,hsm4,hdv4⟩:=hrel;have HST4:=ab hst4;have HINV4:=ab hinv4;have HSM4:=ab hsm4;have HDV4:=ab hdv4;obtain⟨d0,d1,d2,d3,d5,d6,-,-,-,-⟩:=hst4;clear hinv4 hsm4 hdv4
     by_cases hkm:k<=ts.length
     ·cases hdvk:dv aB.dbl cy (ps.drop (i+1)) (ts.drop k)
      ·have HDVK:=ab hdvk;clear hdvk;go_wp2_with (go_at_call 140; refine(HIH.out hin' _ _ k wr tr' (by omega) (by omega) (by omega) HST4.out HINV4.out).mono ?_; rintro e w5 ⟨tr2,rfl,hst5,hinv5,hsame5⟩; rw[HDVK.out]; have HST5:=ab hst5; have HINV5:=ab hinv5; have HSM5:=ab hsame5; clear hst5 hinv5 hsame5)
       go_roundw
       case rel=>
        refine⟨k+1,tr2,by omega,by omega,by go_num,HST5.out,HINV5.out HDVK.out,fun q hq=>(HSM5.out q hq).trans (HSM4.out q hq), ?_⟩;rw[HDV4.out]
        by_cases hlt:k<ts.length
        ·rw[fe _ hlt,HDVK.out]; simp[hkm,show k+1<=ts.length by omega]
        ·rw[fM _ (show k=ts.length by omega),HDVK.out]; simp[show ¬k+1<=ts.length by omega]
       case measure=>simp[intOf]; omega
      ·have HDVK:=ab hdvk;clear hdvk;go_wp2_with (go_at_call 140; refine(HIH.out hin' _ _ k wr tr' (by omega) (by omega) (by omega) HST4.out HINV4.out).mono ?_; rintro e w5 ⟨tr2,rfl,hst5,hinv5,hsame5⟩; rw[HDVK.out]; have HST5:=ab hst5; have HINV5:=ab hinv5; have HSM5:=ab hsame5; clear hst5 hinv5 hsame5);go_ret;have hdv:dv aB.dbl cy (ps.drop i) (ts.drop j)=true:=by
        rw[HDV4.out]
        by_cases hlt:k<ts.length
        ·rw[fe _ hlt,HDVK.out]; simp[hkm]
        ·rw[fM _ (show k=ts.length by omega),HDVK.out]; simp[hkm]
       refine⟨tr2,by rw[hdv]; rfl,HST5.out,(fun hf=>by rw[hdv]at hf; cases hf),fun q hq=> ?_⟩;rw[HSM5.out q (by rw[Nat.add_mul]; omega),HSM4.out q (by rw[Nat.add_mul]; omega),List.getElem?_set_ne (by omega)]
     ·go_wp2_with fail;go_ret;have hdv:dv aB.dbl cy (ps.drop i) (ts.drop j)=false:=by rw[HDV4.out]; simp[hkm]
      refine⟨tr',by rw[hdv]; rfl,HST4.out,fun hf=>HINV.out.down HINV4.out HSM4.out hf,fun q hq=> ?_⟩;rw[HSM4.out q (by rw[Nat.add_mul]; omega),List.getElem?_set_ne (by omega)]
theorem yO (ps:List aB) (ts:List ByteArray) (S:Nat->Prop) (w0:World) (B:Nat) (pv tv:Value) (hB:w0.heap.size=B) (hp:cG S w0 pv ps) (htv:aD S w0 1 tv ts.length (ts.map Value.string))
  (hn:ps.length<=65536) (hm:ts.length<=65536) (hps: ∀c∈ps,c.items.length<=65536) (hts: ∀x∈ts,x.size<=65536): ∀(d i:Nat),ps.length-i=d->i<=ps.length->sk aB.dbl cy ps ts i w0 B ((ps.length+1)*(ts.length+1)) 140 pv tv (.func (.func 115) #[] #[]) (.func (.func 116) #[] #[])
 | 0,i,hd,hi=>by
  intro ii jj j w tr h1 h2 hj hst hinv;subst h1 h2;exact lI ps ts S w0 B pv tv hB hp htv hn hm hps hts i j w tr hi hj (fun h=>by omega) hst hinv
 | d+1,i,hd,hi=>by
  intro ii jj j w tr h1 h2 hj hst hinv;subst h1 h2;exact lI ps ts S w0 B pv tv hB hp htv hn hm hps hts i j w tr hi hj (fun h=>yO ps ts S w0 B pv tv hB hp htv hn hm hps hts d (i+1) (by omega) (by omega)) hst hinv
theorem pj (ps:List aB) (ts:List ByteArray) (S:Nat->Prop) (w:World) (pv tv:Value) (hp:cG S w pv ps) (htv:aD S w 1 tv ts.length (ts.map Value.string)) (hn:ps.length<=65536) (hm:ts.length<=65536) (hps: ∀c∈ps,c.items.length<=65536) (hts: ∀x∈ts,x.size<=65536):
  Calls Tryz.prog 114 #[pv,tv, .func (.func 115) #[] #[], .func (.func 116) #[] #[]] w fun e w'=>e= .returned (.bool (dv aB.dbl cy ps ts))/\Below w.heap.size w w':=by
 obtain⟨pa,pc,rfl,-,-,-⟩:=hp.shape eh.len;obtain⟨_,ta,tc,rfl,-⟩:=id htv;have HF:=ab (yO ps ts S w w.heap.size _ _ rfl hp htv hn hm hps hts ps.length 0 rfl (Nat.zero_le _));clear hp htv hps hts;have hN:(ps.length+1)*(ts.length+1)<=65537*65537:=Nat.mul_le_mul (by omega) (by omega);have hX:((ps.length:Int)+1)*((ts.length:Int)+1)=(((ps.length+1)*(ts.length+1):Nat):Int):=by simp
 have hb1:0<=((ps.length:Int)+1)*((ts.length:Int)+1):=by rw[hX]; omega
 have hb2:((ps.length:Int)+1)*((ts.length:Int)+1)<=4295098369:=by rw[hX]; omega
 have hmk:=jz (P:=Tryz.prog) (t:=203) (e:=4) (z:= .bool false) ((ps.length+1)*(ts.length+1)) [.bool false] Tryz.underlying203 (bytes:=1) (sz:=1) (by kernel_rfl) rfl rfl (by omega) (by omega) (by omega);rw[<-hX]at hmk;clear hX hN
 go_enter Tryz.func114,Tryz.ntmps114
 go_wp2_with fail;refine(HF.out 0 0 0 _ (List.replicate ((ps.length+1)*(ts.length+1)) false) rfl rfl (Nat.zero_le _) (kn w _ _ _ _ _ _ _ _ _ _ _ _) ?_).mono ?_
 ·intro i' j' _ _ _ h;rw[List.getElem?_replicate]at h
  split at h<;> simp at h
 ·rintro e w1 ⟨tr',rfl,hst,-,-⟩;go_wp2_with fail;go_ret;exact⟨rfl,hst.below⟩
theorem vW {P T U:Type} (star:P->Bool) (m:P->T->Bool) (f:U->T): ∀(ps:List P) (us:List U),dv star (fun p u=>m p (f u)) ps us=dv star m ps (us.map f)
 | [],us=>by cases us<;> simp[dv]
 | p::ps,us=>by
  have ih:=vW star m f ps;unfold dv
  split
  ·induction us with
   | nil=>simp[eL,ih]
   | cons u us ih2=>simp only[eL,List.map_cons,ih,ih2]
  ·cases us with
   | nil=>simp[pB]
   | cons u us=>simp[pB,ih]
theorem vX (cs:List aB) (xs:List ByteArray):dv aB.dbl cy cs xs=fr cs (xs.map bl):=vW aB.dbl sC bl cs xs
theorem cC (cs:List aB) (xs:List ByteArray) (S:Nat->Prop) (w:World) (pv tv:Value) (hp:cG S w pv cs) (htv:dg S w tv xs) (hn:cs.length<=65536) (hm:xs.length<=65536) (hps: ∀c∈cs,c.items.length<=65536) (hts: ∀x∈xs,x.size<=65536):
  Calls Tryz.prog 75 #[pv,tv] w fun e w'=>e= .returned (.bool (fr cs (xs.map bl)))/\Below w.heap.size w w':=by
 have H:=ab (pj cs xs S w pv tv hp htv hn hm hps hts);clear hp htv hps hts
 go_enter Tryz.func75,Tryz.ntmps75
 go_wp2_with fail;refine H.out.mono ?_;rintro e w1 ⟨rfl,hb⟩;go_wp2_with fail;go_ret;exact⟨al (vX cs xs),hb⟩
theorem gG {l:List UInt8} {cs:List aB} (h:fH l=some cs):cs.length<=16/\(∀c∈cs,c.items.length<=512)/\l.length<=512:=by
 unfold fH at h
 split at h
 ·simp at h
 ·rename_i h1
  split at h
  ·simp at h
  ·rename_i h2;have h3:=lx h;have h5:l.length<=512:=by omega
   refine⟨by omega,ji h (fun p hp=> ?_),h5⟩;have:=fR 47 l p hp; omega
theorem qp {l:List UInt8} (h:bp l=true):l.length<=512/\(aw 47 l).length<=16:=by
 simp only[bp,Bool.and_eq_true,decide_eq_true_eq]at h; exact⟨h.1.1,h.1.2⟩
theorem ry {xs:List ByteArray} {l:List UInt8} (h:bp l=true) (hx:xs.map bl=aw 47 l):xs.length<=16/\ ∀x∈xs,x.size<=512:=by
 have h1:=qp h;refine⟨by have:(xs.map bl).length=_:=congrArg _ hx; rw[List.length_map]at this; omega,fun x hm=> ?_⟩;have:=fR 47 l (bl x) (by rw[<-hx]; exact List.mem_map.2 ⟨x,hm,rfl⟩);rw[aJ]; omega
theorem cG.below {S:Nat->Prop} {w w':World} {v:Value} {cs:List aB} (h:cG S w v cs) (hb:Below w.heap.size w w'):cG (fun _=>True) w' v cs:=h.move (fun k hk _=>⟨trivial,hb.block k hk⟩)
def nE (r:aF):Value:= .agg #[.string ⟨r.pat.toArray⟩, .bool r.keep, .bool r.dir, .bool r.rooted]
theorem bQ (s p:ByteArray) (b:Bool) (w:World) (h:Lib.hasPrefix (bl s) (bl p)=b):
  Calls Tryz.prog 71 #[.string s, .string p] w fun e w'=>e= .returned (.bool b)/\w=w':=by rw[<-h]; exact mF s p w
theorem eo (s:ByteArray) (c:UInt8) (b:Bool) (w:World) (h:(bl s).contains c=b):
  Calls Tryz.prog 111 #[.string s, .string ⟨#[c]⟩] w fun e w'=>e= .returned (.bool b)/\w=w':=by rw[<-h]; exact jk s c w
theorem cT (p:ByteArray) (k d r:Bool) (w:World) (he:iz w) (hp:p.size<=9223372036854775807):
  Calls Tryz.prog 74 #[.agg #[.string p, .bool k, .bool d, .bool r]] w (qy (aK ⟨bl p,k,d,r⟩) w):=by
 have HE:=ab he;clear he;have hb0:Below w.heap.size w (w.alloc (.cells #[.string p, .bool k, .bool d, .bool r] 141)):=(Below.refl _ _).alloc (Nat.le_refl _) _;have HB0:=ab hb0;clear hb0
 cases h1:Lib.hasPrefix (bl p) [33]
 ·have H1:=ab h1;clear h1
  cases h2:Lib.hasPrefix (bl p) [35]
  ·have H2:=ab h2;clear h2
   cases h3:(bl p).contains 47 && !r
   ·have HC:Hid (aK ⟨bl p,k,d,r⟩=fH (bl p)):=ab (by unfold aK; simp only[H1.out,H2.out,h3,Bool.or_self,Bool.false_eq_true,if_false]);have h3':(bl p).contains 47=true->r=true:=by intro h; rw[h]at h3; simpa using h3
    have H3:=ab h3';clear h3 h3'
    go_enter Tryz.func74,Tryz.ntmps74
    go_wp2_with fail;refine(bQ p ⟨#[33]⟩ false _ H1.out).mono ?_;rintro e w' ⟨rfl,rfl⟩;go_wp2_with fail;refine(bQ p ⟨#[35]⟩ false _ H2.out).mono ?_;rintro e w' ⟨rfl,rfl⟩;go_wp2_with fail
    cases h4:(bl p).contains 47
    ·have H4:=ab h4;clear h4;refine(eo p 47 false _ H4.out).mono ?_;rintro e w' ⟨rfl,rfl⟩;go_wp2_with fail
     cases hpat:fH (bl p)with
     | none=>
      have HP:=ab hpat
      clear hpat
      refine(cW p _ (HE.out.below HB0.out) hp).mono ?_;rw[HP.out];rintro e w1 ⟨rfl,hb1⟩;have HB1:=ab hb1;clear hb1;go_wp2_with fail
      go_ret2
      rw[HC.out,HP.out];exact⟨rfl,af HB0.out HB1.out⟩
     | some cs=>
      have HP:=ab hpat
      clear hpat
      refine(cW p _ (HE.out.below HB0.out) hp).mono ?_;rw[HP.out];rintro e w1 ⟨v,rfl,hv1,hb1⟩;have HV1:=ab hv1;have HB1:=ab hb1;clear hb1 hv1;go_wp2_with fail
      go_ret2
      rw[HC.out,HP.out];exact⟨v,rfl,HV1.out.move (fun k _ hk=>⟨by simp at hk; omega,rfl⟩),af HB0.out HB1.out⟩
    ·have H4:=ab h4;obtain rfl:r=true:=H3.out h4;clear h4;refine(eo p 47 true _ H4.out).mono ?_;rintro e w' ⟨rfl,rfl⟩;go_wp2_with fail
     cases hpat:fH (bl p)with
     | none=>
      have HP:=ab hpat
      clear hpat
      refine(cW p _ (HE.out.below HB0.out) hp).mono ?_;rw[HP.out];rintro e w1 ⟨rfl,hb1⟩;have HB1:=ab hb1;clear hb1;go_wp2_with fail
      go_ret2
      rw[HC.out,HP.out];exact⟨rfl,af HB0.out HB1.out⟩
     | some cs=>
      have HP:=ab hpat
      clear hpat
      refine(cW p _ (HE.out.below HB0.out) hp).mono ?_;rw[HP.out];rintro e w1 ⟨v,rfl,hv1,hb1⟩;have HV1:=ab hv1;have HB1:=ab hb1;clear hb1 hv1;go_wp2_with fail
      go_ret2
      rw[HC.out,HP.out];exact⟨v,rfl,HV1.out.move (fun k _ hk=>⟨by simp at hk; omega,rfl⟩),af HB0.out HB1.out⟩
   ·have HC:Hid (aK ⟨bl p,k,d,r⟩=none):=ab (by unfold aK; simp only[H1.out,H2.out,h3,Bool.or_self,Bool.false_eq_true,if_false,if_true]);rw[Bool.and_eq_true]at h3;obtain⟨h4,h5⟩:=h3;obtain rfl:r=false:=by simpa using h5
    have H4:=ab h4;clear h4 h5
    go_enter Tryz.func74,Tryz.ntmps74
    go_wp2_with fail;refine(bQ p ⟨#[33]⟩ false _ H1.out).mono ?_;rintro e w' ⟨rfl,rfl⟩;go_wp2_with fail;refine(bQ p ⟨#[35]⟩ false _ H2.out).mono ?_;rintro e w' ⟨rfl,rfl⟩;go_wp2_with fail;refine(eo p 47 true _ H4.out).mono ?_;rintro e w' ⟨rfl,rfl⟩;go_wp2_with fail
    go_ret2
    rw[HC.out];exact⟨rfl,HB0.out⟩
  ·have H2:=ab h2;clear h2;have HC:Hid (aK ⟨bl p,k,d,r⟩=none):=ab (by unfold aK; simp only[H1.out,H2.out,Bool.or_true,if_true])
   go_enter Tryz.func74,Tryz.ntmps74
   go_wp2_with fail;refine(bQ p ⟨#[33]⟩ false _ H1.out).mono ?_;rintro e w' ⟨rfl,rfl⟩;go_wp2_with fail;refine(bQ p ⟨#[35]⟩ true _ H2.out).mono ?_;rintro e w' ⟨rfl,rfl⟩;go_wp2_with fail
   go_ret2
   rw[HC.out];exact⟨rfl,HB0.out⟩
 ·have H1:=ab h1;clear h1;have HC:Hid (aK ⟨bl p,k,d,r⟩=none):=ab (by unfold aK; simp only[H1.out,Bool.true_or,if_true])
  go_enter Tryz.func74,Tryz.ntmps74
  go_wp2_with fail;refine(bQ p ⟨#[33]⟩ true _ H1.out).mono ?_;rintro e w' ⟨rfl,rfl⟩;go_wp2_with fail
  go_ret2
  rw[HC.out];exact⟨rfl,HB0.out⟩
theorem jh (r:aF) (w:World) (he:iz w) (hp:r.pat.length<=9223372036854775807):Calls Tryz.prog 74 #[nE r] w (qy (aK r) w):=by
 have:=cT ⟨r.pat.toArray⟩ r.keep r.dir r.rooted w he (by rw[aJ,ki]; exact hp);rw[ki]at this;exact this
def gL (r:aF):List Value:=[.string ⟨r.pat.toArray⟩, .bool r.keep, .bool r.dir, .bool r.rooted]
def mR (c:List Value) (r:aF):Prop:=c=gL r
theorem mR.len (c:List Value) (r:aF) (h:mR c r):c.length=4:=by rw[h]; rfl
def bt (S:Nat->Prop) (w:World) (v:Value) (rs:List aF):Prop:=aR S w 4 mR v rs
theorem bt.below {S:Nat->Prop} {w w':World} {v:Value} {rs:List aF} (h:bt S w v rs) (hb:Below w.heap.size w w'):bt S w' v rs:=aR.below h (by omega) hb (fun _ _ _ h=>h)
theorem bt.cells {S:Nat->Prop} {w:World} {v:Value} {rs:List aF} (h:bt S w v rs):
  ∃a cap,v= .slice a rs.length cap/\rs.length<=cap/\cap<=maxLen/\ ∀(k:Nat) r,rs[k]? =some r-> ∃b o,a=some ⟨b,o,none⟩/\w.cell? ⟨b,o+k*4,none⟩=some (.string ⟨r.pat.toArray⟩)/\
   w.cell? ⟨b,o+k*4+1,none⟩=some (.bool r.keep)/\w.cell? ⟨b,o+k*4+2,none⟩=some (.bool r.dir)/\w.cell? ⟨b,o+k*4+3,none⟩=some (.bool r.rooted):=by
 obtain⟨a,cap,hv,h1,h2,h3⟩:=aR.shape h mR.len;refine⟨a,cap,hv,h1,h2,fun k r hk=> ?_⟩;obtain⟨b,o,c,ha,_,hc,_,hj⟩:=h3 k r hk;rw[mR]at hc;subst hc;have j0:=hj 0 (by omega);have j1:=hj 1 (by omega);have j2:=hj 2 (by omega);have j3:=hj 3 (by omega);exact⟨b,o,ha,j0,j1,j2,j3⟩
theorem jW {S:Nat->Prop} {w:World} {a:Option Addr} {cap n:Nat} {xs:List ByteArray} (h:dg S w (.slice a xs.length cap) xs) (hn:n<=xs.length):dg S w (.slice a n cap) (xs.take n):=by
 obtain⟨_,a',cap',hv,h1,h2,h0⟩:=h
 cases hv
 have hl:(xs.take n).length=n:=by simp; omega
 refine⟨by simp,a,cap,by rw[hl],by omega,h2, ?_⟩
 rcases h0 with h0 | ⟨b,o,ha,hb,hc⟩
 ·left; omega
 ·right
  refine⟨b,o,ha,hb,fun j u hj=>hc j u ?_⟩;rw[List.map_take]at hj;rw[List.getElem?_take]at hj
  split at hj
  ·exact hj
  ·simp at hj
theorem jV {S:Nat->Prop} {w:World} {b o cap n:Nat} {xs:List ByteArray} (h:dg S w (.slice (some ⟨b,o,none⟩) xs.length cap) xs) (hn:n<xs.length) (m:Nat) (hm:n+m<=xs.length):
  dg S w (.slice (some ⟨b,o+n,none⟩) m (cap-n)) ((xs.take (n+m)).drop n):=by
 obtain⟨_,a',cap',hv,h1,h2,h0⟩:=h
 cases hv
 have hl:((xs.take (n+m)).drop n).length=m:=by simp; omega
 refine⟨by simp,_,_,by rw[hl],by omega,by omega, ?_⟩
 rcases h0 with h0 | ⟨b',o',ha,hb,hc⟩
 ·omega
 ·cases ha
  right
  refine⟨b,o+n,rfl,hb,fun j u hj=> ?_⟩;have:=hc (n+j) u (by
   rw[List.map_drop,List.map_take,List.getElem?_drop,List.getElem?_take]at hj
   split at hj
   ·exact hj
   ·simp at hj)
  rw[Nat.add_assoc]; exact this
theorem iX {S:Nat->Prop} {w:World} {a:Option Addr} {cap:Nat} {xs:List ByteArray} (h:dg S w (.slice a xs.length cap) xs) (hn:0<xs.length): ∃b o,a=some ⟨b,o,none⟩:=by
 obtain⟨_,a',cap',hv,h1,h2,h0⟩:=h
 cases hv
 rcases h0 with h0 | ⟨b',o',ha,hb,hc⟩
 ·omega
 ·exact⟨b',o',ha⟩
def nT (S:Nat->Prop) (w:World) (c:List Value) (cs:List aB):Prop:= ∃v,c=[v]/\cG S w v cs
theorem nT.len {S:Nat->Prop} {w:World} (c:List Value) (cs:List aB) (h:nT S w c cs):c.length=1:=by obtain⟨v,rfl,_⟩:=h; rfl
theorem nT.move {S T:Nat->Prop} {w w':World} {c:List Value} {cs:List aB} (h:nT S w c cs) (hs: ∀k,k<w.heap.size->S k->T k/\w'.heap[k]? =w.heap[k]?):nT T w' c cs:=by
 obtain⟨v,rfl,hr⟩:=h;exact⟨v,rfl,hr.move hs⟩
structure dr (w : World) (cb n k : Nat) (us : List (List aB)) (wr : World) : Prop where
 box: ∃done,be (nT (cb< ·) wr) done us/\wr.heap[cb]? =some (.cells (done++iK [.slice none 0 0] (n-k)).toArray 147 (0,0))
 below:Below cb w wr
 lt:cb<wr.heap.size
 len:us.length=k
theorem dr.grown {w:World} {cb n k:Nat} {us:List (List aB)} {wr w':World} (h:dr w cb n k us wr) (hb:Below wr.heap.size wr w'):dr w cb n k us w':=by
 obtain⟨⟨done,hr,hbx⟩,hbl,hlt,hl⟩:=h;exact⟨⟨done,hr.mono fun c x _ hc=>hc.move fun k hk h2=>⟨h2,hb.block k hk⟩,by rw[hb.block cb hlt]; exact hbx⟩,hbl.trans (hb.mono (by omega)),Nat.lt_of_lt_of_le hlt hb.size,hl⟩
theorem dr.cell {w:World} {cb n k:Nat} {us:List (List aB)} {wr:World} (h:dr w cb n k us wr) (hk:k<n):wr.cell? ⟨cb,k,none⟩=some (.slice none 0 0)/\wr.frozen? ⟨cb,k,none⟩=false:=by
 obtain⟨⟨done,hr,hbx⟩,hbl,hlt,hl⟩:=h;have hdl:=hr.len nT.len;obtain⟨m,hm⟩: ∃m,n-k=m+1:=⟨n-k-1,by omega⟩;rw[hm,du]at hbx;refine⟨?_,ag hbx⟩;rw[aa hbx,List.getElem?_toArray,List.getElem?_append_right (by omega),show k-done.length=0 by omega]; rfl
theorem dr.put {w:World} {cb n k:Nat} {us:List (List aB)} {cs:List aB} {wr:World} {v:Value} (h:dr w cb n k us wr) (hk:k<n) (hv:cG (cb< ·) wr v cs):dr w cb n (k+1) (us++[cs]) (wr.setCell ⟨cb,k,none⟩ v):=by
 obtain⟨⟨done,hr,hbx⟩,hbl,hlt,hl⟩:=h;have hdl:=hr.len nT.len;obtain⟨m,hm⟩: ∃m,n-k=m+1:=⟨n-k-1,by omega⟩;rw[hm,du]at hbx;refine⟨⟨done++[v], ?_, ?_⟩,hbl.setCell (by simp) _,by simp[World.setCell]; exact hlt,by simp[hl]⟩
 ·refine be.snoc (hr.mono fun c x _ hc=>hc.move fun j hj h2=>⟨h2,Below.heap_setCell _ _ _ _ (by simp; omega)⟩) ?_;exact⟨_,rfl,hv.move fun j hj h2=>⟨h2,Below.heap_setCell _ _ _ _ (by simp; omega)⟩⟩
 ·simp only[World.setCell,Array.getElem?_modify,if_true,hbx,Option.map_some];rw[show n-(k+1)=m by omega];simp only[List.setIfInBounds_toArray,Option.some.injEq,Obj.cells.injEq,and_true];rw[show k=done.length by omega];simp
theorem dr.get {w:World} {cb n k:Nat} {us:List (List aB)} {wr:World} (h:dr w cb n k us wr) {i:Nat} {cs:List aB} (hi:us[i]? =some cs): ∃v,wr.cell? ⟨cb,i,none⟩=some v/\cG (cb< ·) wr v cs:=by
 obtain⟨⟨done,hr,hbx⟩,hbl,hlt,hl⟩:=h;obtain⟨c,⟨v,rfl,hv⟩,hj⟩:=hr.get nT.len hi;have h0:=hj 0 (by omega);simp only[Nat.mul_one,Nat.add_zero,List.getElem?_cons_zero]at h0;refine⟨v, ?_,hv⟩;rw[aa hbx,List.getElem?_toArray,List.getElem?_append_left (List.getElem?_eq_some_iff.1 h0).1];exact h0
theorem ge : ∀(rs:List aF) (r:aF),aH (rs++[r])=match aH rs with | none=>none | some us=>match aK r with | none=>none | some cs=>some (us++[(r,cs)])
 | [],r=>by simp only[List.nil_append,aH]; cases aK r<;> simp
 | q::rs,r=>by
  simp only[List.cons_append,aH];rw[ge rs r]
  cases aK q<;> simp
  cases aH rs<;> simp
  cases aK r<;> simp
theorem kJ (rs qs:List aF) (h:aH rs=none):aH (rs++qs)=none:=by
 induction rs with
 | nil=>simp[aH]at h
 | cons r rs ih=>
  simp only[List.cons_append,aH]at h ⊢
  cases hp:aK r with
  | none=>rfl
  | some c=>
   rw[hp]at h;simp only at h
   cases hps:aH rs with
   | none=>simp[ih hps]
   | some cs=>rw[hps]at h; simp at h
theorem dB : ∀ {rs:List aF} {us:List (aF×List aB)},aH rs=some us-> ∀u∈us,aK u.1=some u.2
 | [],us,h=>by simp[aH]at h; subst h; simp
 | r::rs,us,h=>by
  unfold aH at h
  split at h
  ·simp at h
  ·rename_i cs e
   split at h
   ·simp at h
   ·rename_i u2 e2;simp at h; subst h;intro u hu
    rcases List.mem_cons.1 hu with rfl | hu
    ·exact e
    ·exact dB e2 u hu
theorem dA : ∀ {rs:List aF} {us:List (aF×List aB)},aH rs=some us->us.map Prod.fst=rs
 | [],us,h=>by simp[aH]at h; subst h; rfl
 | r::rs,us,h=>by
  unfold aH at h
  split at h
  ·simp at h
  ·split at h
   ·simp at h
   ·rename_i u2 e2;simp at h; subst h;simp[dA e2]
theorem fO {r:aF} {cs:List aB} (h:aK r=some cs):fH r.pat=some cs:=by
 unfold aK at h
 split at h
 ·simp at h
 ·split at h
  ·simp at h
  ·exact h
def zN (o:Bool×Int):Value:= .tuple #[.bool o.1, .int .i64 o.2]
theorem lK {dir:Bool} {parts:List (List UInt8)} {n k:Nat} {us:List (aF×List aB)} {u:aF×List aB} (b:Bool) (h:us[k]? =some u):
  dL dir parts n (us.drop k) b=dL dir parts n (us.drop (k+1)) (if dF dir u.1 u.2 parts n then !u.1.keep else b):=by
 obtain⟨hk,rfl⟩:=List.getElem?_eq_some_iff.1 h;rw[List.drop_eq_getElem_cons hk,dL]
def vk (dir:Bool) (parts:List (List UInt8)) (us:List (aF×List aB)) (m:Nat) (ig:Bool):Prop:=
 (ig=false->bH dir parts us parts.length 1=bH dir parts us (parts.length-m) (m+1))/\(ig=true->bH dir parts us parts.length 1=true)
theorem yP {dir:Bool} {xs:List ByteArray} {us:List (aF×List aB)} {m:Nat} (h:vk dir (xs.map bl) us m true):bH dir (xs.map bl) us xs.length 1=true:=by
 have:=h.2 rfl;rw[List.length_map]at this; exact this
theorem gM (dir:Bool) (r:aF) (cs:List aB) (parts:List (List UInt8)) (n:Nat) (d:Bool) (hd:(dir || decide (n<parts.length))=d):dF dir r cs parts n=((d || !r.dir) && fr cs (if r.rooted then parts.take n else(parts.take n).drop (n-1))):=by
 unfold dF; rw[hd]
def gc (dir:Bool) (parts:List (List UInt8)) (us:List (aF×List aB)) (m k:Nat) (b:Bool):Prop:=
 dL dir parts (m+1) us false=dL dir parts (m+1) (us.drop k) b
theorem fE {dir:Bool} {parts:List (List UInt8)} {us:List (aF×List aB)} {m k:Nat} {b:Bool} {r:aF} {cs:List aB} (h:gc dir parts us m k b) (hu:us[k]? =some (r,cs)) (hh:dF dir r cs parts (m+1)=false):gc dir parts us m (k+1) b:=by
 unfold gc at *;rw[h,lK b hu,hh]; rfl
theorem il {dir:Bool} {parts:List (List UInt8)} {us:List (aF×List aB)} {m k:Nat} {b:Bool} {r:aF} {cs:List aB} (h:gc dir parts us m k b) (hu:us[k]? =some (r,cs)) (hh:dF dir r cs parts (m+1)=true):gc dir parts us m (k+1) (!r.keep):=by
 unfold gc at *;rw[h,lK b hu,hh]; rfl
theorem pE (rs:List aF) (S:Nat->Prop) (v:Value) (s:ByteArray) (dir:Bool) (w:World) (he:iz w) (hv:bt S w v rs) (hp: ∀r∈rs,r.pat.length<=9223372036854775807):
  Calls Tryz.prog 40 #[v, .string s, .bool dir] w fun e w'=>e= .returned (zN (cA rs (bl s) dir))/\Below w.heap.size w w':=by
 have HE:=ab he;have HV:=ab hv;have HP:=ab hp;obtain⟨a,cap,rfl,hc,hcm,-⟩:=hv.cells;clear he hv hp;unfold maxLen at hcm
 go_enter Tryz.func40,Tryz.ntmps40
 go_wp2_with fail;refine(kF s w HE.out).mono ?_;rintro e w1 (⟨hval,tv,xs,rfl,hxs,htv,hb1⟩ | ⟨hval,rfl,hb1⟩)
 ·obtain⟨hx1,hx2⟩:=ry hval hxs;obtain⟨ta,tc,rfl,htc1,htc2,-⟩:=htv.shape;have HB1:=ab hb1;have HTV:=ab htv;have HXS:=ab hxs;have HVAL:=ab hval;have HX2:=ab hx2;clear hb1 htv hxs hval hx2;unfold maxLen at htc2
  by_cases h256:rs.length<=256
  ·have hmk:=jz (P:=Tryz.prog) (t:=146) (e:=147) (z:= .slice none 0 0) rs.length [.slice none 0 0] Tryz.underlying146 (bytes:=24) (sz:=1) (by kernel_rfl) rfl rfl (by omega) (by omega) (by omega);go_wp2_with fail;clear hmk
   go_loopw [37] (fun i wr=> ∃(k:Nat) (us:List (aF×List aB)),k<=rs.length/\i= .int .i64 k/\dr w1 w1.heap.size rs.length k (us.map Prod.snd) wr/\aH (rs.take k)=some us) (fun i _=>rs.length-(intOf i).toNat)
   case atStart=>
    refine⟨0,[],Nat.zero_le _,rfl,⟨⟨[],rfl, ?_⟩,(Below.refl _ _).alloc (Nat.le_refl _) _,by simp,rfl⟩,by simp[aH]⟩;have:=heap_alloc_new w1 (.cells (made [.slice none 0 0] rs.length) 147)
    simpa [made]using this
   case round=>
    obtain⟨k,us,hk,rfl,hI,hcomp⟩:=hrel;have HI:=ab hI;have HC:=ab hcomp;clear hI hcomp;have hBW:Below w1.heap.size w1 wr:=HI.out.below;have HBW:=ab hBW;clear hBW
    by_cases hlt:k<rs.length
    ·obtain⟨r,hr⟩: ∃r,rs[k]? =some r:=⟨rs[k],by simp[hlt]⟩;obtain⟨_,_,hv',_,_,hcells⟩:=(bt.below HV.out (af HB1.out HBW.out)).cells
     cases hv'
     obtain⟨b,o,rfl,c0,c1,c2,c3⟩:=hcells k r hr;have hrp:=HP.out r (List.mem_of_getElem? hr);have HR:=ab hr;clear hr hcells;have hwb:Below wr.heap.size wr (wr.alloc (.cells #[.string ⟨r.pat.toArray⟩, .bool r.keep, .bool r.dir, .bool r.rooted] 141)):=(Below.refl _ _).alloc (Nat.le_refl _) _;have HWB:=ab hwb;clear hwb;have hsn:aH (rs.take (k+1))=match aK r with | none=>none | some cs=>some (us++[(r,cs)]):=by
      have e1:rs.take (k+1)=rs.take k++[r]:=by rw[List.take_add_one]; simp[HR.out]
      rw[e1,ge,HC.out];try rfl
     have HSN:=ab hsn;clear hsn;go_wp2_with fail;have hE2:iz (wr.alloc (.cells #[.string ⟨r.pat.toArray⟩, .bool r.keep, .bool r.dir, .bool r.rooted] 141)):=HE.out.below (af (af HB1.out HBW.out) HWB.out)
     cases hcs:aK r with
     | none=>
      have HCS:=ab hcs;clear hcs;refine(jh r _ hE2 hrp).mono ?_;rw[HCS.out];rintro e w3 ⟨rfl,hb3⟩;have hb3':Below wr.heap.size wr w3:=af HWB.out hb3;have HB3:=ab hb3';clear hb3 hb3' hE2;obtain⟨d0,d1⟩:=(HI.out.grown HB3.out).cell hlt;go_wp2_with fail
      go_ret2
      refine⟨?_,af HB1.out ((HBW.out.trans (HB3.out.mono HBW.out.size)).setCell (by simp) _)⟩;have hnone:aH rs=none:=by
       rw[<-List.take_append_drop (k+1) rs];exact kJ _ _ (by rw[HSN.out,HCS.out])
      rw[cA,if_neg (by rw[HVAL.out]; simp; omega),hnone]; rfl
     | some cs=>
      have HCS:=ab hcs;clear hcs;refine(jh r _ hE2 hrp).mono ?_;rw[HCS.out];rintro e w3 ⟨pv,rfl,hv3,hb3⟩;have hb3':Below wr.heap.size wr w3:=af HWB.out hb3;have HB3:=ab hb3';have HI3:=ab (HI.out.grown hb3');have hcblt:=HI.out.lt;have HV3:=ab (cG.move (T:=(w1.heap.size< ·)) (w':=w3) hv3 (fun j hj h2=>⟨by simp at h2; omega,rfl⟩));obtain⟨av,cv,rfl,hnv,hmv,-⟩:=hv3.shape eh.len
      clear hb3 hb3' hE2 hv3;obtain⟨d0,d1⟩:=HI3.out.cell hlt;go_wp2_with fail
      go_roundw
      case rel=>
       refine⟨k+1,us++[(r,cs)],by omega,by go_num, ?_,by rw[HSN.out,HCS.out]⟩;have:=HI3.out.put hlt HV3.out
       simpa using this
      case measure=>simp[intOf]; omega
    ·obtain rfl:k=rs.length:=by omega
     have hcomp:aH rs=some us:=by rw[<-HC.out,List.take_length]
     have HCA:=ab hcomp;clear hcomp;have hul:us.length=rs.length:=by have:=HI.out.len; rw[List.length_map]at this; exact this
     have hparts:0<xs.length:=by
      have:=rS 47 (bl s); rw[<-HXS.out,List.length_map]at this; omega
     have hfin:cA rs (bl s) dir=(bH dir (xs.map bl) us xs.length 1,0):=by
      rw[cA,if_neg (by rw[HVAL.out]; simp; omega),HCA.out,<-HXS.out,List.length_map]
     have HFIN:=ab hfin;clear hfin;have HUL:=ab hul;clear hul;go_wp2_with fail
     go_loopw [14,15] (fun g n wr2=> ∃(m:Nat) (ig:Bool),m<=xs.length/\g= .bool ig/\n= .int .i64 ((m:Int)+1)/\dr w1 w1.heap.size rs.length rs.length (us.map Prod.snd) wr2/\
       vk dir (xs.map bl) us m ig) (fun _ n _=>xs.length+1-(intOf n).toNat)
     case atStart=>exact⟨0,false,Nat.zero_le _,rfl,rfl,HI.out,fun _=>rfl,fun h=>by cases h⟩
     case round=>
      clear HI HBW;obtain⟨m,ig,hm,rfl,rfl,hI2,hf⟩:=hrel;have HI:=ab hI2;have HF:=ab hf;clear hI2 hf
      cases ig
      ·by_cases hlt:m<xs.length
       ·have e1:decide ((m:Int)+1<=(xs.length:Int))=true:=by simp; omega
        have hstep:bH dir (xs.map bl) us (xs.length-m) (m+1)=if dL dir (xs.map bl) (m+1) us false then true else bH dir (xs.map bl) us (xs.length-(m+1)) (m+1+1):=by
         rw[show xs.length-m=(xs.length-(m+1))+1 by omega,bH]
        have HSTEP:=ab hstep;clear hstep
        cases dir
        ·by_cases hml:m+1<xs.length
         ·have hml2:decide ((m:Int)+1<(xs.length:Int))=true:=by simp; omega
          have HD:=ab (show(false || decide (m+1<(xs.map bl).length))=true by simp[hml]);go_wp2_with fail
          go_loopw [14,72] (fun g i wr3=> ∃(k:Nat) (b:Bool),k<=rs.length/\g= .bool b/\i= .int .i64 k/\dr w1 w1.heap.size rs.length rs.length (us.map Prod.snd) wr3/\gc false (xs.map bl) us m k b) (fun _ i _=>rs.length-(intOf i).toNat)
          case atStart=>exact⟨0,false,Nat.zero_le _,rfl,rfl,HI.out,rfl⟩
          case round=>
           clear HI;obtain⟨k,b,hk,rfl,rfl,hI2,hin⟩:=hrel;have HI:=ab hI2;have HIN:=ab hin;clear hI2 hin
           by_cases hkl:k<rs.length
           ·obtain⟨r,hr⟩: ∃r,rs[k]? =some r:=⟨rs[k],by simp[hkl]⟩;obtain⟨cs,hu⟩: ∃cs,us[k]? =some (r,cs):=by
             have h1:=dA HCA.out;have hk2:k<us.length:=by rw[HUL.out]; exact hkl
             have h2:(us.map Prod.fst)[k]? =some r:=by rw[h1]; exact hr
             rw[List.getElem?_map,List.getElem?_eq_getElem hk2]at h2;refine⟨us[k].2, ?_⟩;rw[List.getElem?_eq_getElem hk2];simp only[Option.map_some,Option.some.injEq]at h2;rw[<-h2]
            obtain⟨hc1,hc2,-⟩:=gG (fO (dB HCA.out _ (List.mem_of_getElem? hu)));obtain⟨pv,hpc,hpv⟩:=HI.out.get (i:=k) (cs:=cs) (by rw[List.getElem?_map,hu]; rfl);obtain⟨pa,pcap,rfl,-,-,-⟩:=hpv.shape eh.len;have hbig:Below w.heap.size w wr:=af HB1.out HI.out.below;obtain⟨_,_,hv',_,_,hcells⟩:=(bt.below HV.out hbig).cells
            cases hv'
            obtain⟨b0,o0,rfl,c0,c1,c2,c3⟩:=hcells k r hr;have hst:dg (fun _=>True) wr (.slice ta xs.length tc) xs:=aD.weak (aD.below HTV.out (by omega) HI.out.below) (fun _ _=>trivial);obtain⟨tb,tof,rfl⟩:=iX hst hparts;have HST:=ab hst;have HU:=ab hu;have HC2:=ab hc2;have HPV:=ab hpv;have HH:=ab (gM false r cs (xs.map bl) (m+1) true HD.out)
            obtain⟨rp,rk,rd,rr⟩:=r;simp only at c0 c1 c2 c3;clear hr hu hc2 hcells hbig hpv hst;have hwb:Below wr.heap.size wr (wr.alloc (.cells #[.string ⟨rp.toArray⟩, .bool rk, .bool rd, .bool rr] 141)):=(Below.refl _ _).alloc (Nat.le_refl _) _;have HWB:=ab hwb;have hpc2:=hwb.cell (ay hpc);rw[hpc]at hpc2;have HST2:=ab (show dg (fun _=>True) (wr.alloc (.cells #[.string ⟨rp.toArray⟩, .bool rk, .bool rd, .bool rr] 141)) _ xs from aD.below HST.out (by omega) hwb)
            clear hwb;have k4: ∀w4:World,Below (wr.alloc (.cells #[.string ⟨rp.toArray⟩, .bool rk, .bool rd, .bool rr] 141)).heap.size (wr.alloc (.cells #[.string ⟨rp.toArray⟩, .bool rk, .bool rd, .bool rr] 141)) w4->w4.cell? ⟨wr.heap.size,1,none⟩=some (.bool rk):=fun w4 hb4=>(hb4.cell (p:=⟨wr.heap.size,1,none⟩) (by simp)).trans (by simp)
            have K4:=ab k4;clear k4
            cases rr
            ·cases hmb:fr cs (((xs.take (m+1)).drop m).map bl)
             all_goals (
              have HMB:=ab hmb;clear hmb
              cases rd
              all_goals (
               go_wp2_with (go_at_call 75; refine(cC cs ((xs.take (m+1)).drop m) (fun _=>True) _ _ _ (HPV.out.below HWB.out) (jV HST2.out hlt 1 (by omega)) (by omega) (by simp; omega) (fun c hc=>by have:=HC2.out c hc; omega) (fun x hx=>by have:=HX2.out x (List.mem_of_mem_take (List.mem_of_mem_drop hx)); omega)).mono ?_; rintro e w4 ⟨rfl,hb4⟩; rw[HMB.out]; have c4:=K4.out _ hb4; have HB4:=ab hb4; clear hb4)
               go_roundw
               case rel=>exact⟨k+1,_,by omega,rfl,by go_num,HI.out.grown (by first | exact af HWB.out HB4.out | exact HWB.out),by first | exact fE HIN.out HU.out (HH.out.trans (by simp[<-List.map_take,<-List.map_drop,HMB.out])) | exact il HIN.out HU.out (HH.out.trans (by simp[<-List.map_take,<-List.map_drop,HMB.out]))⟩
               case measure=>simp[intOf]; omega))
            ·cases hmb:fr cs ((xs.take (m+1)).map bl)
             all_goals (
              have HMB:=ab hmb;clear hmb
              cases rd
              all_goals (
               go_wp2_with (go_at_call 75; refine(cC cs (xs.take (m+1)) (fun _=>True) _ _ _ (HPV.out.below HWB.out) (jW HST2.out (by omega)) (by omega) (by simp; omega) (fun c hc=>by have:=HC2.out c hc; omega) (fun x hx=>by have:=HX2.out x (List.mem_of_mem_take hx); omega)).mono ?_; rintro e w4 ⟨rfl,hb4⟩; rw[HMB.out]; have c4:=K4.out _ hb4; have HB4:=ab hb4; clear hb4)
               go_roundw
               case rel=>exact⟨k+1,_,by omega,rfl,by go_num,HI.out.grown (by first | exact af HWB.out HB4.out | exact HWB.out),by first | exact fE HIN.out HU.out (HH.out.trans (by simp[<-List.map_take,HMB.out])) | exact il HIN.out HU.out (HH.out.trans (by simp[<-List.map_take,HMB.out]))⟩
               case measure=>simp[intOf]; omega))
           ·obtain rfl:k=rs.length:=by omega
            have hat:dL false (xs.map bl) (m+1) us false=b:=by
             have:=HIN.out;unfold gc at this;rw[this,<-HUL.out,List.drop_length]; rfl
            have HAT:=ab hat
            clear hat
            go_wp2_with fail
            go_roundw
            case rel=>
             refine⟨m+1,b,by omega,rfl,by go_num,HI.out,fun hb=> ?_,fun hb=> ?_⟩
             ·have:=HF.out.1 rfl;rw[this,List.length_map,HSTEP.out,HAT.out,hb]; rfl
             ·have:=HF.out.1 rfl;rw[this,List.length_map,HSTEP.out,HAT.out,hb]; rfl
            case measure=>simp[intOf]; omega
         ·have hml2:decide ((m:Int)+1<(xs.length:Int))=false:=by simp; omega
          have HD:=ab (show(false || decide (m+1<(xs.map bl).length))=false by simp[hml]);go_wp2_with fail
          go_loopw [14,72] (fun g i wr3=> ∃(k:Nat) (b:Bool),k<=rs.length/\g= .bool b/\i= .int .i64 k/\dr w1 w1.heap.size rs.length rs.length (us.map Prod.snd) wr3/\gc false (xs.map bl) us m k b) (fun _ i _=>rs.length-(intOf i).toNat)
          case atStart=>exact⟨0,false,Nat.zero_le _,rfl,rfl,HI.out,rfl⟩
          case round=>
           clear HI;obtain⟨k,b,hk,rfl,rfl,hI2,hin⟩:=hrel;have HI:=ab hI2;have HIN:=ab hin;clear hI2 hin
           by_cases hkl:k<rs.length
           ·obtain⟨r,hr⟩: ∃r,rs[k]? =some r:=⟨rs[k],by simp[hkl]⟩;obtain⟨cs,hu⟩: ∃cs,us[k]? =some (r,cs):=by
             have h1:=dA HCA.out;have hk2:k<us.length:=by rw[HUL.out]; exact hkl
             have h2:(us.map Prod.fst)[k]? =some r:=by rw[h1]; exact hr
             rw[List.getElem?_map,List.getElem?_eq_getElem hk2]at h2;refine⟨us[k].2, ?_⟩;rw[List.getElem?_eq_getElem hk2];simp only[Option.map_some,Option.some.injEq]at h2;rw[<-h2]
            obtain⟨hc1,hc2,-⟩:=gG (fO (dB HCA.out _ (List.mem_of_getElem? hu)));obtain⟨pv,hpc,hpv⟩:=HI.out.get (i:=k) (cs:=cs) (by rw[List.getElem?_map,hu]; rfl);obtain⟨pa,pcap,rfl,-,-,-⟩:=hpv.shape eh.len;have hbig:Below w.heap.size w wr:=af HB1.out HI.out.below;obtain⟨_,_,hv',_,_,hcells⟩:=(bt.below HV.out hbig).cells
            cases hv'
            obtain⟨b0,o0,rfl,c0,c1,c2,c3⟩:=hcells k r hr;have hst:dg (fun _=>True) wr (.slice ta xs.length tc) xs:=aD.weak (aD.below HTV.out (by omega) HI.out.below) (fun _ _=>trivial);obtain⟨tb,tof,rfl⟩:=iX hst hparts;have HST:=ab hst;have HU:=ab hu;have HC2:=ab hc2;have HPV:=ab hpv;have HH:=ab (gM false r cs (xs.map bl) (m+1) false HD.out)
            obtain⟨rp,rk,rd,rr⟩:=r;simp only at c0 c1 c2 c3;clear hr hu hc2 hcells hbig hpv hst;have hwb:Below wr.heap.size wr (wr.alloc (.cells #[.string ⟨rp.toArray⟩, .bool rk, .bool rd, .bool rr] 141)):=(Below.refl _ _).alloc (Nat.le_refl _) _;have HWB:=ab hwb;have hpc2:=hwb.cell (ay hpc);rw[hpc]at hpc2;have HST2:=ab (show dg (fun _=>True) (wr.alloc (.cells #[.string ⟨rp.toArray⟩, .bool rk, .bool rd, .bool rr] 141)) _ xs from aD.below HST.out (by omega) hwb)
            clear hwb;have k4: ∀w4:World,Below (wr.alloc (.cells #[.string ⟨rp.toArray⟩, .bool rk, .bool rd, .bool rr] 141)).heap.size (wr.alloc (.cells #[.string ⟨rp.toArray⟩, .bool rk, .bool rd, .bool rr] 141)) w4->w4.cell? ⟨wr.heap.size,1,none⟩=some (.bool rk):=fun w4 hb4=>(hb4.cell (p:=⟨wr.heap.size,1,none⟩) (by simp)).trans (by simp)
            have K4:=ab k4;clear k4
            cases rr
            ·cases hmb:fr cs (((xs.take (m+1)).drop m).map bl)
             all_goals (
              have HMB:=ab hmb;clear hmb
              cases rd
              all_goals (
               go_wp2_with (go_at_call 75; refine(cC cs ((xs.take (m+1)).drop m) (fun _=>True) _ _ _ (HPV.out.below HWB.out) (jV HST2.out hlt 1 (by omega)) (by omega) (by simp; omega) (fun c hc=>by have:=HC2.out c hc; omega) (fun x hx=>by have:=HX2.out x (List.mem_of_mem_take (List.mem_of_mem_drop hx)); omega)).mono ?_; rintro e w4 ⟨rfl,hb4⟩; rw[HMB.out]; have c4:=K4.out _ hb4; have HB4:=ab hb4; clear hb4)
               go_roundw
               case rel=>exact⟨k+1,_,by omega,rfl,by go_num,HI.out.grown (by first | exact af HWB.out HB4.out | exact HWB.out),by first | exact fE HIN.out HU.out (HH.out.trans (by simp[<-List.map_take,<-List.map_drop,HMB.out])) | exact il HIN.out HU.out (HH.out.trans (by simp[<-List.map_take,<-List.map_drop,HMB.out]))⟩
               case measure=>simp[intOf]; omega))
            ·cases hmb:fr cs ((xs.take (m+1)).map bl)
             all_goals (
              have HMB:=ab hmb;clear hmb
              cases rd
              all_goals (
               go_wp2_with (go_at_call 75; refine(cC cs (xs.take (m+1)) (fun _=>True) _ _ _ (HPV.out.below HWB.out) (jW HST2.out (by omega)) (by omega) (by simp; omega) (fun c hc=>by have:=HC2.out c hc; omega) (fun x hx=>by have:=HX2.out x (List.mem_of_mem_take hx); omega)).mono ?_; rintro e w4 ⟨rfl,hb4⟩; rw[HMB.out]; have c4:=K4.out _ hb4; have HB4:=ab hb4; clear hb4)
               go_roundw
               case rel=>exact⟨k+1,_,by omega,rfl,by go_num,HI.out.grown (by first | exact af HWB.out HB4.out | exact HWB.out),by first | exact fE HIN.out HU.out (HH.out.trans (by simp[<-List.map_take,HMB.out])) | exact il HIN.out HU.out (HH.out.trans (by simp[<-List.map_take,HMB.out]))⟩
               case measure=>simp[intOf]; omega))
           ·obtain rfl:k=rs.length:=by omega
            have hat:dL false (xs.map bl) (m+1) us false=b:=by
             have:=HIN.out;unfold gc at this;rw[this,<-HUL.out,List.drop_length]; rfl
            have HAT:=ab hat
            clear hat
            go_wp2_with fail
            go_roundw
            case rel=>
             refine⟨m+1,b,by omega,rfl,by go_num,HI.out,fun hb=> ?_,fun hb=> ?_⟩
             ·have:=HF.out.1 rfl;rw[this,List.length_map,HSTEP.out,HAT.out,hb]; rfl
             ·have:=HF.out.1 rfl;rw[this,List.length_map,HSTEP.out,HAT.out,hb]; rfl
            case measure=>simp[intOf]; omega
        ·have HD:=ab (show(true || decide (m+1<(xs.map bl).length))=true by simp);go_wp2_with fail
         go_loopw [14,72] (fun g i wr3=> ∃(k:Nat) (b:Bool),k<=rs.length/\g= .bool b/\i= .int .i64 k/\dr w1 w1.heap.size rs.length rs.length (us.map Prod.snd) wr3/\gc true (xs.map bl) us m k b) (fun _ i _=>rs.length-(intOf i).toNat)
         case atStart=>exact⟨0,false,Nat.zero_le _,rfl,rfl,HI.out,rfl⟩
         case round=>
          clear HI;obtain⟨k,b,hk,rfl,rfl,hI2,hin⟩:=hrel;have HI:=ab hI2;have HIN:=ab hin;clear hI2 hin
          by_cases hkl:k<rs.length
          ·obtain⟨r,hr⟩: ∃r,rs[k]? =some r:=⟨rs[k],by simp[hkl]⟩;obtain⟨cs,hu⟩: ∃cs,us[k]? =some (r,cs):=by
            have h1:=dA HCA.out;have hk2:k<us.length:=by rw[HUL.out]; exact hkl
            have h2:(us.map Prod.fst)[k]? =some r:=by rw[h1]; exact hr
            rw[List.getElem?_map,List.getElem?_eq_getElem hk2]at h2;refine⟨us[k].2, ?_⟩;rw[List.getElem?_eq_getElem hk2];simp only[Option.map_some,Option.some.injEq]at h2;rw[<-h2]
           obtain⟨hc1,hc2,-⟩:=gG (fO (dB HCA.out _ (List.mem_of_getElem? hu)));obtain⟨pv,hpc,hpv⟩:=HI.out.get (i:=k) (cs:=cs) (by rw[List.getElem?_map,hu]; rfl);obtain⟨pa,pcap,rfl,-,-,-⟩:=hpv.shape eh.len;have hbig:Below w.heap.size w wr:=af HB1.out HI.out.below;obtain⟨_,_,hv',_,_,hcells⟩:=(bt.below HV.out hbig).cells
           cases hv'
           obtain⟨b0,o0,rfl,c0,c1,c2,c3⟩:=hcells k r hr;have hst:dg (fun _=>True) wr (.slice ta xs.length tc) xs:=aD.weak (aD.below HTV.out (by omega) HI.out.below) (fun _ _=>trivial);obtain⟨tb,tof,rfl⟩:=iX hst hparts;have HST:=ab hst;have HU:=ab hu;have HC2:=ab hc2;have HPV:=ab hpv;have HH:=ab (gM true r cs (xs.map bl) (m+1) true HD.out)
           obtain⟨rp,rk,rd,rr⟩:=r;simp only at c0 c1 c2 c3;clear hr hu hc2 hcells hbig hpv hst;have hwb:Below wr.heap.size wr (wr.alloc (.cells #[.string ⟨rp.toArray⟩, .bool rk, .bool rd, .bool rr] 141)):=(Below.refl _ _).alloc (Nat.le_refl _) _;have HWB:=ab hwb;have hpc2:=hwb.cell (ay hpc);rw[hpc]at hpc2;have HST2:=ab (show dg (fun _=>True) (wr.alloc (.cells #[.string ⟨rp.toArray⟩, .bool rk, .bool rd, .bool rr] 141)) _ xs from aD.below HST.out (by omega) hwb)
           clear hwb;have k4: ∀w4:World,Below (wr.alloc (.cells #[.string ⟨rp.toArray⟩, .bool rk, .bool rd, .bool rr] 141)).heap.size (wr.alloc (.cells #[.string ⟨rp.toArray⟩, .bool rk, .bool rd, .bool rr] 141)) w4->w4.cell? ⟨wr.heap.size,1,none⟩=some (.bool rk):=fun w4 hb4=>(hb4.cell (p:=⟨wr.heap.size,1,none⟩) (by simp)).trans (by simp)
           have K4:=ab k4;clear k4
           cases rr
           ·cases hmb:fr cs (((xs.take (m+1)).drop m).map bl)
            all_goals (
             have HMB:=ab hmb;clear hmb
             cases rd
             all_goals (
              go_wp2_with (go_at_call 75; refine(cC cs ((xs.take (m+1)).drop m) (fun _=>True) _ _ _ (HPV.out.below HWB.out) (jV HST2.out hlt 1 (by omega)) (by omega) (by simp; omega) (fun c hc=>by have:=HC2.out c hc; omega) (fun x hx=>by have:=HX2.out x (List.mem_of_mem_take (List.mem_of_mem_drop hx)); omega)).mono ?_; rintro e w4 ⟨rfl,hb4⟩; rw[HMB.out]; have c4:=K4.out _ hb4; have HB4:=ab hb4; clear hb4)
              go_roundw
              case rel=>exact⟨k+1,_,by omega,rfl,by go_num,HI.out.grown (by first | exact af HWB.out HB4.out | exact HWB.out),by first | exact fE HIN.out HU.out (HH.out.trans (by simp[<-List.map_take,<-List.map_drop,HMB.out])) | exact il HIN.out HU.out (HH.out.trans (by simp[<-List.map_take,<-List.map_drop,HMB.out]))⟩
              case measure=>simp[intOf]; omega))
           ·cases hmb:fr cs ((xs.take (m+1)).map bl)
            all_goals (
             have HMB:=ab hmb;clear hmb
             cases rd
             all_goals (
              go_wp2_with (go_at_call 75; refine(cC cs (xs.take (m+1)) (fun _=>True) _ _ _ (HPV.out.below HWB.out) (jW HST2.out (by omega)) (by omega) (by simp; omega) (fun c hc=>by have:=HC2.out c hc; omega) (fun x hx=>by have:=HX2.out x (List.mem_of_mem_take hx); omega)).mono ?_; rintro e w4 ⟨rfl,hb4⟩; rw[HMB.out]; have c4:=K4.out _ hb4; have HB4:=ab hb4; clear hb4)
              go_roundw
              case rel=>exact⟨k+1,_,by omega,rfl,by go_num,HI.out.grown (by first | exact af HWB.out HB4.out | exact HWB.out),by first | exact fE HIN.out HU.out (HH.out.trans (by simp[<-List.map_take,HMB.out])) | exact il HIN.out HU.out (HH.out.trans (by simp[<-List.map_take,HMB.out]))⟩
              case measure=>simp[intOf]; omega))
          ·obtain rfl:k=rs.length:=by omega
           have hat:dL true (xs.map bl) (m+1) us false=b:=by
            have:=HIN.out;unfold gc at this;rw[this,<-HUL.out,List.drop_length]; rfl
           have HAT:=ab hat
           clear hat
           go_wp2_with fail
           go_roundw
           case rel=>
            refine⟨m+1,b,by omega,rfl,by go_num,HI.out,fun hb=> ?_,fun hb=> ?_⟩
            ·have:=HF.out.1 rfl;rw[this,List.length_map,HSTEP.out,HAT.out,hb]; rfl
            ·have:=HF.out.1 rfl;rw[this,List.length_map,HSTEP.out,HAT.out,hb]; rfl
           case measure=>simp[intOf]; omega
       ·have e1:decide ((m:Int)+1<=(xs.length:Int))=false:=by simp; omega
        go_wp2_with fail
        go_ret2
        refine⟨?_,af HB1.out HI.out.below⟩;have:=HF.out.1 rfl;rw[List.length_map,show xs.length-m=0 by omega]at this;rw[HFIN.out,this]; rfl
      ·by_cases hlt:m<xs.length
       ·have e1:decide ((m:Int)+1<=(xs.length:Int))=true:=by simp; omega
        go_wp2_with fail
        go_ret2
        exact⟨by rw[HFIN.out,yP HF.out]; rfl,af HB1.out HI.out.below⟩
       ·have e1:decide ((m:Int)+1<=(xs.length:Int))=false:=by simp; omega
        go_wp2_with fail
        go_ret2
        exact⟨by rw[HFIN.out,yP HF.out]; rfl,af HB1.out HI.out.below⟩
  ·have h256':256<rs.length:=by omega
   go_wp2_with fail
   go_ret2
   exact⟨by rw[cA,if_pos (.inr h256')]; rfl,HB1.out⟩
 ·have HB1:=ab hb1;have HVAL:=ab hval;clear hb1 hval;go_wp2_with fail
  go_ret2
  exact⟨by rw[cA,if_pos (.inl HVAL.out)]; rfl,HB1.out⟩
def qt :Value:= .agg #[.string ⟨#[]⟩, .bool false, .bool false, .bool false]
def dT (o:Option aF):Value:=match o with
 | some r=> .tuple #[nE r, .bool true]
 | none=> .tuple #[qt, .bool false]
def zL (s p:ByteArray) (w:World) (e:Ending) (w':World):Prop:= ∃s1 b,e= .returned (.tuple #[.string s1, .bool b])/\bl s1=Lib.trimPrefix (bl s) (bl p)/\b=Lib.hasPrefix (bl s) (bl p)/\w=w'
def zM (s p:ByteArray) (w:World) (e:Ending) (w':World):Prop:= ∃s1 b,e= .returned (.tuple #[.string s1, .bool b])/\bl s1=Lib.trimSuffix (bl s) (bl p)/\b=Lib.hasSuffix (bl s) (bl p)/\w=w'
theorem jl (s p:ByteArray) (w:World):Calls Tryz.prog 109 #[.string s, .string p] w (zL s p w):=
 (mD s p w).mono fun _ _ ⟨he,hw⟩=>⟨_,_,he,ki _,rfl,hw⟩
theorem oe (s p:ByteArray) (w:World) (hs:s.size<=9223372036854775807):Calls Tryz.prog 110 #[.string s, .string p] w (zM s p w):=
 (mE s p w hs).mono fun _ _ ⟨he,hw⟩=>⟨_,_,he,ki _,rfl,hw⟩
theorem gT (l p:List UInt8):(Lib.trimPrefix l p).length<=l.length:=by
 unfold Lib.trimPrefix; split<;> simp
theorem mq (l p:List UInt8):(Lib.trimSuffix l p).length<=l.length:=by
 unfold Lib.trimSuffix; split<;> simp<;> omega
theorem iH (s:ByteArray) (w:World) (he:iz w) (hs:s.size<=65536):
  Calls Tryz.prog 72 #[.string s] w fun e w'=>e= .returned (dT (bF (bl s)))/\Below w.heap.size w w':=by
 have HE:=ab he;clear he
 go_enter Tryz.func72,Tryz.ntmps72
 go_wp2_with fail;refine(jl s ⟨#[33]⟩ _).mono ?_;rintro e w' ⟨s1,b1,rfl,h1,h1',rfl⟩;have H1:=ab h1;have H1':=ab h1';have hl1:s1.size<=65536:=by have:=gT (bl s) (bl ⟨#[33]⟩); rw[<-h1,<-aJ,<-aJ]at this; omega
 clear h1 h1';go_wp2_with fail;refine(jl s1 ⟨#[47]⟩ _).mono ?_;rintro e w' ⟨s2,b2,rfl,h2,h2',rfl⟩;have H2:=ab h2;have H2':=ab h2';have hl2:s2.size<=65536:=by have:=gT (bl s1) (bl ⟨#[47]⟩); rw[<-h2,<-aJ,<-aJ]at this; omega
 clear h2 h2';go_wp2_with fail;refine(oe s2 ⟨#[47]⟩ _ (by omega)).mono ?_;rintro e w' ⟨s3,b3,rfl,h3,h3',rfl⟩;have H3:=ab h3;have H3':=ab h3';have hl3:s3.size<=65536:=by have:=mq (bl s2) (bl ⟨#[47]⟩); rw[<-h3,<-aJ,<-aJ]at this; omega
 clear h3 h3';have hru:nD (bl s)=⟨bl s3,b1,b3,b2 || (bl s3).contains 47⟩:=by
  rw[H3.out,H1'.out,H3'.out,H2'.out,H2.out,H1.out]; rfl
 cases b2
 ·rw[Bool.false_or]at hru
  cases hct:(bl s3).contains 47
  ·have HCT:=ab hct;rw[hct]at hru;have HRU:=ab hru;clear hct hru;go_wp2_with fail;refine(eo s3 47 false _ HCT.out).mono ?_;rintro e w' ⟨rfl,rfl⟩;go_wp2_with fail;have hcp:aK (nD (bl s))=aK ⟨bl s3,b1,b3,false⟩:=by rw[HRU.out]
   have HCP:=ab hcp;clear hcp;have hb0:Below w.heap.size w ((w.alloc (.cells #[.string ⟨#[]⟩, .bool false, .bool false, .bool false] 141)).alloc (.cells #[.string s3, .bool b1, .bool b3, .bool false] 141)):=((Below.refl _ _).alloc (Nat.le_refl _) _).alloc (by simp) _;have HB0:=ab hb0;clear hb0
   cases hcs:aK ⟨bl s3,b1,b3,false⟩with
   | none=>
    have HCS:=ab hcs;clear hcs;refine(cT s3 b1 b3 false _ (HE.out.below HB0.out) (by omega)).mono ?_;rw[HCS.out];rintro e w3 ⟨rfl,hb3⟩;have hres:w3.heap[w.heap.size]? =some (.cells #[.string ⟨#[]⟩, .bool false, .bool false, .bool false] 141 (0,0)):=by
     rw[hb3.block _ (by simp; omega),Below.heap_alloc _ _ _ (by simp)]; exact heap_alloc_new w _
    have hb3':=af HB0.out hb3;have HB3:=ab hb3';clear hb3 hb3';have r0:w3.cell? ⟨w.heap.size,0,none⟩=some (.string ⟨#[]⟩):=by rw[aa hres]; rfl
    have r1:w3.cell? ⟨w.heap.size,1,none⟩=some (.bool false):=by rw[aa hres]; rfl
    have r2:w3.cell? ⟨w.heap.size,2,none⟩=some (.bool false):=by rw[aa hres]; rfl
    have r3:w3.cell? ⟨w.heap.size,3,none⟩=some (.bool false):=by rw[aa hres]; rfl
    have f0:w3.frozen? ⟨w.heap.size,0,none⟩=false:=ag hres;have f1:w3.frozen? ⟨w.heap.size,1,none⟩=false:=ag hres;have f2:w3.frozen? ⟨w.heap.size,2,none⟩=false:=ag hres;have f3:w3.frozen? ⟨w.heap.size,3,none⟩=false:=ag hres;have HR:=ab hres;clear hres;go_wp2_with fail;obtain⟨W,hW⟩: ∃W,W=((((w3.setCell ⟨w.heap.size,0,none⟩ (.string ⟨#[]⟩)).setCell ⟨w.heap.size,1,none⟩ (.bool false)).setCell ⟨w.heap.size,2,none⟩ (.bool false)).setCell ⟨w.heap.size,3,none⟩ (.bool false)):=⟨_,rfl⟩
    rw[<-hW];have h4:=gP HR.out (.string ⟨#[]⟩) (.bool false) (.bool false) (.bool false);rw[<-hW]at h4;obtain⟨h41,h42⟩:=h4;have m0:W.cell? ⟨w.heap.size,0,none⟩=some (.string ⟨#[]⟩):=by rw[aa h41]; rfl
    have m1:W.cell? ⟨w.heap.size,1,none⟩=some (.bool false):=by rw[aa h41]; rfl
    have m2:W.cell? ⟨w.heap.size,2,none⟩=some (.bool false):=by rw[aa h41]; rfl
    have m3:W.cell? ⟨w.heap.size,3,none⟩=some (.bool false):=by rw[aa h41]; rfl
    clear hW;refine bodyPost_ret (v:= .tuple #[.agg #[.string ⟨#[]⟩, .bool false, .bool false, .bool false], .bool false]) (by simp[results,Tryz.results72,go_sem,m0,m1,m2,m3]) rfl ?_;refine⟨?_,HB3.out.grown h42 HB3.out.size (fun k hk=>by cases hk; exact Nat.le_refl _)⟩;rw[bF,HCP.out,HCS.out]; rfl
   | some cs=>
    have HCS:=ab hcs;clear hcs;refine(cT s3 b1 b3 false _ (HE.out.below HB0.out) (by omega)).mono ?_;rw[HCS.out];rintro e w3 ⟨pv,rfl,hpv,hb3⟩;clear hpv;have hres:w3.heap[w.heap.size]? =some (.cells #[.string ⟨#[]⟩, .bool false, .bool false, .bool false] 141 (0,0)):=by
     rw[hb3.block _ (by simp; omega),Below.heap_alloc _ _ _ (by simp)]; exact heap_alloc_new w _
    have hbox:w3.heap[w.heap.size+1]? =some (.cells #[.string s3, .bool b1, .bool b3, .bool false] 141 (0,0)):=by
     rw[hb3.block _ (by simp)];have:=heap_alloc_new (w.alloc (.cells #[.string ⟨#[]⟩, .bool false, .bool false, .bool false] 141)) (.cells #[.string s3, .bool b1, .bool b3, .bool false] 141)
     simpa using this
    have n0:w3.cell? ⟨w.heap.size+1,0,none⟩=some (.string s3):=by rw[aa hbox]; rfl
    have n1:w3.cell? ⟨w.heap.size+1,1,none⟩=some (.bool b1):=by rw[aa hbox]; rfl
    have n2:w3.cell? ⟨w.heap.size+1,2,none⟩=some (.bool b3):=by rw[aa hbox]; rfl
    have n3:w3.cell? ⟨w.heap.size+1,3,none⟩=some (.bool false):=by rw[aa hbox]; rfl
    clear hbox;have hb3':=af HB0.out hb3;have HB3:=ab hb3';clear hb3 hb3';have r0:w3.cell? ⟨w.heap.size,0,none⟩=some (.string ⟨#[]⟩):=by rw[aa hres]; rfl
    have r1:w3.cell? ⟨w.heap.size,1,none⟩=some (.bool false):=by rw[aa hres]; rfl
    have r2:w3.cell? ⟨w.heap.size,2,none⟩=some (.bool false):=by rw[aa hres]; rfl
    have r3:w3.cell? ⟨w.heap.size,3,none⟩=some (.bool false):=by rw[aa hres]; rfl
    have f0:w3.frozen? ⟨w.heap.size,0,none⟩=false:=ag hres;have f1:w3.frozen? ⟨w.heap.size,1,none⟩=false:=ag hres;have f2:w3.frozen? ⟨w.heap.size,2,none⟩=false:=ag hres;have f3:w3.frozen? ⟨w.heap.size,3,none⟩=false:=ag hres;have HR:=ab hres;clear hres;go_wp2_with fail;obtain⟨W,hW⟩: ∃W,W=((((w3.setCell ⟨w.heap.size,0,none⟩ (.string s3)).setCell ⟨w.heap.size,1,none⟩ (.bool b1)).setCell ⟨w.heap.size,2,none⟩ (.bool b3)).setCell ⟨w.heap.size,3,none⟩ (.bool false)):=⟨_,rfl⟩
    rw[<-hW];have h4:=gP HR.out (.string s3) (.bool b1) (.bool b3) (.bool false);rw[<-hW]at h4;obtain⟨h41,h42⟩:=h4;have m0:W.cell? ⟨w.heap.size,0,none⟩=some (.string s3):=by rw[aa h41]; rfl
    have m1:W.cell? ⟨w.heap.size,1,none⟩=some (.bool b1):=by rw[aa h41]; rfl
    have m2:W.cell? ⟨w.heap.size,2,none⟩=some (.bool b3):=by rw[aa h41]; rfl
    have m3:W.cell? ⟨w.heap.size,3,none⟩=some (.bool false):=by rw[aa h41]; rfl
    clear hW;refine bodyPost_ret (v:= .tuple #[.agg #[.string s3, .bool b1, .bool b3, .bool false], .bool true]) (by simp[results,Tryz.results72,go_sem,m0,m1,m2,m3]) rfl ?_;refine⟨?_,HB3.out.grown h42 HB3.out.size (fun k hk=>by cases hk; exact Nat.le_refl _)⟩;rw[bF,HCP.out,HCS.out];simp only[Option.isSome_some,if_true,HRU.out,dT,nE,pL]
  ·have HCT:=ab hct;rw[hct]at hru;have HRU:=ab hru;clear hct hru;go_wp2_with fail;refine(eo s3 47 true _ HCT.out).mono ?_;rintro e w' ⟨rfl,rfl⟩;go_wp2_with fail;have hcp:aK (nD (bl s))=aK ⟨bl s3,b1,b3,true⟩:=by rw[HRU.out]
   have HCP:=ab hcp;clear hcp;have hb0:Below w.heap.size w ((w.alloc (.cells #[.string ⟨#[]⟩, .bool false, .bool false, .bool false] 141)).alloc (.cells #[.string s3, .bool b1, .bool b3, .bool true] 141)):=((Below.refl _ _).alloc (Nat.le_refl _) _).alloc (by simp) _;have HB0:=ab hb0;clear hb0
   cases hcs:aK ⟨bl s3,b1,b3,true⟩with
   | none=>
    have HCS:=ab hcs;clear hcs;refine(cT s3 b1 b3 true _ (HE.out.below HB0.out) (by omega)).mono ?_;rw[HCS.out];rintro e w3 ⟨rfl,hb3⟩;have hres:w3.heap[w.heap.size]? =some (.cells #[.string ⟨#[]⟩, .bool false, .bool false, .bool false] 141 (0,0)):=by
     rw[hb3.block _ (by simp; omega),Below.heap_alloc _ _ _ (by simp)]; exact heap_alloc_new w _
    have hb3':=af HB0.out hb3;have HB3:=ab hb3';clear hb3 hb3';have r0:w3.cell? ⟨w.heap.size,0,none⟩=some (.string ⟨#[]⟩):=by rw[aa hres]; rfl
    have r1:w3.cell? ⟨w.heap.size,1,none⟩=some (.bool false):=by rw[aa hres]; rfl
    have r2:w3.cell? ⟨w.heap.size,2,none⟩=some (.bool false):=by rw[aa hres]; rfl
    have r3:w3.cell? ⟨w.heap.size,3,none⟩=some (.bool false):=by rw[aa hres]; rfl
    have f0:w3.frozen? ⟨w.heap.size,0,none⟩=false:=ag hres;have f1:w3.frozen? ⟨w.heap.size,1,none⟩=false:=ag hres;have f2:w3.frozen? ⟨w.heap.size,2,none⟩=false:=ag hres;have f3:w3.frozen? ⟨w.heap.size,3,none⟩=false:=ag hres;have HR:=ab hres;clear hres;go_wp2_with fail;obtain⟨W,hW⟩: ∃W,W=((((w3.setCell ⟨w.heap.size,0,none⟩ (.string ⟨#[]⟩)).setCell ⟨w.heap.size,1,none⟩ (.bool false)).setCell ⟨w.heap.size,2,none⟩ (.bool false)).setCell ⟨w.heap.size,3,none⟩ (.bool false)):=⟨_,rfl⟩
    rw[<-hW];have h4:=gP HR.out (.string ⟨#[]⟩) (.bool false) (.bool false) (.bool false);rw[<-hW]at h4;obtain⟨h41,h42⟩:=h4;have m0:W.cell? ⟨w.heap.size,0,none⟩=some (.string ⟨#[]⟩):=by rw[aa h41]; rfl
    have m1:W.cell? ⟨w.heap.size,1,none⟩=some (.bool false):=by rw[aa h41]; rfl
    have m2:W.cell? ⟨w.heap.size,2,none⟩=some (.bool false):=by rw[aa h41]; rfl
    have m3:W.cell? ⟨w.heap.size,3,none⟩=some (.bool false):=by rw[aa h41]; rfl
    clear hW;refine bodyPost_ret (v:= .tuple #[.agg #[.string ⟨#[]⟩, .bool false, .bool false, .bool false], .bool false]) (by simp[results,Tryz.results72,go_sem,m0,m1,m2,m3]) rfl ?_;refine⟨?_,HB3.out.grown h42 HB3.out.size (fun k hk=>by cases hk; exact Nat.le_refl _)⟩;rw[bF,HCP.out,HCS.out]; rfl
   | some cs=>
    have HCS:=ab hcs;clear hcs;refine(cT s3 b1 b3 true _ (HE.out.below HB0.out) (by omega)).mono ?_;rw[HCS.out];rintro e w3 ⟨pv,rfl,hpv,hb3⟩;clear hpv;have hres:w3.heap[w.heap.size]? =some (.cells #[.string ⟨#[]⟩, .bool false, .bool false, .bool false] 141 (0,0)):=by
     rw[hb3.block _ (by simp; omega),Below.heap_alloc _ _ _ (by simp)]; exact heap_alloc_new w _
    have hbox:w3.heap[w.heap.size+1]? =some (.cells #[.string s3, .bool b1, .bool b3, .bool true] 141 (0,0)):=by
     rw[hb3.block _ (by simp)];have:=heap_alloc_new (w.alloc (.cells #[.string ⟨#[]⟩, .bool false, .bool false, .bool false] 141)) (.cells #[.string s3, .bool b1, .bool b3, .bool true] 141)
     simpa using this
    have n0:w3.cell? ⟨w.heap.size+1,0,none⟩=some (.string s3):=by rw[aa hbox]; rfl
    have n1:w3.cell? ⟨w.heap.size+1,1,none⟩=some (.bool b1):=by rw[aa hbox]; rfl
    have n2:w3.cell? ⟨w.heap.size+1,2,none⟩=some (.bool b3):=by rw[aa hbox]; rfl
    have n3:w3.cell? ⟨w.heap.size+1,3,none⟩=some (.bool true):=by rw[aa hbox]; rfl
    clear hbox;have hb3':=af HB0.out hb3;have HB3:=ab hb3';clear hb3 hb3';have r0:w3.cell? ⟨w.heap.size,0,none⟩=some (.string ⟨#[]⟩):=by rw[aa hres]; rfl
    have r1:w3.cell? ⟨w.heap.size,1,none⟩=some (.bool false):=by rw[aa hres]; rfl
    have r2:w3.cell? ⟨w.heap.size,2,none⟩=some (.bool false):=by rw[aa hres]; rfl
    have r3:w3.cell? ⟨w.heap.size,3,none⟩=some (.bool false):=by rw[aa hres]; rfl
    have f0:w3.frozen? ⟨w.heap.size,0,none⟩=false:=ag hres;have f1:w3.frozen? ⟨w.heap.size,1,none⟩=false:=ag hres;have f2:w3.frozen? ⟨w.heap.size,2,none⟩=false:=ag hres;have f3:w3.frozen? ⟨w.heap.size,3,none⟩=false:=ag hres;have HR:=ab hres;clear hres;go_wp2_with fail;obtain⟨W,hW⟩: ∃W,W=((((w3.setCell ⟨w.heap.size,0,none⟩ (.string s3)).setCell ⟨w.heap.size,1,none⟩ (.bool b1)).setCell ⟨w.heap.size,2,none⟩ (.bool b3)).setCell ⟨w.heap.size,3,none⟩ (.bool true)):=⟨_,rfl⟩
    rw[<-hW];have h4:=gP HR.out (.string s3) (.bool b1) (.bool b3) (.bool true);rw[<-hW]at h4;obtain⟨h41,h42⟩:=h4;have m0:W.cell? ⟨w.heap.size,0,none⟩=some (.string s3):=by rw[aa h41]; rfl
    have m1:W.cell? ⟨w.heap.size,1,none⟩=some (.bool b1):=by rw[aa h41]; rfl
    have m2:W.cell? ⟨w.heap.size,2,none⟩=some (.bool b3):=by rw[aa h41]; rfl
    have m3:W.cell? ⟨w.heap.size,3,none⟩=some (.bool true):=by rw[aa h41]; rfl
    clear hW;refine bodyPost_ret (v:= .tuple #[.agg #[.string s3, .bool b1, .bool b3, .bool true], .bool true]) (by simp[results,Tryz.results72,go_sem,m0,m1,m2,m3]) rfl ?_;refine⟨?_,HB3.out.grown h42 HB3.out.size (fun k hk=>by cases hk; exact Nat.le_refl _)⟩;rw[bF,HCP.out,HCS.out];simp only[Option.isSome_some,if_true,HRU.out,dT,nE,pL]
 ·rw[Bool.true_or]at hru;have HRU:=ab hru;clear hru;go_wp2_with fail;have hcp:aK (nD (bl s))=aK ⟨bl s3,b1,b3,true⟩:=by rw[HRU.out]
  have HCP:=ab hcp;clear hcp;have hb0:Below w.heap.size w ((w.alloc (.cells #[.string ⟨#[]⟩, .bool false, .bool false, .bool false] 141)).alloc (.cells #[.string s3, .bool b1, .bool b3, .bool true] 141)):=((Below.refl _ _).alloc (Nat.le_refl _) _).alloc (by simp) _;have HB0:=ab hb0;clear hb0
  cases hcs:aK ⟨bl s3,b1,b3,true⟩with
  | none=>
   have HCS:=ab hcs;clear hcs;refine(cT s3 b1 b3 true _ (HE.out.below HB0.out) (by omega)).mono ?_;rw[HCS.out];rintro e w3 ⟨rfl,hb3⟩;have hres:w3.heap[w.heap.size]? =some (.cells #[.string ⟨#[]⟩, .bool false, .bool false, .bool false] 141 (0,0)):=by
    rw[hb3.block _ (by simp; omega),Below.heap_alloc _ _ _ (by simp)]; exact heap_alloc_new w _
   have hb3':=af HB0.out hb3;have HB3:=ab hb3';clear hb3 hb3';have r0:w3.cell? ⟨w.heap.size,0,none⟩=some (.string ⟨#[]⟩):=by rw[aa hres]; rfl
   have r1:w3.cell? ⟨w.heap.size,1,none⟩=some (.bool false):=by rw[aa hres]; rfl
   have r2:w3.cell? ⟨w.heap.size,2,none⟩=some (.bool false):=by rw[aa hres]; rfl
   have r3:w3.cell? ⟨w.heap.size,3,none⟩=some (.bool false):=by rw[aa hres]; rfl
   have f0:w3.frozen? ⟨w.heap.size,0,none⟩=false:=ag hres;have f1:w3.frozen? ⟨w.heap.size,1,none⟩=false:=ag hres;have f2:w3.frozen? ⟨w.heap.size,2,none⟩=false:=ag hres;have f3:w3.frozen? ⟨w.heap.size,3,none⟩=false:=ag hres;have HR:=ab hres;clear hres;go_wp2_with fail;obtain⟨W,hW⟩: ∃W,W=((((w3.setCell ⟨w.heap.size,0,none⟩ (.string ⟨#[]⟩)).setCell ⟨w.heap.size,1,none⟩ (.bool false)).setCell ⟨w.heap.size,2,none⟩ (.bool false)).setCell ⟨w.heap.size,3,none⟩ (.bool false)):=⟨_,rfl⟩
   rw[<-hW];have h4:=gP HR.out (.string ⟨#[]⟩) (.bool false) (.bool false) (.bool false);rw[<-hW]at h4;obtain⟨h41,h42⟩:=h4;have m0:W.cell? ⟨w.heap.size,0,none⟩=some (.string ⟨#[]⟩):=by rw[aa h41]; rfl
   have m1:W.cell? ⟨w.heap.size,1,none⟩=some (.bool false):=by rw[aa h41]; rfl
   have m2:W.cell? ⟨w.heap.size,2,none⟩=some (.bool false):=by rw[aa h41]; rfl
   have m3:W.cell? ⟨w.heap.size,3,none⟩=some (.bool false):=by rw[aa h41]; rfl
   clear hW;refine bodyPost_ret (v:= .tuple #[.agg #[.string ⟨#[]⟩, .bool false, .bool false, .bool false], .bool false]) (by simp[results,Tryz.results72,go_sem,m0,m1,m2,m3]) rfl ?_;refine⟨?_,HB3.out.grown h42 HB3.out.size (fun k hk=>by cases hk; exact Nat.le_refl _)⟩;rw[bF,HCP.out,HCS.out]; rfl
  | some cs=>
   have HCS:=ab hcs;clear hcs;refine(cT s3 b1 b3 true _ (HE.out.below HB0.out) (by omega)).mono ?_;rw[HCS.out];rintro e w3 ⟨pv,rfl,hpv,hb3⟩;clear hpv;have hres:w3.heap[w.heap.size]? =some (.cells #[.string ⟨#[]⟩, .bool false, .bool false, .bool false] 141 (0,0)):=by
    rw[hb3.block _ (by simp; omega),Below.heap_alloc _ _ _ (by simp)]; exact heap_alloc_new w _
   have hbox:w3.heap[w.heap.size+1]? =some (.cells #[.string s3, .bool b1, .bool b3, .bool true] 141 (0,0)):=by
    rw[hb3.block _ (by simp)];have:=heap_alloc_new (w.alloc (.cells #[.string ⟨#[]⟩, .bool false, .bool false, .bool false] 141)) (.cells #[.string s3, .bool b1, .bool b3, .bool true] 141)
    simpa using this
   have n0:w3.cell? ⟨w.heap.size+1,0,none⟩=some (.string s3):=by rw[aa hbox]; rfl
   have n1:w3.cell? ⟨w.heap.size+1,1,none⟩=some (.bool b1):=by rw[aa hbox]; rfl
   have n2:w3.cell? ⟨w.heap.size+1,2,none⟩=some (.bool b3):=by rw[aa hbox]; rfl
   have n3:w3.cell? ⟨w.heap.size+1,3,none⟩=some (.bool true):=by rw[aa hbox]; rfl
   clear hbox;have hb3':=af HB0.out hb3;have HB3:=ab hb3';clear hb3 hb3';have r0:w3.cell? ⟨w.heap.size,0,none⟩=some (.string ⟨#[]⟩):=by rw[aa hres]; rfl
   have r1:w3.cell? ⟨w.heap.size,1,none⟩=some (.bool false):=by rw[aa hres]; rfl
   have r2:w3.cell? ⟨w.heap.size,2,none⟩=some (.bool false):=by rw[aa hres]; rfl
   have r3:w3.cell? ⟨w.heap.size,3,none⟩=some (.bool false):=by rw[aa hres]; rfl
   have f0:w3.frozen? ⟨w.heap.size,0,none⟩=false:=ag hres;have f1:w3.frozen? ⟨w.heap.size,1,none⟩=false:=ag hres;have f2:w3.frozen? ⟨w.heap.size,2,none⟩=false:=ag hres;have f3:w3.frozen? ⟨w.heap.size,3,none⟩=false:=ag hres;have HR:=ab hres;clear hres;go_wp2_with fail;obtain⟨W,hW⟩: ∃W,W=((((w3.setCell ⟨w.heap.size,0,none⟩ (.string s3)).setCell ⟨w.heap.size,1,none⟩ (.bool b1)).setCell ⟨w.heap.size,2,none⟩ (.bool b3)).setCell ⟨w.heap.size,3,none⟩ (.bool true)):=⟨_,rfl⟩
   rw[<-hW];have h4:=gP HR.out (.string s3) (.bool b1) (.bool b3) (.bool true);rw[<-hW]at h4;obtain⟨h41,h42⟩:=h4;have m0:W.cell? ⟨w.heap.size,0,none⟩=some (.string s3):=by rw[aa h41]; rfl
   have m1:W.cell? ⟨w.heap.size,1,none⟩=some (.bool b1):=by rw[aa h41]; rfl
   have m2:W.cell? ⟨w.heap.size,2,none⟩=some (.bool b3):=by rw[aa h41]; rfl
   have m3:W.cell? ⟨w.heap.size,3,none⟩=some (.bool true):=by rw[aa h41]; rfl
   clear hW;refine bodyPost_ret (v:= .tuple #[.agg #[.string s3, .bool b1, .bool b3, .bool true], .bool true]) (by simp[results,Tryz.results72,go_sem,m0,m1,m2,m3]) rfl ?_;refine⟨?_,HB3.out.grown h42 HB3.out.size (fun k hk=>by cases hk; exact Nat.le_refl _)⟩;rw[bF,HCP.out,HCS.out];simp only[Option.isSome_some,if_true,HRU.out,dT,nE,pL]
theorem lY : ∀rs:List aF,be mR (rs.flatMap gL) rs
 | []=>rfl
 | r::rs=>⟨gL r,rs.flatMap gL,by rw[List.flatMap_cons],rfl,lY rs⟩
theorem Tryz.appRules :cQ Tryz.prog 86 141 4 24:=cQ.mk' (z:= .agg #[.string ByteArray.empty, .bool false, .bool false, .bool false]) Tryz.underlying86 (by kernel_rfl) rfl (by decide) (by decide)
theorem mN {w:World} {base:Nat} {v:Value} {rs:List aF} (h:w.ownsRow base 141 4 v rs.length (rs.flatMap gL)):bt (base<= ·) w v rs:=
 ⟨rs.flatMap gL,(bw h).weak (fun _ hk=>hk.1),lY rs⟩
theorem pM {w w':World} {base:Nat} {e:TypeId} {sz:Nat} {v:Value} {n:Nat} {xs:List Value} (h:w.ownsRow base e sz v n xs) (hb:Below w.heap.size w w'):w'.ownsRow base e sz v n xs:=
 h.kept (grownBy.of_below (r:=none) hb) (by cases v.ownBlock<;> simp)
theorem qD (w:World) (o:Obj):(w.alloc o).heap.size=w.heap.size+1:=by simp
def vm (o:List aF×Int×Int) (w:World) (e:Ending) (w':World):Prop:=
 ∃v,e= .returned (.tuple #[v, .int .i64 o.2.1, .int .i64 o.2.2])/\bt (w.heap.size<= ·) w' v o.1/\Below w.heap.size w w'
theorem jS {S:Nat->Prop} {w:World} :bt S w (.slice none 0 0) []:=aR.nil
theorem lR {ls:List (List UInt8)} {k:Nat} {acc:List aF} {l:List UInt8} (h:ls[k]? =some l) (hl:l=[]\/Lib.hasPrefix l [35]=true):ci (ls.drop k) k acc=ci (ls.drop (k+1)) (k+1) acc:=by
 obtain⟨hk,rfl⟩:=List.getElem?_eq_some_iff.1 h;rw[List.drop_eq_getElem_cons hk,ci,if_pos hl]
theorem nz {ls:List (List UInt8)} {k:Nat} {acc:List aF} {l:List UInt8} (h:ls[k]? =some l) (h1:l≠[]) (h2:Lib.hasPrefix l [35]=false) (hp:bF l=none):ci (ls.drop k) k acc=([],(k:Int)+1,3):=by
 obtain⟨hk,rfl⟩:=List.getElem?_eq_some_iff.1 h;rw[List.drop_eq_getElem_cons hk,ci,if_neg (by rw[h2]; simp[h1]),hp]
theorem lQ {ls:List (List UInt8)} {k:Nat} {acc:List aF} {l:List UInt8} {r:aF} (h:ls[k]? =some l) (h1:l≠[]) (h2:Lib.hasPrefix l [35]=false) (hp:bF l=some r) (ha:acc.length=256):ci (ls.drop k) k acc=([],(k:Int)+1,2):=by
 obtain⟨hk,rfl⟩:=List.getElem?_eq_some_iff.1 h;rw[List.drop_eq_getElem_cons hk,ci,if_neg (by rw[h2]; simp[h1]),hp];simp[ha]
theorem tW {ls:List (List UInt8)} {k:Nat} {acc:List aF} {l:List UInt8} {r:aF} (h:ls[k]? =some l) (h1:l≠[]) (h2:Lib.hasPrefix l [35]=false) (hp:bF l=some r) (ha: ¬acc.length=256):ci (ls.drop k) k acc=ci (ls.drop (k+1)) (k+1) (acc++[r]):=by
 obtain⟨hk,rfl⟩:=List.getElem?_eq_some_iff.1 h;rw[List.drop_eq_getElem_cons hk,ci,if_neg (by rw[h2]; simp[h1]),hp];simp[ha]
theorem tX (s:ByteArray) (w:World) (he:iz w):Calls Tryz.prog 37 #[.string s] w (vm (bC (bl s)) w):=by
 have HE:=ab he;clear he
 by_cases h6:s.size<=65536
 ·have hpe:bC (bl s)=ci (aw 10 (bl s)) 0 []:=by unfold bC; rw[if_neg (by rw[<-aJ]; omega)]
  have HPE:=ab hpe;clear hpe
  go_enter Tryz.func37,Tryz.ntmps37
  go_wp2_with fail;refine(jU s 10 w HE.out (by omega)).mono ?_;rintro e w' ⟨xs,hx,rfl,rfl⟩;have hxl:xs.length<=65537:=by
   have h1:(aw 10 (bl s)).length=xs.length:=by rw[<-hx]; simp
   have h2:=ed 10 (bl s);rw[<-aJ]at h2;omega
  have HX:=ab hx;clear hx;go_wp2_with fail
  go_loopw [5,16] (fun v i wr=> ∃(k:Nat) (rs:List aF),k<=xs.length/\rs.length<=256/\i= .int .i64 k/\wr.ownsRow (w.heap.size+1) 141 4 v rs.length (rs.flatMap gL)/\
    Below (w.heap.size+1) (w.alloc (.cells (xs.map Value.string).toArray 9)) wr/\ci (aw 10 (bl s)) 0 []=ci ((xs.map bl).drop k) k rs) (fun _ i _=>xs.length-(intOf i).toNat)
  case atStart=>exact⟨0,[],Nat.zero_le _,Nat.zero_le _,rfl,World.ownsRow_nil _ _ _ _,Below.refl _ _,by rw[HX.out]; rfl⟩
  case round=>
   obtain⟨k,rs,hk,hrs,rfl,hown,hb,hc⟩:=hrel;have HC:=ab hc;have HB:=ab hb;have HO:=ab hown;have hsz:w.heap.size+1<=wr.heap.size:=by have:=hb.size; simpa using this
   have hbw:Below w.heap.size w wr:=af ((Below.refl _ _).alloc (Nat.le_refl _) _) (by simpa using hb);have HBW:=ab hbw;obtain⟨av,cv,rfl,hnv,hmv⟩:=ak hown;clear hbw
   by_cases hlt:k<xs.length
   ·obtain⟨x,hx⟩: ∃x,xs[k]? =some x:=⟨xs[k],by simp[hlt]⟩;have hcell:wr.cell? ⟨w.heap.size,k,none⟩=some (.string x):=(hb.cell (p:=⟨w.heap.size,k,none⟩) (by simp)).trans (jx (ov hx));have hxs:x.size<=65536:=by have:=jQ HX.out hx; omega
    have HK:=ab hx;clear hx hb hc hown;have HP:=ab (show(xs.map bl)[k]? =some (bl x) by simp[HK.out])
    by_cases h0:bl x=[]
    ·have e0:x.toList.isEmpty=true:=by rw[bz,h0]; rfl
     have H0:=ab h0;clear h0;go_wp2_with fail
     go_roundw
     case rel=>exact⟨k+1,rs,by omega,hrs,by go_num,HO.out,HB.out,by rw[HC.out]; exact lR HP.out (.inl H0.out)⟩
     case measure=>simp[intOf]; omega
    ·have e0:x.toList.isEmpty=false:=by rw[bz]; simpa using h0
     have H0:=ab h0;clear h0
     cases hh:Lib.hasPrefix (bl x) [35]
     ·have HH:=ab hh;clear hh;go_wp2_with fail;refine(bQ x ⟨#[35]⟩ false _ HH.out).mono ?_;rintro e w' ⟨rfl,rfl⟩;go_wp2_with fail
      cases hpl:bF (bl x)with
      | none=>
       have HPL:=ab hpl;clear hpl;refine(iH x wr (HE.out.below HBW.out) hxs).mono ?_;rw[HPL.out];rintro e w2 ⟨rfl,hb2⟩;have HB2:=ab hb2;clear hb2;simp only[dT,qt];go_wp2_with fail
       go_ret3
       refine⟨.slice none 0 0, ?_, ?_,af (af HBW.out HB2.out) ((Below.refl _ _).alloc (Nat.le_refl _) _)⟩
       ·rw[HPE.out,HC.out,nz HP.out H0.out HH.out HPL.out]; rfl
       ·rw[HPE.out,HC.out,nz HP.out H0.out HH.out HPL.out]; exact jS
      | some r=>
       have HPL:=ab hpl;clear hpl;refine(iH x wr (HE.out.below HBW.out) hxs).mono ?_;rw[HPL.out];rintro e w2 ⟨rfl,hb2⟩;have HB2:=ab hb2;have hsz2:=hb2.size;clear hb2;obtain⟨rp,rk,rd,rr⟩:=r;simp only[dT,nE]
       by_cases hfull:rs.length=256
       ·have ef:((rs.length:Int) == 256)=true:=by rw[hfull]; rfl
        have HF:=ab hfull;clear hfull;go_wp2_with fail
        go_ret3
        refine⟨.slice none 0 0, ?_, ?_,af (af HBW.out HB2.out) ((Below.refl _ _).alloc (Nat.le_refl _) _)⟩
        ·rw[HPE.out,HC.out,lQ HP.out H0.out HH.out HPL.out HF.out]; rfl
        ·rw[HPE.out,HC.out,lQ HP.out H0.out HH.out HPL.out HF.out]; exact jS
       ·have ef:((rs.length:Int) == 256)=false:=by rw[beq_eq_false_iff_ne]; omega
        have HF:=ab hfull;have hlt2:rs.length<256:=by omega
        clear hfull;have HO2:=ab (show World.ownsRow (w2.alloc (.cells #[.string ⟨rp.toArray⟩, .bool rk, .bool rd, .bool rr] 141)) (w.heap.size+1) 141 4 (.slice av rs.length cv) rs.length (rs.flatMap gL)from(pM HO.out HB2.out).alloc _);go_wp2_with (at_builtin; go_must (refine gW Tryz.appRules rfl _ _ rfl (w.heap.size+1) (.slice av rs.length cv) rs.length (rs.flatMap gL) rfl (w2.alloc (.cells #[.string ⟨rp.toArray⟩, .bool rk, .bool rd, .bool rr] 141)) (gL ⟨rp,rk,rd,rr⟩) _ (by rw[qD]; rfl) rfl (by simp[gL]; exact⟨rfl,rfl,rfl,rfl⟩) HO2.out (by omega) (by simp; omega) ?_); intro v' w3 hown1 hgrow1 _)
        have HO1:=ab hown1;have HG1:=ab hgrow1;clear hown1 hgrow1;go_wp2_with fail
        go_roundw
        case rel=>
         refine⟨k+1,rs++[⟨rp,rk,rd,rr⟩],by omega,by simp; omega,by go_num, ?_, ?_,by rw[HC.out]; exact tW HP.out H0.out HH.out HPL.out HF.out⟩
         ·have:=HO1.out; simpa using this
         ·exact bG (((HB.out.trans (HB2.out.mono hsz)).alloc (by omega) _)) HO2.out HG1.out (Nat.le_refl _) (by simp; omega)
        case measure=>simp[intOf]; omega
     ·have HH:=ab hh;clear hh;go_wp2_with fail;refine(bQ x ⟨#[35]⟩ true _ HH.out).mono ?_;rintro e w' ⟨rfl,rfl⟩;go_wp2_with fail
      go_roundw
      case rel=>exact⟨k+1,rs,by omega,hrs,by go_num,HO.out,HB.out,by rw[HC.out]; exact lR HP.out (.inr HH.out)⟩
      case measure=>simp[intOf]; omega
   ·clear hb hc hown;go_wp2_with fail
    go_ret3
    have hfin:bC (bl s)=(rs,0,0):=by
     rw[HPE.out,HC.out,List.drop_eq_nil_of_le (by simp; omega)]; rfl
    refine⟨.slice av rs.length cv,by rw[hfin]; rfl, ?_,HBW.out⟩;rw[hfin];exact aR.mono (mN HO.out) (by omega) (fun k _ hk=>by omega) (fun _ _ _ h=>h)
 ·have hpe:bC (bl s)=([],0,2):=by unfold bC; rw[if_pos (by rw[<-aJ]; omega)]
  have HPE:=ab hpe;clear hpe
  go_enter Tryz.func37,Tryz.ntmps37
  go_wp2_with fail
  go_ret3
  exact⟨.slice none 0 0,by rw[HPE.out]; rfl,by rw[HPE.out]; exact jS,Below.refl _ _⟩
open Go Go.RowKit Go.Maps
section
variable {w : World} {b : Nat} {a0 a1 a2 a3 a4 a5 x0 x1 x2 x3 x4 x5 : Value}
theorem zH (h:w.heap[b]? =some (.cells #[a0,a1,a2,a3,a4,a5] 54 (0,0))):
  ((((((w.setCell ⟨b,0,none⟩ x0).setCell ⟨b,1,none⟩ x1).setCell ⟨b,2,none⟩ x2).setCell ⟨b,3,none⟩ x3).setCell ⟨b,4,none⟩ x4).setCell ⟨b,5,none⟩ x5).heap[b]? =some (.cells #[x0,x1,x2,x3,x4,x5] 54 (0,0)):=by
 have h0:=mg (k:=0) h x0;have h1:=mg (k:=1) h0 x1;have h2:=mg (k:=2) h1 x2;have h3:=mg (k:=3) h2 x3;have h4:=mg (k:=4) h3 x4;have h5:=mg (k:=5) h4 x5
 simpa using h5
theorem yA {a:Act} {e7:Value} (h:w.heap[b]? =some (.cells #[x0,x1,x2,x3,x4,x5] 54 (0,0)))
  (h10:a.tmps[10]? =some (.pointer (some ⟨b,0,none⟩))) (h11:a.tmps[11]? =some e7):(results Tryz.f20 a.tmps).run Tryz.prog w= .ok (.tuple #[.agg #[x0,x1,x2,x3,x4,x5],e7]) w:=by
 have m0:=ac (k:=0) h;have m1:=ac (k:=1) h;have m2:=ac (k:=2) h;have m3:=ac (k:=3) h;have m4:=ac (k:=4) h;have m5:=ac (k:=5) h;simp only[kt]at m0 m1 m2 m3 m4 m5;simp[results,Tryz.results20,go_sem,h10,h11,m0,m1,m2,m3,m4,m5]
theorem iu {a:Act} {e7:Value} {Q:Ending->World->Prop} (h:w.heap[b]? =some (.cells #[a0,a1,a2,a3,a4,a5] 54 (0,0)))
  (h10:a.tmps[10]? =some (.pointer (some ⟨b,0,none⟩))) (h11:a.tmps[11]? =some e7) (hd:a.defers=[])
  (hQ:Q (.returned (.tuple #[.agg #[x0,x1,x2,x3,x4,x5],e7])) ((((((w.setCell ⟨b,0,none⟩ x0).setCell ⟨b,1,none⟩ x1).setCell ⟨b,2,none⟩ x2).setCell ⟨b,3,none⟩ x3).setCell ⟨b,4,none⟩ x4).setCell ⟨b,5,none⟩ x5)):
  bodyPost Tryz.prog Tryz.f20 Q Exit.ret a ((((((w.setCell ⟨b,0,none⟩ x0).setCell ⟨b,1,none⟩ x1).setCell ⟨b,2,none⟩ x2).setCell ⟨b,3,none⟩ x3).setCell ⟨b,4,none⟩ x4).setCell ⟨b,5,none⟩ x5):=bodyPost_ret (yA (zH h) h10 h11) hd hQ
theorem rj {k:Nat} (hk:k≠b):((((((w.setCell ⟨b,0,none⟩ x0).setCell ⟨b,1,none⟩ x1).setCell ⟨b,2,none⟩ x2).setCell ⟨b,3,none⟩ x3).setCell ⟨b,4,none⟩ x4).setCell ⟨b,5,none⟩ x5).heap[k]? =w.heap[k]? :=by
 rw[Below.heap_setCell _ _ _ _ (by exact hk),Below.heap_setCell _ _ _ _ (by exact hk),Below.heap_setCell _ _ _ _ (by exact hk),Below.heap_setCell _ _ _ _ (by exact hk),Below.heap_setCell _ _ _ _ (by exact hk),Below.heap_setCell _ _ _ _ (by exact hk)]
theorem jI {B:Nat} {u:World} (hb:Below B u w) (hB:B<=b) (hz:B<=w.heap.size):Below B u ((((((w.setCell ⟨b,0,none⟩ x0).setCell ⟨b,1,none⟩ x1).setCell ⟨b,2,none⟩ x2).setCell ⟨b,3,none⟩ x3).setCell ⟨b,4,none⟩ x4).setCell ⟨b,5,none⟩ x5):=by
 have hk: ∀(i:Nat),(some b)=some i->B<=i:=fun i e=>by cases e; exact hB
 have g: ∀ {v:World} (k:Nat) (x:Value),B<=v.heap.size->Below B u v->Below B u (v.setCell ⟨b,k,none⟩ x)/\B<=(v.setCell ⟨b,k,none⟩ x).heap.size:=fun k x hz h=>⟨h.grown (ba _ _ _ _) hz hk,Nat.le_trans hz (ba _ b k x).size⟩
 obtain⟨c0,z0⟩:=g 0 x0 hz hb;obtain⟨c1,z1⟩:=g 1 x1 z0 c0;obtain⟨c2,z2⟩:=g 2 x2 z1 c1;obtain⟨c3,z3⟩:=g 3 x3 z2 c2;obtain⟨c4,z4⟩:=g 4 x4 z3 c3;exact(g 5 x5 z4 c4).1
end
def te :Value:= .agg #[.int .i64 0, .slice none 0 0, .slice none 0 0, .slice none 0 0, .int .i64 0, .int .i64 0]
def ia (res:Except Int mS) (w:World) (e:Ending) (w':World):Prop:=Below w.heap.size w w'/\match res with
 | .error x=>e= .returned (.tuple #[te, .int .i64 x])/\x≠0
 | .ok r=> ∃fv cv nv,e= .returned (.tuple #[.agg #[.int .i64 r.idx.tm,fv,cv,nv, .int .i64 (r.read:Int), .int .i64 (r.kept:Int)], .int .i64 0])/\bq w' w.heap.size fv r.idx.files/\w'.ownsRow w.heap.size 60 2 cv r.chg.length (eB r.chg)/\bS w.heap.size nv r.news w'
theorem fm (S:Nat->Prop) (x:ew) (fv:Value) (b:Bool) (w:World) (hx:aQ S w fv x.files) (henv:iz w) (h:fb x=b):Calls Tryz.prog 12 #[gC fv x.tm] w fun e w'=>e= .returned (.bool b)/\Below w.heap.size w w':=by
 rw[<-h]; exact oC S x fv w hx henv
theorem qY (rs:List aF) (S:Nat->Prop) (v:Value) (s:ByteArray) (dir ig:Bool) (w:World) (he:iz w) (hv:bt S w v rs) (hp: ∀r∈rs,r.pat.length<=9223372036854775807) (h:cA rs (bl s) dir=(ig,0)):
  Calls Tryz.prog 40 #[v, .string s, .bool dir] w fun e w'=>e= .returned (.tuple #[.bool ig, .int .i64 0])/\Below w.heap.size w w':=by
 have:=pE rs S v s dir w he hv hp;rw[h]at this;exact this
theorem wY {S:Nat->Prop} {w:World} {v:Value} {rs:List aF} (h:bt S w v rs):bt (· <w.heap.size) w v rs:=by
 obtain⟨cells,h1,h2⟩:=h;exact⟨cells,aD.mono h1 (fun k hk _=>hk) (by omega),h2⟩
theorem wZ {S T:Nat->Prop} {w:World} {v:Value} {rs:List aF} (h:bt S w v rs) (hs: ∀k,S k->T k):bt T w v rs:=by
 obtain⟨cells,h1,h2⟩:=h;exact⟨cells,h1.weak hs,h2⟩
theorem ma {prev:ew} {tm:Int} {tree:List aU} {rules:List UInt8} {c:cP} (h: ¬(fb prev=true/\prev.tm<=tm/\di c=true)):cE prev tm tree rules c= .error 1:=by unfold cE; rw[if_neg h]
theorem rJ {prev:ew} {tm:Int} {tree:List aU} {rules:List UInt8} {c:cP} {rs:List aF} {n x:Int} (h:fb prev=true/\prev.tm<=tm/\di c=true) (hp:bC rules=(rs,n,x)) (hx: ¬x=0):cE prev tm tree rules c= .error x:=by
 unfold cE; rw[if_pos h,hp,if_neg hx]
theorem uF {prev:ew} {tm x:Int} {tree:List aU} {rules:List UInt8} {c:cP} {rs:List aF} {n:Int} (h:fb prev=true/\prev.tm<=tm/\di c=true) (hp:bC rules=(rs,n,0)) (hx:cd tree=x) (h0: ¬x=0):cE prev tm tree rules c= .error x:=by
 unfold cE; rw[if_pos h,hp,if_pos rfl,hx,if_neg h0]
theorem yz {prev:ew} {tm:Int} {tree:List aU} {rules:List UInt8} {c:cP} {rs:List aF} {n:Int} {s:iy} (h:fb prev=true/\prev.tm<=tm/\di c=true) (hp:bC rules=(rs,n,0)) (hx:cd tree=0) (hs:s=bV prev.tm prev.files c (bB rs tree)):cE prev tm tree rules c= .ok ⟨⟨tm,s.files⟩,lk prev.files s.files,s.news,s.read,s.kept⟩:=by
 unfold cE; rw[if_pos h,hp,if_pos rfl,if_pos hx,hs]
theorem yf {x:ew} (h:fb x=true):x.files.length<=4096:=by
 unfold fb at h;simp only[Bool.and_eq_true,decide_eq_true_eq]at h;exact h.1.1.2
theorem xe {tm:Int} {prev:List am} {c:cP} (hc:di c=true) {K:List aU} (hv: ∀e∈K,dI e=true):(bV tm prev c K).news.length<=K.length*1048576:=by
 show(List.foldl aX (km prev,[]) _).2.length<=_
 refine Nat.le_trans (wT _ _) ?_;simp only[List.length_nil,Nat.zero_add];have key: ∀(L:List aU),(∀e∈L,dI e=true/\e.kind=1)->(L.flatMap fun e=>bD c e.data).length<=L.length*1048576:=by
  intro L
  induction L with
  | nil=>simp
  | cons e L ih=>
   intro h;rw[List.flatMap_cons,List.length_append,List.length_cons];have h1:=ih fun x hx=>h x (by simp[hx])
   have h2:=qO hc e.data;have h3:=(jq (h e (by simp)).1).1 (h e (by simp)).2;omega
 refine Nat.le_trans (key _ fun e he=> ?_) (Nat.mul_le_mul_right _ (List.length_filter_le _ _));rw[List.mem_filter]at he;refine⟨hv e he.1, ?_⟩;have:=he.2;unfold kB at this;rw[Bool.and_eq_true]at this;exact of_decide_eq_true this.1
theorem bt.old {base:Nat} {w w':World} {v:Value} {rs:List aF} (h:bt (· <base) w v rs) (hb:Below base w w'):bt (· <base) w' v rs:=by
 obtain⟨cells,h1,h2⟩:=h;exact⟨cells,aD.same h1 (fun k hk=>hb.block k hk),h2⟩
theorem wI {S:Nat->Prop} {w:World} {v:Value} {l:List bo} (h:ax S w v l):ax (· <w.heap.size) w v l:=by
 obtain⟨cells,h1,h2⟩:=h;exact⟨cells,aD.mono h1 (fun k hk _=>hk) (by omega),h2⟩
theorem wh {S:Nat->Prop} {w:World} {v:Value} {l:List am} (h:aQ S w v l):aQ (· <w.heap.size) w v l:=by
 obtain⟨cells,h1,h2⟩:=h;exact⟨cells,aD.mono h1 (fun k hk _=>hk) (by omega),h2.mono fun c x _ ⟨u,e1,e2,e3⟩=>⟨u,e1,wI e2,e3⟩⟩
theorem wK {S T:Nat->Prop} {w:World} {v:Value} {l:List bo} (h:ax S w v l) (hs: ∀k,S k->T k):ax T w v l:=by
 obtain⟨cells,h1,h2⟩:=h;exact⟨cells,h1.weak hs,h2⟩
theorem wk {S T:Nat->Prop} {w:World} {v:Value} {l:List am} (h:aQ S w v l) (hs: ∀k,S k->T k):aQ T w v l:=by
 obtain⟨cells,h1,h2⟩:=h;exact⟨cells,h1.weak hs,h2.mono fun c x _ ⟨u,e1,e2,e3⟩=>⟨u,e1,wK e2 hs,e3⟩⟩
theorem xX {S:Nat->Prop} {w:World} {v:Value} {l:List aU} (h:bK S w v l):bK (· <w.heap.size) w v l:=by
 obtain⟨cells,h1,h2⟩:=h;exact⟨cells,aD.mono h1 (fun k hk _=>hk) (by omega),h2.mono fun c x _ ⟨u,e1,e2,e3⟩=>⟨u,e1,aD.mono e2 (fun k hk _=>hk) (by omega),e3⟩⟩
theorem xY {S T:Nat->Prop} {w:World} {v:Value} {l:List aU} (h:bK S w v l) (hs: ∀k,S k->T k):bK T w v l:=by
 obtain⟨cells,h1,h2⟩:=h;exact⟨cells,h1.weak hs,h2.mono fun c x _ ⟨u,e1,e2,e3⟩=>⟨u,e1,e2.weak hs,e3⟩⟩
theorem wg {base:Nat} {w w':World} {v:Value} {l:List aU} (h:bK (· <base) w v l) (hb:Below base w w'):bK (· <base) w' v l:=by
 obtain⟨cells,h1,h2⟩:=h;refine⟨cells,aD.same h1 (fun k hk=>hb.block k hk),h2.mono fun c x _ ⟨u,e1,e2,e3⟩=>⟨u,e1,aD.same e2 (fun k hk=>hb.block k hk),e3⟩⟩
theorem gO (S T:Nat->Prop) (prev:ew) (fv tv:Value) (tm:Int) (tree:List aU) (rules:ByteArray) (c:cP) (w:World) (hf:aQ S w fv prev.files) (ht:bK T w tv tree) (he:gm w) (hs:c.seed<18446744073709551616) (hpl: ∀f∈prev.files,f.parts.length<=1048576):
  Calls Tryz.prog 20 #[gC fv prev.tm, .int .i64 tm,tv, .string rules,dx c] w (ia (cE prev tm tree (bl rules) c) w):=by
 obtain⟨fa,fc,rfl,hfc,hfm,-⟩:=aR.shape hf ej.len;obtain⟨ta,tc,rfl,htc,htm,-⟩:=aR.shape ht iL.len;unfold maxLen at htm;have HF:=ab hf;have HT:=ab ht;have HE:=ab he;have HPL:=ab hpl;clear hf ht he hpl;obtain⟨fl,hfl⟩: ∃fl,fl=prev.files.length:=⟨_,rfl⟩;rw[<-hfl]at HF hfc ⊢;have HFL:=ab hfl;obtain⟨tl,htl⟩: ∃tl,tl=tree.length:=⟨_,rfl⟩;rw[<-htl]at HT htc ⊢
 have HTL:=ab htl;clear hfl htl;obtain⟨W,hW⟩: ∃W,W=((w.alloc (.cells #[.int .i64 prev.tm, .slice fa fl fc] 24)).alloc (.cells #[.int .i64 c.mn, .int .i64 c.mx, .int .i64 c.win, .int .i64 c.bits, .int .u64 (c.seed:Int)] 48)).alloc (.cells #[.int .i64 0, .slice none 0 0, .slice none 0 0, .slice none 0 0, .int .i64 0, .int .i64 0] 54):=⟨_,rfl⟩;have HBW:=ab (show Below w.heap.size w W by rw[hW]; exact(((Below.refl _ _).alloc (Nat.le_refl _) _).alloc (by simp) _).alloc (by simp; omega) _)
 have HX:=ab (show W.heap[w.heap.size]? =some (.cells #[.int .i64 prev.tm, .slice fa fl fc] 24 (0,0)) by rw[hW]; exact jH (jH (heap_alloc_new w _) _) _);have HC:=ab (show W.heap[w.heap.size+1]? =some (.cells #[.int .i64 c.mn, .int .i64 c.mx, .int .i64 c.win, .int .i64 c.bits, .int .u64 (c.seed:Int)] 48 (0,0)) by rw[hW]; exact jH (heap_alloc2_new w _ _) _);have HR:=ab (show W.heap[w.heap.size+1+1]? =some (.cells #[.int .i64 0, .slice none 0 0, .slice none 0 0, .slice none 0 0, .int .i64 0, .int .i64 0] 54 (0,0)) by
  rw[hW];have h:=heap_alloc_new ((w.alloc (.cells #[.int .i64 prev.tm, .slice fa fl fc] 24)).alloc (.cells #[.int .i64 c.mn, .int .i64 c.mx, .int .i64 c.win, .int .i64 c.bits, .int .u64 (c.seed:Int)] 48)) (.cells #[.int .i64 0, .slice none 0 0, .slice none 0 0, .slice none 0 0, .int .i64 0, .int .i64 0] 54);have e2:((w.alloc (.cells #[.int .i64 prev.tm, .slice fa fl fc] 24)).alloc (.cells #[.int .i64 c.mn, .int .i64 c.mx, .int .i64 c.win, .int .i64 c.bits, .int .u64 (c.seed:Int)] 48)).heap.size=w.heap.size+1+1:=by simp
  rw[e2]at h;exact h)
 have HSZ:=ab (show W.heap.size=w.heap.size+3 by rw[hW]; simp);unfold gC dx
 go_enter Tryz.func20,Tryz.ntmps20
 go_upto_region 1 with fail
 change Code.wp _ _ _ _ (((w.alloc (.cells #[.int .i64 prev.tm, .slice fa fl fc] 24)).alloc (.cells #[.int .i64 c.mn, .int .i64 c.mx, .int .i64 c.win, .int .i64 c.bits, .int .u64 (c.seed:Int)] 48)).alloc (.cells #[.int .i64 0, .slice none 0 0, .slice none 0 0, .slice none 0 0, .int .i64 0, .int .i64 0] 54))
 rw[<-hW];clear hW;have HFW:=ab (show aQ S W (.slice fa fl fc) prev.files from HF.out.below HBW.out);have HEW:=ab (HE.out.below HBW.out);have x0:=ac (k:=0) HX.out;have x1:=ac (k:=1) HX.out;simp only[List.getElem?_toArray,bZ]at x0 x1
 cases hvx:fb prev with
 | false=>
  have HBAD:=ab (show cE prev tm tree (bl rules) c= .error 1 from ma (fun h=>by rw[hvx]at h; cases h.1));have HVX:=ab hvx;clear hvx
  go_upto_region 2 with(go_at_call 12; refine(fm S prev (.slice fa fl fc) false W HFW.out HEW.out.env HVX.out).mono ?_; rintro e w1 ⟨rfl,hb1⟩; have HB1:=ab hb1; clear hb1)
  have HR1:=ab ((HB1.out.block _ (lt_of_block HR.out)).trans HR.out);have z0:=ac (k:=0) HR1.out;have z1:=ac (k:=1) HR1.out;have z2:=ac (k:=2) HR1.out;have z3:=ac (k:=3) HR1.out;have z4:=ac (k:=4) HR1.out;have z5:=ac (k:=5) HR1.out;simp only[List.getElem?_toArray,bZ]at z0 z1 z2 z3 z4 z5;have g0:=aE (k:=0) HR1.out;have g1:=aE (k:=1) HR1.out
  have g2:=aE (k:=2) HR1.out;have g3:=aE (k:=3) HR1.out;have g4:=aE (k:=4) HR1.out;have g5:=aE (k:=5) HR1.out;go_wp2_with fail;refine iu HR1.out rfl rfl rfl ?_;refine⟨jI (HBW.out.trans (HB1.out.mono (by have:=HSZ.out; omega))) (by omega) (by have:=HB1.out.size; have:=HSZ.out; omega), ?_⟩;rw[HBAD.out];exact⟨rfl,by decide⟩
 | true=>
  have HVX:=ab hvx;clear hvx
  by_cases hlt:tm<prev.tm
  ·have HBAD:=ab (show cE prev tm tree (bl rules) c= .error 1 from ma (fun h=>by omega))
   go_upto_region 2 with(go_at_call 12; refine(fm S prev (.slice fa fl fc) true W HFW.out HEW.out.env HVX.out).mono ?_; rintro e w1 ⟨rfl,hb1⟩; have HB1:=ab hb1; have y0:=(hb1.cell (p:=⟨w.heap.size,0,none⟩) (ay x0)).trans x0; clear hb1)
   have HR1:=ab ((HB1.out.block _ (lt_of_block HR.out)).trans HR.out);have z0:=ac (k:=0) HR1.out;have z1:=ac (k:=1) HR1.out;have z2:=ac (k:=2) HR1.out;have z3:=ac (k:=3) HR1.out;have z4:=ac (k:=4) HR1.out;have z5:=ac (k:=5) HR1.out;simp only[List.getElem?_toArray,bZ]at z0 z1 z2 z3 z4 z5;have g0:=aE (k:=0) HR1.out;have g1:=aE (k:=1) HR1.out
   have g2:=aE (k:=2) HR1.out;have g3:=aE (k:=3) HR1.out;have g4:=aE (k:=4) HR1.out;have g5:=aE (k:=5) HR1.out;go_wp2_with fail;refine iu HR1.out rfl rfl rfl ?_;refine⟨jI (HBW.out.trans (HB1.out.mono (by have:=HSZ.out; omega))) (by omega) (by have:=HB1.out.size; have:=HSZ.out; omega), ?_⟩;rw[HBAD.out];exact⟨rfl,by decide⟩
  ·cases hvc:di c with
   | false=>
    have HBAD:=ab (show cE prev tm tree (bl rules) c= .error 1 from ma (fun h=>by rw[hvc]at h; cases h.2.2));have HVC:=ab hvc;clear hvc
    go_upto_region 2 with(first | (go_at_call 12; refine(fm S prev (.slice fa fl fc) true W HFW.out HEW.out.env HVX.out).mono ?_; rintro e w1 ⟨rfl,hb1⟩; have HB1:=ab hb1; have y0:=(hb1.cell (p:=⟨w.heap.size,0,none⟩) (ay x0)).trans x0; have HC1:=ab ((hb1.block _ (lt_of_block HC.out)).trans HC.out); have c0:=ac (k:=0) HC1.out; have c1:=ac (k:=1) HC1.out; have c2:=ac (k:=2) HC1.out; have c3:=ac (k:=3) HC1.out; have c4:=ac (k:=4) HC1.out; simp only[List.getElem?_toArray,bZ]at c0 c1 c2 c3 c4; clear hb1) | (go_at_call 36; refine(ff c false _ HVC.out).mono ?_; rintro e w2 ⟨rfl,hb2⟩; have HB2:=ab hb2; clear hb2))
    have HB12:=ab (af HB1.out HB2.out);have HR1:=ab ((HB12.out.block _ (lt_of_block HR.out)).trans HR.out);have z0:=ac (k:=0) HR1.out;have z1:=ac (k:=1) HR1.out;have z2:=ac (k:=2) HR1.out;have z3:=ac (k:=3) HR1.out;have z4:=ac (k:=4) HR1.out;have z5:=ac (k:=5) HR1.out;simp only[List.getElem?_toArray,bZ]at z0 z1 z2 z3 z4 z5;have g0:=aE (k:=0) HR1.out
    have g1:=aE (k:=1) HR1.out;have g2:=aE (k:=2) HR1.out;have g3:=aE (k:=3) HR1.out;have g4:=aE (k:=4) HR1.out;have g5:=aE (k:=5) HR1.out;go_wp2_with fail;refine iu HR1.out rfl rfl rfl ?_;refine⟨jI (HBW.out.trans (HB12.out.mono (by have:=HSZ.out; omega))) (by omega) (by have:=HB12.out.size; have:=HSZ.out; omega), ?_⟩;rw[HBAD.out];exact⟨rfl,by decide⟩
   | true=>
    have HVC:=ab hvc;have HOK:=ab (show fb prev=true/\prev.tm<=tm/\di c=true from⟨HVX.out,by omega,hvc⟩);clear hvc
    go_upto_region 3 with(first | (go_at_call 12; refine(fm S prev (.slice fa fl fc) true W HFW.out HEW.out.env HVX.out).mono ?_; rintro e w1 ⟨rfl,hb1⟩; have HB1:=ab hb1; have y0:=(hb1.cell (p:=⟨w.heap.size,0,none⟩) (ay x0)).trans x0; have HC1:=ab ((hb1.block _ (lt_of_block HC.out)).trans HC.out); have c0:=ac (k:=0) HC1.out; have c1:=ac (k:=1) HC1.out; have c2:=ac (k:=2) HC1.out; have c3:=ac (k:=3) HC1.out; have c4:=ac (k:=4) HC1.out; simp only[List.getElem?_toArray,bZ]at c0 c1 c2 c3 c4; clear hb1) | (go_at_call 36; refine(ff c true _ HVC.out).mono ?_; rintro e w2 ⟨rfl,hb2⟩; have HB2:=ab (af HB1.out hb2); clear hb2))
    clear x0 x1 y0 c0 c1 c2 c3 c4 hlt;have HE2:=ab (HEW.out.below HB2.out);obtain⟨rs,rn,rx,hpe⟩: ∃rs rn rx,bC (bl rules)=(rs,rn,rx):=⟨_,_,_,rfl⟩;have HPE:=ab hpe;have hpa:=tX rules w2 HE2.out.env;rw[hpe]at hpa;have HPA:=ab hpa;clear hpe hpa
    go_upto_region 4 with(go_at_call 37; refine HPA.out.mono ?_; rintro e w3 ⟨rv,rfl,hru,hb3⟩; have HB3:=ab (af HB2.out hb3); have HRU:=ab hru; have hz23:=hb3.size; clear hru hb3)
    by_cases hx:rx=0
    ·subst hx;obtain⟨z,hz⟩: ∃z,cd tree=z:=⟨_,rfl⟩;have HZ:=ab hz;have HE3:=ab (HEW.out.below HB3.out);have HT3:=ab (show bK T w3 (.slice ta tl tc) tree from(HT.out.below HBW.out).below HB3.out);clear hz
     go_upto_region 7 with(go_at_call 34; refine(oW T tree (.slice ta tl tc) z _ HT3.out HE3.out.env HZ.out).mono ?_; rintro e w4 ⟨rfl,hb4⟩; have HB4:=ab (af HB3.out hb4); have HB34:=ab hb4; have hz34:=hb4.size; clear hb4)
     by_cases hz0:z=0
     ·subst hz0;have hz12:w.heap.size+3<=w4.heap.size:=by have:=HB4.out.size; have:=HSZ.out; omega
      go_upto_region 9 with fail
      obtain⟨W0,hW0⟩: ∃W0:World,W0=w4.drew:=⟨_,rfl⟩;have HBZ:=ab (show Below W.heap.size W W0 by rw[hW0]; exact HB4.out.drew);have HB40:=ab (show Below w4.heap.size w4 W0 by rw[hW0]; exact(Below.refl _ _).drew);have hz0:W0.heap.size=w4.heap.size:=by rw[hW0]; rfl
      have HX0:=ab ((HBZ.out.block _ (lt_of_block HX.out)).trans HX.out);have HC0:=ab ((HBZ.out.block _ (lt_of_block HC.out)).trans HC.out);have HR0:=ab ((HBZ.out.block _ (lt_of_block HR.out)).trans HR.out);obtain⟨base,hbase⟩: ∃base,base=W0.heap.size:=⟨_,rfl⟩;have HBS:=ab hbase;have HFB:=ab (show aQ (· <base) W0 (.slice fa fl fc) prev.files from wk (wh (HFW.out.below HBZ.out)) (fun k hk=>by rw[hbase]; exact hk))
      have HTB:=ab (show bK (· <base) W0 (.slice ta tl tc) tree from xY (xX ((HT.out.below HBW.out).below HBZ.out)) (fun k hk=>by rw[hbase]; exact hk));have HE0:=ab (HEW.out.below HBZ.out);have hvi:=HVX.out;have hlen:prev.files.length<=4096:=yf hvi;have HND:=ab (show(prev.files.map am.path).Nodup from by
       have h1:=ye hvi;unfold zq at h1;unfold List.Nodup;rw[List.pairwise_map];exact h1.imp fun h=>zD h)
      clear hvi;have S0:=ab (And.intro HX0.out HC0.out);refine ik (fun w'=>w'.heap[w.heap.size]? =some (.cells #[.int .i64 prev.tm, .slice fa fl fc] 24 (0,0))/\w'.heap[w.heap.size+1]? =some (.cells #[.int .i64 c.mn, .int .i64 c.mx, .int .i64 c.win, .int .i64 c.bits, .int .u64 (c.seed:Int)] 48 (0,0))) (by kernel_rfl) ?_;rw[<-hW0];clear hW0 hbase;refine ah 0 rfl (by kernel_rfl) (by kernel_rfl) (by kernel_rfl) (fun _ _ _ h=>h) rfl S0.out (by rintro w' ⟨hw1,hw2⟩; have o0:=ac (k:=0) hw1; have o1:=ac (k:=1) hw1; have c0:=ac (k:=0) hw2; have c1:=ac (k:=1) hw2; have c2:=ac (k:=2) hw2; have c3:=ac (k:=3) hw2; have c4:=ac (k:=4) hw2; simp only[List.getElem?_toArray,bZ]at o0 o1 c0 c1 c2 c3 c4; clear hw1 hw2; go_simp; rfl) ?_
      simp only[Act.put,aM,aN,aO];refine ah 1 rfl (by kernel_rfl) (by kernel_rfl) (by kernel_rfl) (fun _ _ _ h=>h) rfl S0.out (by rintro w' ⟨hw1,hw2⟩; have o0:=ac (k:=0) hw1; have o1:=ac (k:=1) hw1; have c0:=ac (k:=0) hw2; have c1:=ac (k:=1) hw2; have c2:=ac (k:=2) hw2; have c3:=ac (k:=3) hw2; have c4:=ac (k:=4) hw2; simp only[List.getElem?_toArray,bZ]at o0 o1 c0 c1 c2 c3 c4; clear hw1 hw2; go_simp; rfl) ?_
      simp only[Act.put,aM,aN,aO];refine ah 2 rfl (by kernel_rfl) (by kernel_rfl) (by kernel_rfl) (fun _ _ _ h=>h) rfl S0.out (by rintro w' ⟨hw1,hw2⟩; have o0:=ac (k:=0) hw1; have o1:=ac (k:=1) hw1; have c0:=ac (k:=0) hw2; have c1:=ac (k:=1) hw2; have c2:=ac (k:=2) hw2; have c3:=ac (k:=3) hw2; have c4:=ac (k:=4) hw2; simp only[List.getElem?_toArray,bZ]at o0 o1 c0 c1 c2 c3 c4; clear hw1 hw2; go_simp; rfl) ?_
      simp only[Act.put,aM,aN,aO];refine ah 4 rfl (by kernel_rfl) (by kernel_rfl) (by kernel_rfl) (fun _ _ _ h=>h) rfl S0.out (by rintro w' ⟨hw1,hw2⟩; have o0:=ac (k:=0) hw1; have o1:=ac (k:=1) hw1; have c0:=ac (k:=0) hw2; have c1:=ac (k:=1) hw2; have c2:=ac (k:=2) hw2; have c3:=ac (k:=3) hw2; have c4:=ac (k:=4) hw2; simp only[List.getElem?_toArray,bZ]at o0 o1 c0 c1 c2 c3 c4; clear hw1 hw2; go_simp; rfl) ?_
      simp only[Act.put,aM,aN,aO];refine ah 6 rfl (by kernel_rfl) (by kernel_rfl) (by kernel_rfl) (fun _ _ _ h=>h) rfl S0.out (by rintro w' ⟨hw1,hw2⟩; have o0:=ac (k:=0) hw1; have o1:=ac (k:=1) hw1; have c0:=ac (k:=0) hw2; have c1:=ac (k:=1) hw2; have c2:=ac (k:=2) hw2; have c3:=ac (k:=3) hw2; have c4:=ac (k:=4) hw2; simp only[List.getElem?_toArray,bZ]at o0 o1 c0 c1 c2 c3 c4; clear hw1 hw2; go_simp; rfl) ?_
      simp only[Act.put,aM,aN,aO];refine bi 3 rfl (by kernel_rfl) rfl (fun K hK=> ?_);go_wp2_with (go_at_call 38; refine(pp (· <base) prev (.slice fa fl fc) W0 HFB.out HND.out hlen).mono ?_; rintro e w5 ⟨mb,rfl,hmb,hfm,hb5⟩; have HB5:=ab hb5; have HFM:=ab hfm; have hz5:=hb5.size; clear hb5 hfm);have S5:=ab (And.intro ((HB5.out.block _ (lt_of_block HX0.out)).trans HX0.out) ((HB5.out.block _ (lt_of_block HC0.out)).trans HC0.out))
      refine⟨S5.out, ?_⟩;refine bi 5 rfl (by kernel_rfl) rfl (fun K hK=> ?_);go_wp2_with (go_at_call 39; refine(od (· <base) prev (.slice fa fl fc) w5 (HFB.out.below HB5.out)).mono ?_; rintro e w6 ⟨kb,rfl,hkb,hkn,hb6⟩; have HB6:=ab hb6; have HKN:=ab hkn; have hz6:=hb6.size; clear hb6 hkn);have HB06:=ab (af HB5.out HB6.out);have S6:=ab (And.intro ((HB06.out.block _ (lt_of_block HX0.out)).trans HX0.out) ((HB06.out.block _ (lt_of_block HC0.out)).trans HC0.out))
      refine⟨S6.out, ?_⟩;refine ah 7 rfl (by kernel_rfl) (by kernel_rfl) (by kernel_rfl) (fun _ _ _ h=>h) rfl S6.out (by rintro w' ⟨hw1,hw2⟩; have o0:=ac (k:=0) hw1; have o1:=ac (k:=1) hw1; have c0:=ac (k:=0) hw2; have c1:=ac (k:=1) hw2; have c2:=ac (k:=2) hw2; have c3:=ac (k:=3) hw2; have c4:=ac (k:=4) hw2; simp only[List.getElem?_toArray,bZ]at o0 o1 c0 c1 c2 c3 c4; clear hw1 hw2; go_simp; rfl) ?_
      simp only[Act.put,aM,aN,aO];refine bi 8 rfl (by kernel_rfl) rfl (fun K hK=> ?_);go_wp2_with fail;obtain⟨wc,hwc⟩: ∃wc,wc=w6.alloc (.cells (bL ⟨0, .slice none 0 0, .slice none 0 0,0,0,prev.tm,mb,c⟩ kb (.slice none 0 0)).toArray 95):=⟨_,rfl⟩;have HBC:=ab (show Below w6.heap.size w6 wc by rw[hwc]; exact(Below.refl _ _).alloc (Nat.le_refl _) _);have HCB:=ab (show wc.heap[w6.heap.size]? =some (.cells (bL ⟨0, .slice none 0 0, .slice none 0 0,0,0,prev.tm,mb,c⟩ kb (.slice none 0 0)).toArray 95 (0,0)) by rw[hwc]; exact heap_alloc_new w6 _)
      have hwc2:=hwc;simp only[bL,bO,List.cons_append,List.nil_append]at hwc2;have HB0C:=ab (af HB06.out HBC.out);have SC:=ab (And.intro ((HB0C.out.block _ (lt_of_block HX0.out)).trans HX0.out) ((HB0C.out.block _ (lt_of_block HC0.out)).trans HC0.out));have hb0:=HBS.out;have HCO:=ab (show cu W0 wc base w6.heap.size kb ⟨0, .slice none 0 0, .slice none 0 0,0,0,prev.tm,mb,c⟩ (.slice none 0 0) prev.files ⟨[],km prev.files,[],0,0⟩from
       ⟨⟨HCB.out,⟨[],rfl,World.ownsRow_nil _ _ _ _,by simp⟩,HKN.out.below HBC.out⟩,bq.nil _ _,(HFM.out.below HB6.out).below HBC.out,by rw[hb0]; exact HB0C.out,by have:=HFM.out.lt; show mb≠kb; omega,rfl,rfl⟩)
      have hzc:w6.heap.size<wc.heap.size:=lt_of_block HCB.out;have hwc3:w6.alloc (.cells #[.int .i64 0, .slice none 0 0, .slice none 0 0, .slice none 0 0, .int .i64 0, .int .i64 0, .int .i64 prev.tm, .map (some mb), .map (some kb), .int .i64 c.mn, .int .i64 c.mx, .int .i64 c.win, .int .i64 c.bits, .int .u64 (c.seed:Int)] 95)=wc:=hwc.symm;rw[hwc3];clear hwc hwc2 hwc3;refine⟨SC.out, ?_⟩
      refine ah 9 rfl (by kernel_rfl) (by kernel_rfl) (by kernel_rfl) (fun _ _ _ h=>h) rfl SC.out (by rintro w' ⟨hw1,hw2⟩; have o0:=ac (k:=0) hw1; have o1:=ac (k:=1) hw1; have c0:=ac (k:=0) hw2; have c1:=ac (k:=1) hw2; have c2:=ac (k:=2) hw2; have c3:=ac (k:=3) hw2; have c4:=ac (k:=4) hw2; simp only[List.getElem?_toArray,bZ]at o0 o1 c0 c1 c2 c3 c4; clear hw1 hw2; go_simp; rfl) ?_
      simp only[Act.put,aM,aN,aO];refine cz (by kernel_rfl) ?_;have k0:=ac (k:=0) HCB.out;have f0:=aE (k:=0) HCB.out;simp only[bL,bO,List.cons_append,List.nil_append,List.getElem?_toArray,List.getElem?_cons_zero]at k0
      go_upto_region 11 with fail
      obtain⟨wd,hwd⟩: ∃wd,wd=wc.setCell ⟨w6.heap.size,0,none⟩ (.int .i64 tm):=⟨_,rfl⟩;rw[<-hwd];obtain⟨cb,hcb⟩: ∃cb,cb=w6.heap.size:=⟨_,rfl⟩;have HCO2:=ab (show cu W0 wd base cb kb ⟨tm, .slice none 0 0, .slice none 0 0,0,0,prev.tm,mb,c⟩ (.slice none 0 0) prev.files ⟨[],km prev.files,[],0,0⟩ by
       rw[hwd,hcb];exact HCO.out.setq 0 (.int .i64 tm) (q':=⟨tm, .slice none 0 0, .slice none 0 0,0,0,prev.tm,mb,c⟩) (by simp[bL]) rfl rfl rfl rfl rfl rfl rfl (by omega) (by omega))
      have hzd:wd.heap.size=wc.heap.size:=by rw[hwd]; simp[World.setCell]
      rw[<-hcb];have hcbb:base<=cb:=by omega
      have hkbb:base<=kb:=by omega
      clear hwd k0 f0 hcb;have h6:6<=base:=by have:=HE0.out.six; omega
      have hTO:=dP.1 HZ.out;have HVE:=ab hTO.val;have htl2:tl<=4096:=by have h1:=hTO.len; rwa [<-HTL.out]at h1
      obtain⟨us,hus,hig⟩:=wt HPE.out;have HIG:=ab hig;have HPT:=ab (show ∀r∈rs,r.pat.length<=9223372036854775807 from fun r hr=>by have:=(pO HPE.out).2.2.2 r hr; omega);have hz34':w3.heap.size<=base:=by have:=HBS.out; omega
      have HRB:=ab (show bt (· <base) W0 rv rs from wZ (wY (bt.below (bt.below HRU.out HB34.out) HB40.out)) (fun k hk=>by have:=HBS.out; rw[this]; exact hk));clear hTO hus hig;go_wp2_with fail
      go_loopw [70] (fun i wr=> ∃(k:Nat) (fv' nv':Value) (rd kp:Nat),k<=tl/\i= .int .i64 k/\cu W0 wr base cb kb ⟨tm,fv', .slice none 0 0,rd,kp,prev.tm,mb,c⟩ nv' prev.files (bV prev.tm prev.files c (bB rs (tree.take k)))) (fun i _=>tl-(intOf i).toNat)
      case atStart=>exact⟨0,_,_,0,0,Nat.zero_le _,rfl,HCO2.out⟩
      case round=>
       obtain⟨k,fv',nv',rd,kp,hk,rfl,hco⟩:=hrel;have HCK:=ab hco;have HBK:=ab hco.old;have hzk:=hco.old.size;clear hco
       by_cases hlt:k<tl
       ·obtain⟨e,he⟩: ∃e,tree[k]? =some e:=⟨_,List.getElem?_eq_getElem (show k<tree.length by rw[<-HTL.out]; exact hlt)⟩;have HTK:=ab (wg HTB.out HBK.out);obtain⟨b,o,dv,rfl,-,-,hd,heok,-,q0,q1,q2,q3,q4,q5⟩:=kT HTK.out he;obtain⟨da,dc,rfl,hd1,hd2⟩:=hd.slice;have HAT:=ab he;have HDA:=ab hd;have HEO:=ab heok;have hve:=HVE.out e (List.mem_of_getElem? he)
        have HVL:=ab hve;have hk256:(tree.take k).length<=k:=List.length_take_le _ _;have hKl:(bB rs (tree.take k)).length<=k:=Nat.le_trans (List.length_filter_le _ _) hk256;have HKV:=ab (show ∀x∈bB rs (tree.take k),dI x=true from fun x hx=>HVE.out x (List.take_subset _ _ (gE hx).1));obtain⟨ig,hig⟩: ∃ig,cA rs (bl e.path) (e.kind == 2)=(ig,0):=⟨_,HIG.out _ _ (bJ hve)⟩
        have HIGE:=ab hig;have HIGK:=ab (show mH rs e=ig by unfold mH; rw[show decide (e.kind=2)=(e.kind == 2)from rfl,hig]);have HAL:=ab ((Below.refl wr.heap.size wr).alloc (Nat.le_refl _) (.cells #[.string e.path, .int .i64 e.kind, .int .i64 e.mode, .int .i64 e.time, .slice da e.data.length dc, .string e.link] 30));have HRK:=ab (bt.below (bt.old HRB.out HBK.out) HAL.out)
        have HEK:=ab ((HE0.out.keep HBK.out h6).below HAL.out);clear he hd heok hve hig
        go_upto_region 15 with(go_at_call 40; refine(qY rs (· <base) rv e.path (e.kind == 2) ig _ HEK.out.env HRK.out HPT.out HIGE.out).mono ?_; rintro e8 w8 ⟨rfl,hb8⟩; have HB8:=ab (af HAL.out hb8); have HY8:=ab ((hb8.block _ (by simp)).trans (heap_alloc_new wr (.cells #[.string e.path, .int .i64 e.kind, .int .i64 e.mode, .int .i64 e.time, .slice da e.data.length dc, .string e.link] 30))); clear hb8)
        have hz8:=HB8.out.size;have HC8:=ab (HCK.out.below HB8.out (by omega))
        cases hg:ig with
        | true=>
         subst hg;go_wp2_with fail
         go_roundw
         case rel=>
          refine⟨k+1,fv',nv',rd,kp,by omega,rfl, ?_⟩;rw[aY HAT.out,tH HIGK.out];exact HC8.out
         case measure=>simp only[intOf,Int.toNat_natCast]; omega
        | false=>
         subst hg;have HD8:=ab (show bM (· <base) w8 (.slice da e.data.length dc) e.data from aD.same HDA.out (fun i hi=>HB8.out.block i (by omega)));have HE8:=ab (HE0.out.keep HC8.out.old h6);have x0:=ac (k:=0) HY8.out;have x1:=ac (k:=1) HY8.out;have x2:=ac (k:=2) HY8.out;have x3:=ac (k:=3) HY8.out;have x4:=ac (k:=4) HY8.out;have x5:=ac (k:=5) HY8.out
         simp only[List.getElem?_toArray,bZ]at x0 x1 x2 x3 x4 x5;have hnw:=xe (tm:=prev.tm) (prev:=prev.files) HVC.out HKV.out;have hadd:=uB W0 base cb kb ⟨tm,fv', .slice none 0 0,rd,kp,prev.tm,mb,c⟩ nv' (.slice da e.data.length dc) prev.files (bV prev.tm prev.files c (bB rs (tree.take k))) e w8 HC8.out HD8.out HEO.out HVL.out HVC.out hs HE8.out hcbb hkbb (by omega) h6 (by omega)
          (by show(List.map _ _).length<=_; rw[List.length_map]; omega) (by show(List.filter _ _).length<=_; exact Nat.le_trans (List.length_filter_le _ _) (by omega)) (by show(List.filter _ _).length<=_; exact Nat.le_trans (List.length_filter_le _ _) (by omega)) HPL.out
         have HADD:=ab hadd;clear hnw hadd
         go_upto_region 19 with(go_at_call 41; refine HADD.out.mono ?_; rintro e9 w9 ⟨fv2,nv2,rd2,kp2,rfl,hco9,hb9⟩; have HC9:=ab hco9; clear hco9 hb9)
         go_wp2_with fail
         go_roundw
         case rel=>
          refine⟨k+1,fv2,nv2,rd2,kp2,by omega,rfl, ?_⟩;rw[aY HAT.out,tI HIGK.out,xd];exact HC9.out
         case measure=>simp only[intOf,Int.toNat_natCast]; omega
       ·have hkt:k=tl:=by omega
        subst hkt;have htk:tree.take k=tree:=List.take_of_length_le (by rw[<-HTL.out]; exact Nat.le_refl _);rw[htk]at HCK;clear htk
        go_upto_region 22 with fail
        obtain⟨s,hss⟩: ∃s,s=bV prev.tm prev.files c (bB rs tree):=⟨_,rfl⟩;rw[<-hss]at HCK;have HSK:=ab hss;obtain⟨zsF,-,hzrF,-⟩:=HCK.out.files.row;obtain⟨fva,fvc,hfv,-,-⟩:=ak hzrF;obtain⟨ysN,-,hysN,-⟩:=HCK.out.col.news;obtain⟨nva,nvc,hnv,-,-⟩:=ak hysN;obtain⟨fvn,hfvn⟩: ∃n,n=zsF.length:=⟨_,rfl⟩;obtain⟨nvn,hnvn⟩: ∃n,n=ysN.length:=⟨_,rfl⟩
        rw[<-hfvn]at hfv;rw[<-hnvn]at hnv;have hfv:fv'= .slice fva fvn fvc:=hfv;have hnv:nv'= .slice nva nvn nvc:=hnv;clear hzrF hysN hfvn hnvn;subst hfv hnv;have HOUT:=ab (yz (tree:=tree) HOK.out HPE.out HZ.out hss);have hsf:s.files.length<=4096:=by
         rw[hss]
         show(List.map _ _).length<=_
         rw[List.length_map];have h1:(bB rs tree).length<=tree.length:=List.length_filter_le _ _;have:=HTL.out;omega
        obtain⟨q,hq⟩: ∃q:fw,q=⟨tm,(.slice fva fvn fvc), .slice none 0 0,rd,kp,prev.tm,mb,c⟩:=⟨_,rfl⟩;have HQ:=ab hq;obtain⟨WE,hWE⟩: ∃WE:World,WE=wr.drew:=⟨_,rfl⟩;have HBE:=ab (show Below wr.heap.size wr WE by rw[hWE]; exact(Below.refl _ _).drew);have HCE:=ab (HCK.out.below HBE.out (by omega));have HBXE:=ab (show WE.heap[cb]? =some (.cells (bL ⟨tm,(.slice fva fvn fvc), .slice none 0 0,rd,kp,prev.tm,mb,c⟩ kb (.slice nva nvn nvc)).toArray 95 (0,0))from HCE.out.col.box)
        have hzE:=HBE.out.size;have hwb:w.heap.size<base:=by omega
        have HXE:=ab ((HCE.out.old.block _ hwb).trans HX0.out);have HFE:=ab (show aQ (fun i=>base<=i) WE (.slice fva fvn fvc) s.files from HCE.out.files.at);have HFP:=ab (show aQ (· <base) WE (.slice fa fl fc) prev.files from by
         obtain⟨cells,h1,h2⟩:=HFB.out;exact⟨cells,aD.same h1 (fun i hi=>HCE.out.old.block i hi),h2.mono fun c x _ ⟨u,e1,e2,e3⟩=>⟨u,e1,e2.old HCE.out.old,e3⟩⟩)
        have SE:=ab (And.intro HXE.out HBXE.out);clear hss hq;refine dw (fun w'=>w'.heap[w.heap.size]? =some (.cells #[.int .i64 prev.tm, .slice fa fl fc] 24 (0,0))/\w'.heap[cb]? =some (.cells (bL ⟨tm,(.slice fva fvn fvc), .slice none 0 0,rd,kp,prev.tm,mb,c⟩ kb (.slice nva nvn nvc)).toArray 95 (0,0))) (by kernel_rfl) (by kernel_rfl) ?_;simp only[List.dropLast_cons_cons,List.dropLast_singleton,List.length_cons,List.length_nil,Nat.reduceAdd,Nat.reduceSub]
        rw[<-hWE];clear hWE;refine ah 0 rfl (by kernel_rfl) (by kernel_rfl) (by kernel_rfl) (fun _ _ _ h=>h) rfl SE.out (by rintro w' ⟨hw1,hw2⟩; have o0:=ac (k:=0) hw1; have o1:=ac (k:=1) hw1; have c0:=ac (k:=0) hw2; have c1:=ac (k:=1) hw2; simp only[bL,bO,List.cons_append,List.nil_append,List.getElem?_toArray,bZ]at o0 o1 c0 c1; clear hw1 hw2; go_simp; rfl) ?_
        simp only[Act.put,aM,aN,aO];refine ah 1 rfl (by kernel_rfl) (by kernel_rfl) (by kernel_rfl) (fun _ _ _ h=>h) rfl SE.out (by rintro w' ⟨hw1,hw2⟩; have o0:=ac (k:=0) hw1; have o1:=ac (k:=1) hw1; have c0:=ac (k:=0) hw2; have c1:=ac (k:=1) hw2; simp only[bL,bO,List.cons_append,List.nil_append,List.getElem?_toArray,bZ]at o0 o1 c0 c1; clear hw1 hw2; go_simp; rfl) ?_
        simp only[Act.put,aM,aN,aO];refine ah 2 rfl (by kernel_rfl) (by kernel_rfl) (by kernel_rfl) (fun _ _ _ h=>h) rfl SE.out (by rintro w' ⟨hw1,hw2⟩; have o0:=ac (k:=0) hw1; have o1:=ac (k:=1) hw1; have c0:=ac (k:=0) hw2; have c1:=ac (k:=1) hw2; simp only[bL,bO,List.cons_append,List.nil_append,List.getElem?_toArray,bZ]at o0 o1 c0 c1; clear hw1 hw2; go_simp; rfl) ?_
        simp only[Act.put,aM,aN,aO];refine ah 3 rfl (by kernel_rfl) (by kernel_rfl) (by kernel_rfl) (fun _ _ _ h=>h) rfl SE.out (by rintro w' ⟨hw1,hw2⟩; have o0:=ac (k:=0) hw1; have o1:=ac (k:=1) hw1; have c0:=ac (k:=0) hw2; have c1:=ac (k:=1) hw2; simp only[bL,bO,List.cons_append,List.nil_append,List.getElem?_toArray,bZ]at o0 o1 c0 c1; clear hw1 hw2; go_simp; rfl) ?_
        simp only[Act.put,aM,aN,aO];refine ah 4 rfl (by kernel_rfl) (by kernel_rfl) (by kernel_rfl) (fun _ _ _ h=>h) rfl SE.out (by rintro w' ⟨hw1,hw2⟩; have o0:=ac (k:=0) hw1; have o1:=ac (k:=1) hw1; have c0:=ac (k:=0) hw2; have c1:=ac (k:=1) hw2; simp only[bL,bO,List.cons_append,List.nil_append,List.getElem?_toArray,bZ]at o0 o1 c0 c1; clear hw1 hw2; go_simp; rfl) ?_
        simp only[Act.put,aM,aN,aO];refine ah 5 rfl (by kernel_rfl) (by kernel_rfl) (by kernel_rfl) (fun _ _ _ h=>h) rfl SE.out (by rintro w' ⟨hw1,hw2⟩; have o0:=ac (k:=0) hw1; have o1:=ac (k:=1) hw1; have c0:=ac (k:=0) hw2; have c1:=ac (k:=1) hw2; simp only[bL,bO,List.cons_append,List.nil_append,List.getElem?_toArray,bZ]at o0 o1 c0 c1; clear hw1 hw2; go_simp; rfl) ?_
        simp only[Act.put,aM,aN,aO];refine ah 6 rfl (by kernel_rfl) (by kernel_rfl) (by kernel_rfl) (fun _ _ _ h=>h) rfl SE.out (by rintro w' ⟨hw1,hw2⟩; have o0:=ac (k:=0) hw1; have o1:=ac (k:=1) hw1; have c0:=ac (k:=0) hw2; have c1:=ac (k:=1) hw2; simp only[bL,bO,List.cons_append,List.nil_append,List.getElem?_toArray,bZ]at o0 o1 c0 c1; clear hw1 hw2; go_simp; rfl) ?_
        simp only[Act.put,aM,aN,aO];refine bi 7 rfl (by kernel_rfl) rfl (fun K hK=> ?_);have hlen2:prev.files.length<=4096:=hlen;go_wp2_with (go_at_call 42; refine(oU (· <base) (fun i=>base<=i) prev ⟨tm,s.files⟩ (.slice fa fl fc) (.slice fva fvn fvc) WE HFP.out HFE.out hlen2 hsf).mono ?_; rintro e9 w9 ⟨cv,rfl,ho9,hb9⟩; obtain⟨va,vc,rfl,-,-⟩:=ak ho9; have HO9:=ab ho9; have HB9:=ab hb9; have hz9:=hb9.size; clear ho9 hb9)
        obtain⟨vn,hvn⟩: ∃n,n=(lk prev.files s.files).length:=⟨_,rfl⟩;rw[<-hvn]at HO9 ⊢;have HVN:=ab hvn;clear hvn;have HC9:=ab (HCE.out.below HB9.out (by omega));have HBX9:=ab (show w9.heap[cb]? =some (.cells (bL ⟨tm,(.slice fva fvn fvc), .slice none 0 0,rd,kp,prev.tm,mb,c⟩ kb (.slice nva nvn nvc)).toArray 95 (0,0))from HC9.out.col.box);have S9:=ab (And.intro ((HB9.out.block _ (lt_of_block HXE.out)).trans HXE.out) HBX9.out)
        refine⟨S9.out, ?_⟩;refine ah 8 rfl (by kernel_rfl) (by kernel_rfl) (by kernel_rfl) (fun _ _ _ h=>h) rfl S9.out (by rintro w' ⟨hw1,hw2⟩; have o0:=ac (k:=0) hw1; have o1:=ac (k:=1) hw1; have c0:=ac (k:=0) hw2; have c1:=ac (k:=1) hw2; simp only[bL,bO,List.cons_append,List.nil_append,List.getElem?_toArray,bZ]at o0 o1 c0 c1; clear hw1 hw2; go_simp; rfl) ?_
        simp only[Act.put,aM,aN,aO];refine ah 9 rfl (by kernel_rfl) (by kernel_rfl) (by kernel_rfl) (fun _ _ _ h=>h) rfl S9.out (by rintro w' ⟨hw1,hw2⟩; have o0:=ac (k:=0) hw1; have o1:=ac (k:=1) hw1; have c0:=ac (k:=0) hw2; have c1:=ac (k:=1) hw2; simp only[bL,bO,List.cons_append,List.nil_append,List.getElem?_toArray,bZ]at o0 o1 c0 c1; clear hw1 hw2; go_simp; rfl) ?_
        simp only[Act.put,aM,aN,aO];refine ah 10 rfl (by kernel_rfl) (by kernel_rfl) (by kernel_rfl) (fun _ _ _ h=>h) rfl S9.out (by rintro w' ⟨hw1,hw2⟩; have o0:=ac (k:=0) hw1; have o1:=ac (k:=1) hw1; have c0:=ac (k:=0) hw2; have c1:=ac (k:=1) hw2; simp only[bL,bO,List.cons_append,List.nil_append,List.getElem?_toArray,bZ]at o0 o1 c0 c1; clear hw1 hw2; go_simp; rfl) ?_
        simp only[Act.put,aM,aN,aO];refine cz (by kernel_rfl) ?_;refine dE rfl rfl (fun K hK=> ?_);have k2:=ac (k:=2) HBX9.out;have f2:=aE (k:=2) HBX9.out;simp only[bL,bO,List.cons_append,List.nil_append,List.getElem?_toArray,bZ]at k2
        go_upto_region 23 with fail
        obtain⟨WF,hWF⟩: ∃WF,WF=w9.setCell ⟨cb,2,none⟩ (.slice va vn vc):=⟨_,rfl⟩;rw[<-hWF];have HCF:=ab (show cu W0 WF base cb kb ⟨tm,(.slice fva fvn fvc),(.slice va vn vc),rd,kp,prev.tm,mb,c⟩ (.slice nva nvn nvc) prev.files s by
         rw[hWF];exact HC9.out.setq 2 (.slice va vn vc) (q':=⟨tm,(.slice fva fvn fvc),(.slice va vn vc),rd,kp,prev.tm,mb,c⟩) (by simp[bL]) rfl rfl rfl rfl rfl HC9.out.rd HC9.out.kp hcbb (by omega))
        have HOF:=ab (show WF.ownsRow WE.heap.size 60 2 (.slice va vn vc) vn (eB (lk prev.files s.files)) by
         rw[hWF];refine bv HO9.out (fun i hi hv=>Below.heap_setCell _ _ _ _ (fun e1=> ?_));obtain⟨cs2,hc2⟩:=aC HO9.out hv;rw[e1]at hc2;exact absurd (aG HBX9.out hc2) (by decide))
        have HBXF:=ab (show WF.heap[cb]? =some (.cells (bL ⟨tm,(.slice fva fvn fvc),(.slice va vn vc),rd,kp,prev.tm,mb,c⟩ kb (.slice nva nvn nvc)).toArray 95 (0,0))from HCF.out.col.box);have hzF:=HCF.out.old.size;have HRF:=ab ((HCF.out.old.block _ (show w.heap.size+1+1<base by omega)).trans HR0.out);have m0:=ac (k:=0) HBXF.out;have m1:=ac (k:=1) HBXF.out;have m2:=ac (k:=2) HBXF.out
        have m3:=ac (k:=3) HBXF.out;have m4:=ac (k:=4) HBXF.out;have m5:=ac (k:=5) HBXF.out;simp only[bL,bO,List.cons_append,List.nil_append,List.getElem?_toArray,bZ]at m0 m1 m2 m3 m4 m5;clear hWF k2 f2;have z0:=ac (k:=0) HRF.out;have z1:=ac (k:=1) HRF.out;have z2:=ac (k:=2) HRF.out;have z3:=ac (k:=3) HRF.out;have z4:=ac (k:=4) HRF.out
        have z5:=ac (k:=5) HRF.out;simp only[List.getElem?_toArray,bZ]at z0 z1 z2 z3 z4 z5;have g0:=aE (k:=0) HRF.out;have g1:=aE (k:=1) HRF.out;have g2:=aE (k:=2) HRF.out;have g3:=aE (k:=3) HRF.out;have g4:=aE (k:=4) HRF.out;have g5:=aE (k:=5) HRF.out;go_wp2_with fail;refine iu HRF.out rfl rfl rfl ?_;have hzW:w.heap.size+3<=base:=by omega
        have hBWF:Below w.heap.size w WF:=(HBW.out.trans (HBZ.out.mono (by have:=HSZ.out; omega))).trans (HCF.out.old.mono (by omega));refine⟨jI hBWF (by omega) (by omega), ?_⟩;rw[HOUT.out];have hrd:rd=s.read:=HCF.out.rd;have hkp:kp=s.kept:=HCF.out.kp;refine⟨_,_,_,by rw[hrd,hkp]; rfl, ?_, ?_, ?_⟩
        ·exact(HCF.out.files.le (show w.heap.size<=base by omega)).same fun i cs2 t2 hi hib hc2 ht2=>rj (fun e1=>by
          rw[e1]at hc2;have h1:=aG HRF.out hc2
          rcases ht2 with⟨rfl,_⟩ | rfl
          ·exact absurd h1 (by decide)
          ·exact absurd h1 (by decide))
        ·rw[show(lk prev.files s.files).length=vn from HVN.out.symm];refine bv (bI HOF.out (by omega)) (fun i hi hv=>rj (fun e1=> ?_));have:=(HOF.out.lt i hv).1;omega
        ·exact(HCF.out.col.news.le (show w.heap.size<=base by omega)).same fun i cs2 t2 hi hib hc2 ht2=>rj (fun e1=>by
          rw[e1]at hc2;have h1:=aG HRF.out hc2
          rcases ht2 with ht2 | rfl
          ·obtain⟨ys,_,h3,_⟩:=HCF.out.col.news;obtain⟨cs3,h4⟩:=aC h3 ht2;rw[e1]at h4;exact absurd (aG HRF.out h4) (by decide)
          ·exact absurd h1 (by decide))
     ·have HBAD:=ab (uF (tree:=tree) HOK.out HPE.out HZ.out hz0);have HR1:=ab ((HB4.out.block _ (lt_of_block HR.out)).trans HR.out);have z0:=ac (k:=0) HR1.out;have z1:=ac (k:=1) HR1.out;have z2:=ac (k:=2) HR1.out;have z3:=ac (k:=3) HR1.out;have z4:=ac (k:=4) HR1.out;have z5:=ac (k:=5) HR1.out;simp only[List.getElem?_toArray,bZ]at z0 z1 z2 z3 z4 z5
      have g0:=aE (k:=0) HR1.out;have g1:=aE (k:=1) HR1.out;have g2:=aE (k:=2) HR1.out;have g3:=aE (k:=3) HR1.out;have g4:=aE (k:=4) HR1.out;have g5:=aE (k:=5) HR1.out;go_wp2_with fail;refine iu HR1.out rfl rfl rfl ?_;refine⟨jI (HBW.out.trans (HB4.out.mono (by have:=HSZ.out; omega))) (by omega) (by have:=HB4.out.size; have:=HSZ.out; omega), ?_⟩
      rw[HBAD.out];exact⟨rfl,hz0⟩
    ·have HBAD:=ab (rJ (tree:=tree) HOK.out HPE.out hx);have HR1:=ab ((HB3.out.block _ (lt_of_block HR.out)).trans HR.out);have z0:=ac (k:=0) HR1.out;have z1:=ac (k:=1) HR1.out;have z2:=ac (k:=2) HR1.out;have z3:=ac (k:=3) HR1.out;have z4:=ac (k:=4) HR1.out;have z5:=ac (k:=5) HR1.out;simp only[List.getElem?_toArray,bZ]at z0 z1 z2 z3 z4 z5
     have g0:=aE (k:=0) HR1.out;have g1:=aE (k:=1) HR1.out;have g2:=aE (k:=2) HR1.out;have g3:=aE (k:=3) HR1.out;have g4:=aE (k:=4) HR1.out;have g5:=aE (k:=5) HR1.out;go_wp2_with fail;refine iu HR1.out rfl rfl rfl ?_;refine⟨jI (HBW.out.trans (HB3.out.mono (by have:=HSZ.out; omega))) (by omega) (by have:=HB3.out.size; have:=HSZ.out; omega), ?_⟩
     rw[HBAD.out];exact⟨rfl,hx⟩
end Go.Proofs.YtnjkpcalgoefhaaGreatDoor
namespace Go.Proofs.YtnjkpcalgoefhaaGreatDoor
open Go.RowKit
def gy :cP:=⟨4,8,4,20,0⟩
theorem jm :di gy=true:=by decide
def vh (l:List UInt8):ByteArray:=⟨l.toArray⟩
def xW :aU:=⟨vh [100],2,0,0,[],vh []⟩
def kq (d:List UInt8):aU:=⟨vh [100,47,102],1,0,5,d,vh []⟩
def cU (d:List UInt8):List aU:=[xW,kq d]
def bP (ps:List bo):List am:=[⟨vh [100],2,0,0,0,vh [],[]⟩,⟨vh [100,47,102],1,0,5,3,vh [],ps⟩]
theorem pf :bD gy [97,98,99]=[[97,98,99]]:=by decide+kernel
theorem gS (d:List UInt8) (h:d=[97,98,99]\/d=[97,98,100]):cd (cU d)=0:=by
 rcases h with rfl | rfl<;> decide+kernel
theorem dU :bC []=([],0,0):=by kernel_rfl
theorem sJ (T:List aU):bB [] T=T:=by
 have h: ∀(f n:Nat) (d:Bool) (p:List (List UInt8)),bH d p [] f n=false:=by
  intro f
  induction f with
  | zero=>intros; rfl
  | succ f ih=>intro n d p; simp[bH,dL,ih]
 unfold bB;rw[List.filter_eq_self];intro e _;unfold mH cA
 split
 ·rfl
 ·simp[aH,h]
def yS :aF:=⟨[100],false,true,false⟩
theorem sR :bC [100,47]=([yS],0,0):=by kernel_rfl
theorem zz (d:List UInt8) (h:d=[97,98,100]):bB [yS] (cU d)=[]:=by
 subst h; decide+kernel
theorem yT :cE ⟨0,[]⟩ 10 (cU [97,98,99]) [] gy= .ok ⟨⟨10,bP [aZ [97,98,99]]⟩,[(vh [100],1),(vh [100,47,102],1)],[[97,98,99]],1,0⟩:=by
 unfold cE;rw[if_pos ⟨by decide+kernel,by decide,jm⟩,if_pos (by rw[dU]),if_pos (gS _ (.inl rfl)),dU,sJ];have hk:kB 0 [] (kq [97,98,99])=true:=rfl;have hd: ∀d,kB 0 [] xW=false/\ka 0 [] xW=false/\ka 0 [] (kq d)=false:=fun d=>⟨rfl,rfl,rfl⟩
 have h1:bV 0 [] gy (cU [97,98,99])=⟨bP [aZ [97,98,99]],[fX [97,98,99]],[[97,98,99]],1,0⟩:=by
  have e1:bU 0 [] gy (kq [97,98,99])=[aZ [97,98,99]]:=by
   rw[fG hk]
   show(bD gy [97,98,99]).map aZ=_
   rw[pf]; rfl
  have e2:(cU [97,98,99]).filter (kB 0 [])=[kq [97,98,99]]:=rfl;have e3:(cU [97,98,99]).filter (ka 0 [])=[]:=rfl;unfold bV;rw[e2,e3];have e4:(cU [97,98,99]).map (bA 0 [] gy)=bP [aZ [97,98,99]]:=by
   unfold cU;simp only[List.map_cons,List.map_nil];unfold bA;rw[e1]; rfl
  rw[e4];simp only[List.flatMap_cons,List.flatMap_nil,List.append_nil];rw[show bD gy (kq [97,98,99]).data=[[97,98,99]]from pf]
  rfl
 rw[h1]
 generalize [aZ [97,98,99]]=ps
 rfl
theorem sI :fb ⟨10,bP [aZ [97,98,99]]⟩=true:=by
 have h:=ws (rules:=[]) (T:=cU [97,98,99]) (prev:=⟨0,[]⟩) (tm:=10) (c:=gy) dU (gS _ (.inl rfl)) (by decide+kernel) (by decide) jm;have h2:=yT;unfold cE at h2;rw[if_pos ⟨by decide+kernel,by decide,jm⟩,if_pos (by rw[dU]),if_pos (gS _ (.inl rfl)),dU]at h2;have h3:(bV 0 [] gy (bB [] (cU [97,98,99]))).files=bP [aZ [97,98,99]]:=by
  have:=Except.ok.inj h2;exact congrArg (fun r=>r.idx.files) this
 have h4:(bB [] (cU [97,98,99])).map (bA 0 [] gy)=bP [aZ [97,98,99]]:=h3;rw[<-h4]; exact h
theorem zF :cE ⟨10,bP [aZ [97,98,99]]⟩ 20 (cU [97,98,100]) [] gy= .ok ⟨⟨20,bP [aZ [97,98,99]]⟩,[],[],0,1⟩:=by
 have hi:=sI
 revert hi
 generalize [aZ [97,98,99]]=ps
 intro hi;unfold cE;rw[if_pos ⟨hi,show(10:Int)<=20 by decide,jm⟩,if_pos (by rw[dU]),if_pos (gS _ (.inr rfl)),dU,sJ];have e4:(cU [97,98,100]).map (bA 10 (bP ps) gy)=bP ps:=rfl;have e2:(cU [97,98,100]).filter (kB 10 (bP ps))=[]:=rfl;have e3:((cU [97,98,100]).filter (ka 10 (bP ps))).length=1:=rfl;unfold bV
 simp only;rw[e2,e3,e4,show lk (bP ps) (bP ps)=[]from lm _ _]
 rfl
theorem zG :cE ⟨10,bP [aZ [97,98,99]]⟩ 20 (cU [97,98,100]) [100,47] gy= .ok ⟨⟨20,[]⟩,[(vh [100],4),(vh [100,47,102],4)],[],0,0⟩:=by
 have hi:=sI
 revert hi
 generalize [aZ [97,98,99]]=ps
 intro hi;unfold cE;rw[if_pos ⟨hi,show(10:Int)<=20 by decide,jm⟩,if_pos (by rw[sR]),if_pos (gS _ (.inr rfl)),sR,zz _ rfl]
 rfl
open Go Go.RowKit Go.Maps
theorem zy (r r':bo) (w:World):(Op.equalIn 10000 82 (kA r) (kA r')).run Tryz.prog w= .ok (decide (r=r')) w:=by
 have u1:=Tryz.underlying9;have u2:=Tryz.underlying3;have hS:Tryz.prog.underlying 82=some (.struct (Tryz.prog.fieldsOf 82)):=by kernel_rfl
 rw[show(10000:Nat)=9999+1 from rfl];unfold kA;rw[run_equalIn_struct w 9999 82 _ _ hS (by kernel_rfl)];simp only[Program.fieldsOf,Tryz.underlying82]
 go_simp
 obtain⟨n,s⟩:=r;obtain⟨n',s'⟩:=r';have hn:n.toList=n'.toList<->n=n':=⟨fun h=>iM (by rw[<-bz,<-bz,h]),fun h=>by rw[h]⟩;simp only[bo.mk.injEq,hn]
 by_cases h1:n=n'<;> by_cases h3:s=s'<;> simp[h1,h3]
theorem pW (S T:Nat->Prop) (v u:Value) (rs ss:List bo) (w:World) (hv:ax S w v rs) (hu:ax T w u ss):
  Calls Tryz.prog 24 #[v,u] w fun e w'=>e= .returned (.bool (decide (rs=ss)))/\Below w.heap.size w w':=by
 obtain⟨a,cap,rfl,hc,hm,-⟩:=aR.shape hv cR.len;obtain⟨a2,cap2,rfl,hc2,hm2,-⟩:=aR.shape hu cR.len;unfold maxLen at hm hm2;have HV:=ab hv;have HU:=ab hu;clear hv hu
 by_cases hl:rs.length=ss.length
 ·have HL:=ab hl;have hl2:ss.length=rs.length:=hl.symm;rw[hl2]at HU hc2 ⊢;clear hl hl2
  go_enter Tryz.func24,Tryz.ntmps24
  go_wp2_with fail
  go_loopw [5] (fun i wr=> ∃k:Nat,k<=rs.length/\i= .int .i64 k/\rs.take k=ss.take k/\Below w.heap.size w wr) (fun i _=>rs.length-(intOf i).toNat)
  case atStart=>exact⟨0,Nat.zero_le _,rfl,by simp,Below.refl _ _⟩
  case round=>
   obtain⟨k,hk,rfl,hn,hb⟩:=hrel;have HN:=ab hn;have HB:=ab hb;clear hn hb
   by_cases hlt:k<rs.length
   ·obtain⟨r,hr⟩: ∃r,rs[k]? =some r:=⟨rs[k],by simp[hlt]⟩;obtain⟨x,hx⟩: ∃x,ss[k]? =some x:=⟨ss[k]'(by have:=HL.out; omega),by simp⟩;have HR:=ab hr;have HX:=ab hx;have heq:=zy r x;obtain⟨W,hW⟩: ∃W:World,W=wr.drew:=⟨_,rfl⟩;have HBW:=ab (show Below w.heap.size w W by rw[hW]; exact HB.out.drew);obtain⟨b,o,rfl,-,-,-,q0,q1⟩:=eT HV.out HBW.out hr
    obtain⟨b2,o2,rfl,-,-,-,p0,p1⟩:=eT (by have:=HU.out; rw[HL.out]at this; exact this) HBW.out hx;unfold kA at heq;clear hr hx
    by_cases hm:r=x
    ·have e1:decide (r=x)=true:=by simp[hm]
     rw[e1]at heq;have HT:=ab (show rs.take (k+1)=ss.take (k+1) by rw[aY HR.out,aY HX.out,HN.out,hm]);clear e1 hm;go_wp2_with fail;refine aj [some 9] (by kernel_rfl) (by kernel_rfl) (by kernel_rfl) ?_;simp only[bh,List.take_succ_cons,List.take_zero];rw[<-hW];clear hW
     repeat (first | (refine au rfl ?_; simp only[Act.put,aM,aN,aO]) | (refine aA rfl (fun K hK=> ?_); go_simp; refine hK _ ?_; clear hK K))
     refine az ?_;go_wp2_with fail
     go_roundw
     case rel=>exact⟨k+1,by omega,rfl,HT.out,HBW.out⟩
     case measure=>simp only[intOf,Int.toNat_natCast]; omega
    ·have e1:decide (r=x)=false:=by simp[hm]
     rw[e1]at heq;have HT:=ab (show decide (rs=ss)=false by
      rw[decide_eq_false_iff_not];intro e;have h1:=HR.out;rw[e,HX.out]at h1;exact hm (Option.some.inj h1).symm)
     clear e1 hm;go_wp2_with fail;refine aj [some 9] (by kernel_rfl) (by kernel_rfl) (by kernel_rfl) ?_;simp only[bh,List.take_succ_cons,List.take_zero];rw[<-hW];clear hW
     repeat (first | (refine au rfl ?_; simp only[Act.put,aM,aN,aO]) | (refine aA rfl (fun K hK=> ?_); go_simp; refine hK _ ?_; clear hK K))
     refine az ?_;go_wp2_with fail;go_ret;exact⟨al HT.out.symm,HBW.out⟩
   ·obtain rfl:k=rs.length:=by omega
    have HT:=ab (show decide (rs=ss)=true by
     have:=HN.out;rw[List.take_of_length_le (Nat.le_refl _),List.take_of_length_le (by rw[HL.out]; exact Nat.le_refl _)]at this;simp[this])
    go_wp2_with fail;go_ret;exact⟨al HT.out.symm,HB.out⟩
 ·have HT:=ab (show decide (rs=ss)=false by rw[decide_eq_false_iff_not]; intro e; exact hl (by rw[e]));have e1:((rs.length:Int) != (ss.length:Int))=true:=by simp; omega
  clear hl
  go_enter Tryz.func24,Tryz.ntmps24
  go_wp2_with fail;go_ret;exact⟨al HT.out.symm,Below.refl _ _⟩
def kP (l:List Nat):Nat:=l.foldl (· + ·) 0
theorem nJ (l:List Nat) (n:Nat):kP (l++[n])=kP l+n:=by unfold kP; rw[List.foldl_append]; rfl
theorem sV {l:List Nat} {B:Nat} (h: ∀n∈l,n<=B):kP l<=l.length*B:=by
 have key: ∀(l:List Nat) (a:Nat),(∀n∈l,n<=B)->l.foldl (· + ·) a<=a+l.length*B:=by
  intro l
  induction l with
  | nil=>intro a _; simp
  | cons x l ih=>
   intro a h;rw[List.foldl_cons,List.length_cons];have h1:=ih (a+x) fun n hn=>h n (by simp[hn])
   have h2:=h x (by simp);rw[Nat.add_mul];omega
 have:=key l 0 h;unfold kP;omega
theorem qh {l:List Nat} {n:Nat} (h:n∈l):n<=kP l:=by
 have key: ∀(l:List Nat) (a:Nat),a<=l.foldl (· + ·) a/\ ∀n∈l,n<=l.foldl (· + ·) a:=by
  intro l
  induction l with
  | nil=>intro a; simp
  | cons x l ih=>
   intro a;rw[List.foldl_cons];obtain⟨h1,h2⟩:=ih (a+x);refine⟨by omega,fun n hn=> ?_⟩
   rcases List.mem_cons.1 hn with rfl | hn
   ·omega
   ·exact h2 n hn
 exact(key l 0).2 n h
def rN (x:ew):Nat:=kP ((x.files.take 20).map fun f=>f.parts.length)
def gQ (x:ew):Bool:=decide (x.files.length<=16) && decide (rN x<=60)
def rO (t:List aU):Nat:=kP ((t.take 20).map fun e=>e.data.length)
def gR (t:List aU):Bool:=decide (t.length<=16) && decide (rO t<=400)
def rA (c:cP):Bool:= !di c || decide (c.mn<=40)
theorem uN (S:Nat->Prop) (x:ew) (fv:Value) (w:World) (hx:aQ S w fv x.files) (hw: ∀f∈x.files,f.parts.length<=1125899906842624):Calls Tryz.prog 10 #[gC fv x.tm] w fun e w'=>e= .returned (.bool (gQ x))/\Below w.heap.size w w':=by
 obtain⟨a,cap,rfl,hc,hm,-⟩:=aR.shape hx ej.len;unfold maxLen at hm;have HX:=ab hx;have HWT:=ab hw;clear hx hw;obtain⟨n,hn⟩: ∃n,n=x.files.length:=⟨_,rfl⟩;rw[<-hn]at hc HX ⊢;have HN:=ab hn;clear hn;unfold gC
 go_enter Tryz.func10,Tryz.ntmps10
 go_upto_region 1 with fail
 obtain⟨W,hW⟩: ∃W,W=w.alloc (.cells #[.int .i64 x.tm, .slice a n cap] 24):=⟨_,rfl⟩;rw[<-hW];have HBW:=ab (show Below w.heap.size w W by rw[hW]; exact(Below.refl _ _).alloc (Nat.le_refl _) _);have HBX:=ab (show W.heap[w.heap.size]? =some (.cells #[.int .i64 x.tm, .slice a n cap] 24 (0,0)) by rw[hW]; exact heap_alloc_new w _);have HV:=ab (show aQ S W (.slice a n cap) x.files from aQ.below HX.out HBW.out)
 clear hW;have k1:=ac (k:=1) HBX.out;simp only[List.getElem?_toArray,bZ]at k1;go_wp2_with fail
 go_loopw [3,4] (fun s i wr=> ∃k:Nat,k<=n/\k<=20/\i= .int .i64 k/\s= .int .i64 ((kP ((x.files.take k).map fun f=>f.parts.length):Nat):Int)/\wr=W) (fun _ i _=>20-(intOf i).toNat)
 case atStart=>exact⟨0,Nat.zero_le _,by omega,rfl,rfl,rfl⟩
 case round=>
  obtain⟨k,hk,hk2,rfl,rfl,rfl⟩:=hrel;obtain⟨m,hm2⟩: ∃m,m=kP ((x.files.take k).map fun f=>f.parts.length):=⟨_,rfl⟩;have HM:=ab hm2;have hmb:m<=k*1125899906842624:=by
   rw[hm2];refine Nat.le_trans (sV (B:=1125899906842624) (fun y hy=> ?_)) ?_
   ·obtain⟨f,hf,rfl⟩:=List.mem_map.1 hy;exact HWT.out f (List.take_subset _ _ hf)
   ·rw[List.length_map];exact Nat.mul_le_mul_right _ (List.length_take_le _ _)
  rw[<-hm2];clear hm2
  by_cases hlt:k<n
  ·by_cases h20:k<20
   ·obtain⟨f,hf⟩: ∃f,x.files[k]? =some f:=⟨_,List.getElem?_eq_getElem (show k<x.files.length by rw[<-HN.out]; exact hlt)⟩;obtain⟨b,o,pa,pc,rfl,-,-,-,-,hcl⟩:=dC HV.out (Below.refl _ _) hf;have q6:=hcl 6 (by omega);simp only[bT,bZ]at q6;have hpl:=HWT.out f (List.mem_of_getElem? hf);have HF:=ab hf;obtain⟨p,hp⟩: ∃p,p=f.parts.length:=⟨_,rfl⟩;rw[<-hp]at q6 hpl
    have HP:=ab hp;clear hf hcl hp;have hadd:IntKind.i64.wrap ((m:Int)+(p:Int))=((m+p:Nat):Int):=by rw[IntKind.wrap_i64]; omega
    go_wp2_with fail
    go_roundw
    case rel=>
     refine⟨k+1,by omega,by omega,rfl, ?_,trivial⟩;rw[aY HF.out,List.map_append,List.map_singleton,nJ,<-HM.out,<-HP.out]
     first | rfl | (rw[hadd])
    case measure=>simp only[intOf,Int.toNat_natCast]; omega
   ·have hk20:k=20:=by omega
    subst hk20;have HR:=ab (show gQ x=false by
     unfold gQ;rw[show decide (x.files.length<=16)=false by rw[decide_eq_false_iff_not,<-HN.out]; omega]; rfl)
    have hn16: ¬(n:Int)<=16:=by omega
    go_wp2_with fail;go_ret;exact⟨al (by rw[HR.out]),HBW.out⟩
  ·have hkn:k=n:=by omega
   subst hkn;have htk:x.files.take k=x.files.take 20:=by rw[List.take_of_length_le (by rw[<-HN.out]; exact Nat.le_refl _),List.take_of_length_le (by rw[<-HN.out]; exact hk2)]
   have HR:=ab (show gQ x=(decide (k<=16) && decide (m<=60)) by
    unfold gQ rN;rw[<-HN.out,<-htk,<-HM.out])
   by_cases h16:k<=16
   ·have h16':(k:Int)<=16:=by omega
    go_wp2_with fail;go_ret;exact⟨al (by rw[HR.out]; simp[h16]; omega),HBW.out⟩
   ·have h16': ¬(k:Int)<=16:=by omega
    go_wp2_with fail;go_ret;exact⟨al (by rw[HR.out]; simp[h16]),HBW.out⟩
theorem uR (S:Nat->Prop) (tree:List aU) (tv:Value) (w:World) (hx:bK S w tv tree) (hw: ∀e∈tree,e.data.length<=1125899906842624):Calls Tryz.prog 18 #[tv] w fun e w'=>e= .returned (.bool (gR tree))/\Below w.heap.size w w':=by
 obtain⟨a,cap,rfl,hc,hm,-⟩:=aR.shape hx iL.len;unfold maxLen at hm;have HV:=ab hx;have HWT:=ab hw;clear hx hw;obtain⟨n,hn⟩: ∃n,n=tree.length:=⟨_,rfl⟩;rw[<-hn]at hc HV ⊢;have HN:=ab hn;clear hn
 go_enter Tryz.func18,Tryz.ntmps18
 go_wp2_with fail
 go_loopw [3,4] (fun s i wr=> ∃k:Nat,k<=n/\k<=20/\i= .int .i64 k/\s= .int .i64 ((kP ((tree.take k).map fun f=>f.data.length):Nat):Int)/\wr=w) (fun _ i _=>20-(intOf i).toNat)
 case atStart=>exact⟨0,Nat.zero_le _,by omega,rfl,rfl,rfl⟩
 case round=>
  obtain⟨k,hk,hk2,rfl,rfl,rfl⟩:=hrel;obtain⟨m,hm2⟩: ∃m,m=kP ((tree.take k).map fun f=>f.data.length):=⟨_,rfl⟩;have HM:=ab hm2;have hmb:m<=k*1125899906842624:=by
   rw[hm2];refine Nat.le_trans (sV (B:=1125899906842624) (fun y hy=> ?_)) ?_
   ·obtain⟨f,hf,rfl⟩:=List.mem_map.1 hy;exact HWT.out f (List.take_subset _ _ hf)
   ·rw[List.length_map];exact Nat.mul_le_mul_right _ (List.length_take_le _ _)
  rw[<-hm2];clear hm2
  by_cases hlt:k<n
  ·by_cases h20:k<20
   ·obtain⟨f,hf⟩: ∃f,tree[k]? =some f:=⟨_,List.getElem?_eq_getElem (show k<tree.length by rw[<-HN.out]; exact hlt)⟩;obtain⟨b,o,dv,rfl,-,-,hd,-,-,-,-,-,-,q4,-⟩:=kT HV.out hf;obtain⟨da,dc,rfl,-,-⟩:=hd.slice;have hpl:=HWT.out f (List.mem_of_getElem? hf);have HF:=ab hf;obtain⟨p,hp⟩: ∃p,p=f.data.length:=⟨_,rfl⟩;rw[<-hp]at q4 hpl;have HP:=ab hp
    clear hf hp hd;have hadd:IntKind.i64.wrap ((m:Int)+(p:Int))=((m+p:Nat):Int):=by rw[IntKind.wrap_i64]; omega
    go_wp2_with fail
    go_roundw
    case rel=>
     refine⟨k+1,by omega,by omega,rfl, ?_,trivial⟩;rw[aY HF.out,List.map_append,List.map_singleton,nJ,<-HM.out,<-HP.out]
     first | rfl | (rw[hadd])
    case measure=>simp only[intOf,Int.toNat_natCast]; omega
   ·have hk20:k=20:=by omega
    subst hk20;have HR:=ab (show gR tree=false by
     unfold gR;rw[show decide (tree.length<=16)=false by rw[decide_eq_false_iff_not,<-HN.out]; omega]; rfl)
    have hn16: ¬(n:Int)<=16:=by omega
    go_wp2_with fail;go_ret;exact⟨al (by rw[HR.out]),Below.refl _ _⟩
  ·have hkn:k=n:=by omega
   subst hkn;have htk:tree.take k=tree.take 20:=by rw[List.take_of_length_le (by rw[<-HN.out]; exact Nat.le_refl _),List.take_of_length_le (by rw[<-HN.out]; exact hk2)]
   have HR:=ab (show gR tree=(decide (k<=16) && decide (m<=400)) by
    unfold gR rO;rw[<-HN.out,<-htk,<-HM.out])
   by_cases h16:k<=16
   ·have h16':(k:Int)<=16:=by omega
    go_wp2_with fail;go_ret;exact⟨al (by rw[HR.out]; simp[h16]; omega),Below.refl _ _⟩
   ·have h16': ¬(k:Int)<=16:=by omega
    go_wp2_with fail;go_ret;exact⟨al (by rw[HR.out]; simp[h16]),Below.refl _ _⟩
theorem yK (c:cP):di c=(decide (1<=c.win) && decide (c.win<=64) && decide (c.win<=c.mn) && decide (c.mn<=c.mx) && decide (c.mx<=32768) && decide (0<=c.bits) && decide (c.bits<=20)):=rfl
theorem qn (c:cP) (w:World):Calls Tryz.prog 21 #[dx c] w fun e w'=>e= .returned (.bool (di c))/\Below w.heap.size w w':=by
 obtain⟨mn,mx,win,bits,seed⟩:=c;unfold dx;rw[yK]
 go_enter Tryz.func21,Tryz.ntmps21
 by_cases e1:1<=win
 ·by_cases e2:win<=64
  ·by_cases e3:win<=mn
   ·by_cases e4:mn<=mx
    ·by_cases e5:mx<=32768
     ·by_cases e6:0<=bits
      ·by_cases e7:bits<=20
       all_goals
        go_wp2_with fail;go_ret;exact⟨al (by simp[e1,e2,e3,e4,e5,e6,e7]),(Below.refl _ _).alloc (Nat.le_refl _) _⟩
      ·go_wp2_with fail;go_ret;exact⟨al (by simp; omega),(Below.refl _ _).alloc (Nat.le_refl _) _⟩
     ·go_wp2_with fail;go_ret;exact⟨al (by simp; omega),(Below.refl _ _).alloc (Nat.le_refl _) _⟩
    ·go_wp2_with fail;go_ret;exact⟨al (by simp; omega),(Below.refl _ _).alloc (Nat.le_refl _) _⟩
   ·go_wp2_with fail;go_ret;exact⟨al (by simp; omega),(Below.refl _ _).alloc (Nat.le_refl _) _⟩
  ·go_wp2_with fail;go_ret;exact⟨al (by simp; omega),(Below.refl _ _).alloc (Nat.le_refl _) _⟩
 ·go_wp2_with fail;go_ret;exact⟨al (by simp; omega),(Below.refl _ _).alloc (Nat.le_refl _) _⟩
theorem iY (c:cP) (b:Bool) (w:World) (h:di c=b):Calls Tryz.prog 21 #[dx c] w fun e w'=>e= .returned (.bool b)/\Below w.heap.size w w':=by rw[<-h]; exact qn c w
theorem ud (c:cP) (w:World):Calls Tryz.prog 19 #[dx c] w fun e w'=>e= .returned (.bool (rA c))/\Below w.heap.size w w':=by
 have HB:=ab ((Below.refl w.heap.size w).alloc (Nat.le_refl _) (.cells #[.int .i64 c.mn, .int .i64 c.mx, .int .i64 c.win, .int .i64 c.bits, .int .u64 (c.seed:Int)] 48));have HX:=ab (heap_alloc_new w (.cells #[.int .i64 c.mn, .int .i64 c.mx, .int .i64 c.win, .int .i64 c.bits, .int .u64 (c.seed:Int)] 48));unfold dx rA
 go_enter Tryz.func19,Tryz.ntmps19
 cases hv:di c with
 | false=>
  have HV:=ab hv;clear hv;go_wp2_with (go_at_call 21; refine(iY c false _ HV.out).mono ?_; rintro e w1 ⟨rfl,hb1⟩; have HB1:=ab (af HB.out hb1); clear hb1);go_ret;exact⟨rfl,HB1.out⟩
 | true=>
  have HV:=ab hv;clear hv
  by_cases hm:c.mn<=40
  ·go_wp2_with (go_at_call 21; refine(iY c true _ HV.out).mono ?_; rintro e w1 ⟨rfl,hb1⟩; have HB1:=ab (af HB.out hb1); have c0:=ac (k:=0) ((hb1.block _ (lt_of_block HX.out)).trans HX.out); simp only[List.getElem?_toArray,List.getElem?_cons_zero]at c0; clear hb1);go_ret;exact⟨al (by simp[hm]),HB1.out⟩
  ·go_wp2_with (go_at_call 21; refine(iY c true _ HV.out).mono ?_; rintro e w1 ⟨rfl,hb1⟩; have HB1:=ab (af HB.out hb1); have c0:=ac (k:=0) ((hb1.block _ (lt_of_block HX.out)).trans HX.out); simp only[List.getElem?_toArray,List.getElem?_cons_zero]at c0; clear hb1);go_ret;exact⟨al (by simp),HB1.out⟩
def fd (w:World) (v:Value) (L:List (List UInt8)):Prop:= ∃ys:List Value,aD (fun _=>True) w 1 v L.length ys/\ ∀(k:Nat) y pl,ys[k]? =some y->L[k]? =some pl->aV (fun _=>True) w y pl
theorem fd.below {w w':World} {v:Value} {L:List (List UInt8)} (h:fd w v L) (hb:Below w.heap.size w w'):fd w' v L:=by
 obtain⟨ys,h1,h2⟩:=h;exact⟨ys,aD.below h1 (by omega) hb,fun k y pl hy hp=>aD.below (h2 k y pl hy hp) (by omega) hb⟩
theorem rz {B:Nat} {v:Value} {L:List (List UInt8)} {w:World} (h:bS B v L w):fd w v L:=by
 obtain⟨ys,h1,h2,h3⟩:=h;have hl:ys.length=L.length:=by rw[<-h1,List.length_map]
 refine⟨ys.map Prod.fst, ?_,fun k y pl hy hp=> ?_⟩
 ·rw[<-hl];exact(bw h2).weak (fun _ _=>trivial)
 ·rw[List.getElem?_map,Option.map_eq_some_iff]at hy;obtain⟨z,hz,rfl⟩:=hy;rw[<-h1,List.getElem?_map,hz]at hp
  cases hp
  exact(bw (h3 z (List.mem_of_getElem? hz))).weak (fun _ _=>trivial)
theorem vI {w:World} {a:Option Addr} {n cap:Nat} {L:List (List UInt8)} (h:fd w (.slice a n cap) L) {k:Nat} {pl:List UInt8} (hk:L[k]? =some pl):
  ∃b o ya yc,a=some ⟨b,o,none⟩/\w.cell? ⟨b,o+k,none⟩=some (.slice ya pl.length yc)/\aV (fun _=>True) w (.slice ya pl.length yc) pl:=by
 obtain⟨ys,⟨hl,a',cap',hv,_,_,h0⟩,h2⟩:=h
 cases hv
 have hlt:=(List.getElem?_eq_some_iff.1 hk).1
 rcases h0 with h0 | ⟨b,o,rfl,_,hc⟩
 ·omega
 ·obtain⟨y,hy⟩: ∃y,ys[k]? =some y:=⟨_,List.getElem?_eq_getElem (show k<ys.length by omega)⟩;have h3:=h2 k y pl hy hk;obtain⟨_,ya,yc,rfl,_,_,_⟩:=id h3;exact⟨b,o,ya,yc,rfl,hc k _ hy,h3⟩
theorem rG (v u:Value) (L M:List (List UInt8)) (w:World) (hv:fd w v L) (hu:fd w u M):
  Calls Tryz.prog 32 #[v,u] w fun e w'=>e= .returned (.bool (decide (L=M)))/\Below w.heap.size w w':=by
 obtain⟨_,⟨_,a,cap,rfl,hc,hm,_⟩,_⟩:=id hv;obtain⟨_,⟨_,a2,cap2,rfl,hc2,hm2,_⟩,_⟩:=id hu;unfold maxLen at hm hm2;have HV:=ab hv;have HU:=ab hu;clear hv hu
 by_cases hl:L.length=M.length
 ·have HL:=ab hl;have hl2:M.length=L.length:=hl.symm;rw[hl2]at HU hc2 ⊢;clear hl hl2
  go_enter Tryz.func32,Tryz.ntmps32
  go_wp2_with fail
  go_loopw [5] (fun i wr=> ∃k:Nat,k<=L.length/\i= .int .i64 k/\L.take k=M.take k/\Below w.heap.size w wr) (fun i _=>L.length-(intOf i).toNat)
  case atStart=>exact⟨0,Nat.zero_le _,rfl,by simp,Below.refl _ _⟩
  case round=>
   obtain⟨k,hk,rfl,hn,hb⟩:=hrel;have HN:=ab hn;have HB:=ab hb;clear hn hb
   by_cases hlt:k<L.length
   ·obtain⟨r,hr⟩: ∃r,L[k]? =some r:=⟨L[k],by simp[hlt]⟩;obtain⟨x,hx⟩: ∃x,M[k]? =some x:=⟨M[k]'(by have:=HL.out; omega),by simp⟩;have HR:=ab hr;have HX:=ab hx;obtain⟨W,hW⟩: ∃W:World,W=wr.drew:=⟨_,rfl⟩;have HBW:=ab (show Below w.heap.size w W by rw[hW]; exact HB.out.drew);obtain⟨b,o,ya,yc,rfl,q0,hy⟩:=vI (HV.out.below HBW.out) hr;obtain⟨b2,o2,za,zc,rfl,p0,hy2⟩:=vI (by have:=HU.out.below HBW.out; rw[HL.out]at this; exact this) hx
    have hc1:=ly (bs:=r) hy;have hc2:=ly (bs:=x) hy2;clear hr hx hy hy2
    by_cases hm:r=x
    ·have HT:=ab (show L.take (k+1)=M.take (k+1) by rw[aY HR.out,aY HX.out,HN.out,hm]);subst hm;go_wp2_with fail;refine aj [some 11] (by kernel_rfl) (by kernel_rfl) (by kernel_rfl) ?_;simp only[bh,List.take_succ_cons,List.take_zero];rw[<-hW];clear hW
     repeat (first | (refine au rfl ?_; simp only[Act.put,aM,aN,aO]) | (refine aA rfl (fun K hK=> ?_); go_simp; refine hK _ ?_; clear hK K))
     refine az ?_;go_wp2_with fail
     all_goals exact⟨⟨k+1,by omega,rfl,HT.out,HBW.out⟩,by simp only[intOf,Int.toNat_natCast]; omega⟩
    ·have HT:=ab (show decide (L=M)=false by
      rw[decide_eq_false_iff_not];intro e;have h1:=HR.out;rw[e,HX.out]at h1;exact hm (Option.some.inj h1).symm)
     have hm4:(r == x)=false:=by simpa using hm
     have hm3: ¬(⟨r.toArray⟩:ByteArray).toList=(⟨x.toArray⟩:ByteArray).toList:=fun h=>hm (by rw[bz,bz,ki,ki]at h; exact h)
     go_wp2_with fail;refine aj [some 11] (by kernel_rfl) (by kernel_rfl) (by kernel_rfl) ?_;simp only[bh,List.take_succ_cons,List.take_zero];rw[<-hW];clear hW
     repeat (first | (refine au rfl ?_; simp only[Act.put,aM,aN,aO]) | (refine aA rfl (fun K hK=> ?_); go_simp; refine hK _ ?_; clear hK K))
     refine az ?_;go_wp2_with fail;go_ret;exact⟨al HT.out.symm,HBW.out⟩
   ·obtain rfl:k=L.length:=by omega
    have HT:=ab (show decide (L=M)=true by
     have:=HN.out;rw[List.take_of_length_le (Nat.le_refl _),List.take_of_length_le (by rw[HL.out]; exact Nat.le_refl _)]at this;simp[this])
    go_wp2_with fail;go_ret;exact⟨al HT.out.symm,HB.out⟩
 ·have HT:=ab (show decide (L=M)=false by rw[decide_eq_false_iff_not]; intro e; exact hl (by rw[e]));have e1:((L.length:Int) != (M.length:Int))=true:=by simp; omega
  clear hl
  go_enter Tryz.func32,Tryz.ntmps32
  go_wp2_with fail;go_ret;exact⟨al HT.out.symm,Below.refl _ _⟩
def mp (b:Nat):List Value:=[.string ⟨#[100]⟩, .int .i64 2, .int .i64 0, .int .i64 0, .slice none 0 0, .string ⟨#[]⟩, .string ⟨#[100,47,102]⟩, .int .i64 1, .int .i64 0, .int .i64 5, .slice (some ⟨b,0,none⟩) 3 3, .string ⟨#[]⟩]
theorem vJ {w:World} {b k:Nat} {cs:Array Value} {t:TypeId} {z:Nat×Nat} (h:w.heap[b]? =some (.cells cs t z)):w.cell? ⟨b,k,none⟩=cs[k]? :=by
 simp[World.cell?,h]
theorem jy {W:World} {b n sz:Nat} {cells:List Value} {t:TypeId} {z:Nat×Nat} (h:W.heap[b]? =some (.cells cells.toArray t z)) (hl:cells.length=n*sz) (hn:n<=maxLen):aD (fun _=>True) W sz (.slice (some ⟨b,0,none⟩) n n) n cells:=
 ⟨hl,some ⟨b,0,none⟩,n,rfl,Nat.le_refl _,hn, .inr ⟨b,0,rfl,trivial,fun j u hj=>by rw[vJ h,Nat.zero_add,List.getElem?_toArray]; exact hj⟩⟩
theorem oG {w:World} {rb b:Nat} {d:List UInt8} {t u:TypeId} {z:Nat×Nat} (h:w.heap[rb]? =some (.cells (mp b).toArray t (0,0))) (hb:w.heap[b]? =some (.cells (d.map aP).toArray u z)) (hd:d.length=3):bK (fun _=>True) w (.slice (some ⟨rb,0,none⟩) 2 2) (cU d):=by
 refine⟨mp b,jy (n:=2) (sz:=6) (cells:=mp b) h rfl (by unfold maxLen; omega), ?_⟩;have hda:bM (fun _=>True) w (.slice (some ⟨b,0,none⟩) 3 3) d:=by
  have h1:=jy (n:=d.length) (sz:=1) (cells:=d.map aP) hb (by simp) (by rw[hd]; unfold maxLen; omega);rw[show Value.slice (some ⟨b,0,none⟩) 3 3= .slice (some ⟨b,0,none⟩) d.length d.length by rw[hd]];exact h1
 refine⟨jp (.slice none 0 0) xW,jp (.slice (some ⟨b,0,none⟩) 3 3) (kq d),rfl,⟨_,rfl,bM.nil _ _, ?_⟩,⟨jp (.slice (some ⟨b,0,none⟩) 3 3) (kq d),[],rfl,⟨_,rfl,hda, ?_⟩,rfl⟩⟩
 ·exact⟨by show(1:Nat)<=_; unfold maxLen; omega,by show(0:Nat)<=_; omega,rfl,rfl,rfl⟩
 ·exact⟨by show(3:Nat)<=_; unfold maxLen; omega,by show(0:Nat)<=_; omega,rfl,rfl,rfl⟩
def sW (p:ByteArray×Int):bo:=⟨p.1,p.2⟩
theorem ln (l:List (ByteArray×Int)):eB l=bc (l.map sW):=by
 induction l with
 | nil=>rfl
 | cons p l ih=>
  unfold eB bc at *;rw[List.flatMap_cons,List.map_cons,List.flatMap_cons,ih]; rfl
theorem yt {w:World} {base:Nat} {v:Value} {l:List (ByteArray×Int)} (h:w.ownsRow base 60 2 v l.length (eB l)) (hok: ∀p∈l,dq (sW p)):ax (fun _=>True) w v (l.map sW):=by
 rw[ln]at h;refine⟨_, ?_,fj (fun p hp=> ?_)⟩
 ·rw[List.length_map];exact(bw h).weak (fun _ _=>trivial)
 ·obtain⟨q,hq,rfl⟩:=List.mem_map.1 hp;exact hok q hq
theorem sM {w:World} {b:Nat} {l:List (ByteArray×Int)} {t:TypeId} (h:w.heap[b]? =some (.cells (eB l).toArray t (0,0))) (hl:l.length<=maxLen) (hok: ∀p∈l,dq (sW p)):ax (fun _=>True) w (.slice (some ⟨b,0,none⟩) l.length l.length) (l.map sW):=by
 rw[ln]at h;refine⟨_, ?_,fj (fun p hp=> ?_)⟩
 ·have h1:=(fV (n:=l.length) (sz:=2) (cells:=bc (l.map sW)) h (by rw[lT,List.length_map]) hl).weak (T:=fun _=>True) (fun _ _=>trivial);rw[List.length_map];exact h1
 ·obtain⟨q,hq,rfl⟩:=List.mem_map.1 hp;exact hok q hq
theorem sO (x:Int):([(⟨#[100]⟩,x),(⟨#[100,47,102]⟩,x)]:List (ByteArray×Int)).length<=maxLen:=by show 2<=maxLen; unfold maxLen; omega
def lj (x:Int):List (ByteArray×Int):=[(⟨#[100]⟩,x),(⟨#[100,47,102]⟩,x)]
theorem kR {x:Int} (h:x=1\/x=4): ∀p∈lj x,dq (sW p):=by
 intro p hp;simp only[lj,List.mem_cons,List.not_mem_nil,or_false]at hp
 rcases h with rfl | rfl<;> rcases hp with rfl | rfl
 all_goals exact⟨by first | (show(1:Nat)<=_; unfold maxLen; omega) | (show(3:Nat)<=_; unfold maxLen; omega),rfl⟩
theorem lZ (S T:Nat->Prop) (v u:Value) (rs ss:List bo) (b:Bool) (w:World) (hv:ax S w v rs) (hu:ax T w u ss) (h:decide (rs=ss)=b):Calls Tryz.prog 24 #[v,u] w fun e w'=>e= .returned (.bool b)/\Below w.heap.size w w':=by
 rw[<-h]; exact pW S T v u rs ss w hv hu
theorem jK (w:World) (C:Array Value) (n c:Nat):(convert 28 28 (.slice (some ⟨w.heap.size,0,none⟩) n c)).run Tryz.prog (w.alloc (.cells C 5))= .ok (.slice (some ⟨w.heap.size,0,none⟩) n c) (w.alloc (.cells C 5 (C.size,C.size+1))):=
 Lib.run_convert_bytes_const w 28 5 C n c Tryz.underlying28 Tryz.underlying5
theorem uA (v u:Value) (L M:List (List UInt8)) (b:Bool) (w:World) (hv:fd w v L) (hu:fd w u M) (h:decide (L=M)=b):Calls Tryz.prog 32 #[v,u] w fun e w'=>e= .returned (.bool b)/\Below w.heap.size w w':=by
 rw[<-h]; exact rG v u L M w hv hu
theorem uC (tv:Value) (w:World) (ht:bK (fun _=>True) w tv (cU [97,98,99])) (he:gm w):Calls Tryz.prog 20 #[.agg #[.int .i64 0, .slice none 0 0], .int .i64 10,tv, .string ⟨#[]⟩, .agg #[.int .i64 4, .int .i64 8, .int .i64 4, .int .i64 20, .int .u64 0]] w (ia (.ok ⟨⟨10,bP [aZ [97,98,99]]⟩,lj 1,[[97,98,99]],1,0⟩) w):=by
 have h:=gO (fun _=>True) (fun _=>True) ⟨0,[]⟩ (.slice none 0 0) tv 10 (cU [97,98,99]) ⟨#[]⟩ gy w (aQ.nil _ _) ht he (by decide) (by simp);rw[show bl ⟨#[]⟩=[]from rfl,yT]at h;exact h
theorem wm : ∀f∈bP [aZ [97,98,99]],f.parts.length<=1048576:=by
 intro f hf;simp only[bP,List.mem_cons,List.not_mem_nil,or_false]at hf
 rcases hf with rfl | rfl<;> simp
theorem uD (S:Nat->Prop) (fv tv:Value) (w:World) (hf:aQ S w fv (bP [aZ [97,98,99]])) (ht:bK (fun _=>True) w tv (cU [97,98,100])) (he:gm w):Calls Tryz.prog 20 #[.agg #[.int .i64 10,fv], .int .i64 20,tv, .string ⟨#[]⟩, .agg #[.int .i64 4, .int .i64 8, .int .i64 4, .int .i64 20, .int .u64 0]] w (ia (.ok ⟨⟨20,bP [aZ [97,98,99]]⟩,[],[],0,1⟩) w):=by
 have h:=gO S (fun _=>True) ⟨10,bP [aZ [97,98,99]]⟩ fv tv 20 (cU [97,98,100]) ⟨#[]⟩ gy w hf ht he (by decide) wm;rw[show bl ⟨#[]⟩=[]from rfl,zF]at h;exact h
theorem uE (S:Nat->Prop) (fv tv:Value) (w:World) (hf:aQ S w fv (bP [aZ [97,98,99]])) (ht:bK (fun _=>True) w tv (cU [97,98,100])) (he:gm w):Calls Tryz.prog 20 #[.agg #[.int .i64 10,fv], .int .i64 20,tv, .string ⟨#[100,47]⟩, .agg #[.int .i64 4, .int .i64 8, .int .i64 4, .int .i64 20, .int .u64 0]] w (ia (.ok ⟨⟨20,[]⟩,lj 4,[],0,0⟩) w):=by
 have h:=gO S (fun _=>True) ⟨10,bP [aZ [97,98,99]]⟩ fv tv 20 (cU [97,98,100]) ⟨#[100,47]⟩ gy w hf ht he (by decide) wm;rw[show bl ⟨#[100,47]⟩=[100,47]from rfl,zG]at h;exact h
theorem eZ (w:World) (o:Obj):(w.alloc o).heap.size=w.heap.size+1:=by simp
theorem iT {w:World} {o x:Obj} {k:Nat} (h:w.heap[k]? =some x):(w.alloc o).heap[k]? =some x:=by
 rw[heap_alloc_old _ _ (lt_of_block h)]; exact h
theorem oH {w W:World} {n:Nat} (o p:Obj) (h:Below n w W) (hn:n<=W.heap.size):Below n w ((W.alloc o).alloc p):=
 (h.alloc hn _).alloc (by rw[eZ]; omega) _
theorem ox (W:World) (o p:Obj):((W.alloc o).alloc p).heap[W.heap.size+1]? =some p:=by
 rw[<-eZ W o]; exact heap_alloc_new _ _
theorem xp {w:World} {rb b c:Nat} {t:TypeId} (h:w.heap[rb]? =some (.cells (mp b).toArray t (0,0))):(w.setCell ⟨rb,10,none⟩ (.slice (some ⟨c,0,none⟩) 3 3)).heap[rb]? =some (.cells (mp c).toArray t (0,0)):=by
 rw[heap_setCell_same _ _ _ _ _ _ h]
 rfl
theorem yq (w:World) (a:Addr) (v:Value) (o:Obj):((w.setCell a v).alloc o).heap[w.heap.size]? =some o:=by
 have h:=heap_alloc_new (w.setCell a v) o;have e:(w.setCell a v).heap.size=w.heap.size:=by simp
 rw[e]at h; exact h
theorem sP {w:World} {a:Addr} {v:Value} {o x:Obj} {k:Nat} (h:w.heap[k]? =some x) (hk:k≠a.block):((w.setCell a v).alloc o).heap[k]? =some x:=
 iT ((heap_setCell_other _ _ _ _ hk).trans h)
theorem zh {w:World} {base b j:Nat} {v fv:Value} {o:Obj} {fs:List am} (h:bq w base fv fs) (hb:b<base):bq ((w.setCell ⟨b,j,none⟩ v).alloc o) base fv fs:=
 bq.below (h.same fun k _ _ _ hB _ _=>heap_setCell_other _ _ _ _ (by show k≠b; omega)) ((Below.refl _ _).alloc (Nat.le_refl _) _)
theorem zo {w W:World} {n:Nat} {a:Addr} (v:Value) (o:Obj) (h:Below n w W) (hn:n<=a.block) (hz:n<=W.heap.size):Below n w ((W.setCell a v).alloc o):=
 (h.setCell hn _).alloc (by simpa using hz) _
theorem rm {r:mS} {w w':World} {e:Ending} (h:ia (.ok r) w e w') (hok: ∀p∈r.chg,dq (sW p)): ∃fa fn fc ca cn cc na nc,e= .returned (.tuple #[.agg #[.int .i64 r.idx.tm, .slice fa fn fc, .slice ca cn cc, .slice na r.news.length nc, .int .i64 (r.read:Int), .int .i64 (r.kept:Int)], .int .i64 0])/\Below w.heap.size w w'/\bq w' w.heap.size (.slice fa fn fc) r.idx.files/\ax (fun _=>True) w' (.slice ca cn cc) (r.chg.map sW)/\fd w' (.slice na r.news.length nc) r.news/\cn=r.chg.length:=by
 obtain⟨hb,fv,cv,nv,rfl,hf,hc,hn⟩:=h;obtain⟨zs,-,hz,-⟩:=hf.row;obtain⟨fa,fc,rfl,-,-⟩:=ak hz;have hc':=yt hc hok;obtain⟨ca,cc,rfl,-,-⟩:=ak hc;obtain⟨ys,hys,hn1,-⟩:=id hn;have hl:ys.length=r.news.length:=by rw[<-hys,List.length_map]
 have hn':=rz hn;obtain⟨na,nc,rfl,-,-⟩:=ak hn1;rw[hl]at hn' ⊢;exact⟨fa,_,fc,ca,_,cc,na,nc,rfl,hb,hf,hc',hn',rfl⟩
theorem xM {w:World} {rb b:Nat} {d:List UInt8} {t u:TypeId} {z z':Nat×Nat} (h:w.heap[rb]? =some (.cells #[.slice (some ⟨b,0,none⟩) 3 3] t z')) (hb:w.heap[b]? =some (.cells (d.map aP).toArray u z)) (hd:d.length=3):fd w (.slice (some ⟨rb,0,none⟩) 1 1) [d]:=by
 refine⟨[.slice (some ⟨b,0,none⟩) 3 3],jy (n:=1) (sz:=1) (cells:=[.slice (some ⟨b,0,none⟩) 3 3]) h rfl (by unfold maxLen; omega),fun k y pl hy hp=> ?_⟩
 rcases k with _ | k
 ·cases hy; cases hp
  have h1:=jy (n:=d.length) (sz:=1) (cells:=d.map aP) hb (by simp) (by rw[hd]; unfold maxLen; omega);rw[show Value.slice (some ⟨b,0,none⟩) 3 3= .slice (some ⟨b,0,none⟩) d.length d.length by rw[hd]];exact h1
 ·simp at hy
theorem fd.two {w:World} {v:Value} {L:List (List UInt8)} {o p:Obj} (h:fd w v L):fd ((w.alloc o).alloc p) v L:=h.below (oH _ _ (Below.refl _ _) (Nat.le_refl _))
theorem ax.below' {w w':World} {v:Value} {ps:List bo} (h:ax (fun _=>True) w v ps) (hb:Below w.heap.size w w'):ax (fun _=>True) w' v ps:=by
 obtain⟨cells,h1,h2⟩:=h;exact⟨cells,aD.below h1 (by omega) hb,h2⟩
theorem cS (w:World) (he:gm w):Calls Tryz.prog 11 #[] w fun e w'=>e= .returned (.bool true)/\Below w.heap.size w w':=by
 have HE:=ab he;have h6:=he.six;clear he
 go_enter Tryz.func11,Tryz.ntmps11
 go_upto_region 2 with fail
 obtain⟨W1,hW1⟩: ∃W1,W1=w.alloc (.cells #[.int .i64 4, .int .i64 8, .int .i64 4, .int .i64 20, .int .u64 0] 48):=⟨_,rfl⟩;rw[<-hW1];have HB1:=ab (show Below w.heap.size w W1 by rw[hW1]; exact(Below.refl _ _).alloc (Nat.le_refl _) _);have HC1:=ab (show W1.heap[w.heap.size]? =some (.cells #[.int .i64 4, .int .i64 8, .int .i64 4, .int .i64 20, .int .u64 0] 48 (0,0)) by rw[hW1]; exact heap_alloc_new w _)
 have hz1:w.heap.size<W1.heap.size:=lt_of_block HC1.out;clear hW1;have hcv:=jK W1 #[.int .u8 97, .int .u8 98, .int .u8 99] 3 3
 go_upto_region 3 with fail
 obtain⟨W3,hW3⟩: ∃W3,W3=(W1.alloc (.cells #[.int .u8 97, .int .u8 98, .int .u8 99] 5 (3,4))).alloc (.cells #[.string ⟨#[100]⟩, .int .i64 2, .int .i64 0, .int .i64 0, .slice none 0 0, .string ⟨#[]⟩, .string ⟨#[100,47,102]⟩, .int .i64 1, .int .i64 0, .int .i64 5, .slice (some ⟨W1.heap.size,0,none⟩) 3 3, .string ⟨#[]⟩] 30):=⟨_,rfl⟩;rw[<-hW3];have HB3:=ab (show Below w.heap.size w W3 by rw[hW3]; exact oH _ _ HB1.out (by omega))
 have HC3:=ab (show W3.heap[w.heap.size]? =some (.cells #[.int .i64 4, .int .i64 8, .int .i64 4, .int .i64 20, .int .u64 0] 48 (0,0)) by rw[hW3]; exact iT (iT HC1.out));have HD3:=ab (show W3.heap[W1.heap.size]? =some (.cells ([97,98,99].map aP).toArray 5 (3,4)) by rw[hW3]; exact iT (heap_alloc_new W1 _));have HT3:=ab (show W3.heap[W1.heap.size+1]? =some (.cells (mp W1.heap.size).toArray 30 (0,0)) by rw[hW3]; exact ox W1 _ _)
 clear hW3;have c0:=ac (k:=0) HC3.out;have c1:=ac (k:=1) HC3.out;have c2:=ac (k:=2) HC3.out;have c3:=ac (k:=3) HC3.out;have c4:=ac (k:=4) HC3.out;simp only[List.getElem?_toArray,bZ]at c0 c1 c2 c3 c4;have ht3:=ab (oG HT3.out HD3.out rfl);go_wp2_with (refine(uC _ _ ht3.out (HE.out.below HB3.out)).mono ?_);intro e w4 h4;obtain⟨fa,fn,fc,ca,cn,cc,na,nc,rfl,hb4,hf4,hc4,hn4,-⟩:=rm h4 (kR (.inl rfl))
 have HB4:=ab hb4;have HF4:=ab hf4;have HP4:=ab hc4;have HN4:=ab hn4;have hz4:=hb4.size;clear h4 hb4 hf4 hc4 hn4
 go_upto_region 4 with fail
 obtain⟨W5,hW5⟩: ∃W5,W5=w4.alloc (.cells #[.int .i64 10, .slice fa fn fc, .slice ca cn cc, .slice na 1 nc, .int .i64 1, .int .i64 0] 54):=⟨_,rfl⟩;rw[<-hW5];have HX5:=ab (show W5.heap[w4.heap.size]? =some (.cells #[.int .i64 10, .slice fa fn fc, .slice ca cn cc, .slice na 1 nc, .int .i64 1, .int .i64 0] 54 (0,0)) by rw[hW5]; exact heap_alloc_new w4 _);have HB5:=ab (show Below w4.heap.size w4 W5 by rw[hW5]; exact(Below.refl _ _).alloc (Nat.le_refl _) _)
 have hz5:W5.heap.size=w4.heap.size+1:=by rw[hW5]; exact eZ _ _
 clear hW5;have hcv5:=jK W5 #[.int .u8 97, .int .u8 98, .int .u8 99] 3 3;have HZ5:=ab hz5;clear hz5;have x0:=ac (k:=0) HX5.out;have x1:=ac (k:=1) HX5.out;have x2:=ac (k:=2) HX5.out;have x3:=ac (k:=3) HX5.out;have x4:=ac (k:=4) HX5.out;have x5:=ac (k:=5) HX5.out;simp only[List.getElem?_toArray,bZ]at x0 x1 x2 x3 x4 x5;go_wp2_with (refine(uA _ _ [[97,98,99]] [[97,98,99]] true _ (HN4.out.below HB5.out).two (xM (ox _ _ _) (iT (heap_alloc_new _ _)) rfl) (by decide)).mono ?_)
 rintro e w6 ⟨rfl,hb6⟩;have HB6:=ab (show Below W5.heap.size W5 w6 from(oH _ _ (Below.refl _ _) (Nat.le_refl _)).trans (hb6.mono (by rw[eZ,eZ]; omega)));clear hb6;have HX6:=ab ((HB6.out.block _ (lt_of_block HX5.out)).trans HX5.out);have hz6:=HB6.out.size;have HP6:=ab ((HP4.out.below' HB5.out).below' HB6.out);clear x0 x1 x2 x3 x4 x5;have x0:=ac (k:=0) HX6.out;have x1:=ac (k:=1) HX6.out
 have x2:=ac (k:=2) HX6.out;have x3:=ac (k:=3) HX6.out;have x4:=ac (k:=4) HX6.out;have x5:=ac (k:=5) HX6.out;simp only[List.getElem?_toArray,bZ]at x0 x1 x2 x3 x4 x5;go_wp2_with (refine(lZ _ _ _ _ ((lj 1).map sW) ((lj 1).map sW) true _ (HP6.out.below' ((Below.refl _ _).alloc (Nat.le_refl _) _)) (sM (l:=lj 1) (heap_alloc_new _ _) (sO 1) (kR (.inl rfl))) (decide_eq_true rfl)).mono ?_)
 rintro e w7 ⟨rfl,hb7⟩;have HB7:=ab (show Below w6.heap.size w6 w7 from((Below.refl _ _).alloc (Nat.le_refl _) _).trans (hb7.mono (by rw[eZ]; omega)));clear hb7;have HX7:=ab ((HB7.out.block _ (lt_of_block HX6.out)).trans HX6.out);have hz7:=HB7.out.size;clear x0 x1 x2 x3 x4 x5 hcv5
 go_upto_region 6 with fail
 have hz4s:W3.heap.size<=w7.heap.size:=by have:=HZ5.out; omega
 have HB37:=ab (show Below W3.heap.size W3 w7 from((HB4.out.trans (HB5.out.mono hz4)).trans (HB6.out.mono (by have:=HZ5.out; omega))).trans (HB7.out.mono (by have:=HZ5.out; omega)));have HT7:=ab ((HB37.out.block _ (lt_of_block HT3.out)).trans HT3.out);have HC7:=ab ((HB37.out.block _ (lt_of_block HC3.out)).trans HC3.out);have HF7:=ab (((HF4.out.below HB5.out).below HB6.out).below HB7.out)
 have hcv7:=jK w7 #[.int .u8 97, .int .u8 98, .int .u8 100] 3 3;have hz17:W1.heap.size+1<w7.heap.size:=lt_of_block HT7.out;have f10:w7.frozen? ⟨W1.heap.size+1,10,none⟩=false:=ag HT7.out;have t10:w7.cell? ⟨W1.heap.size+1,10,none⟩=some (.slice (some ⟨W1.heap.size,0,none⟩) 3 3):=vJ (k:=10) HT7.out;have hw37:w.heap.size<=W3.heap.size:=HB3.out.size
 clear hz4s
 go_upto_region 7 with fail
 obtain⟨W8,hW8⟩: ∃W8,W8=(w7.setCell ⟨W1.heap.size+1,10,none⟩ (.slice (some ⟨w7.heap.size,0,none⟩) 3 3)).alloc (.cells #[.int .u8 97, .int .u8 98, .int .u8 100] 5 (3,4)):=⟨_,rfl⟩;rw[<-hW8];have HT8:=ab (show W8.heap[W1.heap.size+1]? =some (.cells (mp w7.heap.size).toArray 30 (0,0)) by rw[hW8]; exact iT (xp HT7.out));have HD8:=ab (show W8.heap[w7.heap.size]? =some (.cells ([97,98,100].map aP).toArray 5 (3,4)) by rw[hW8]; exact yq _ _ _ _)
 have hl3:W1.heap.size+1<W3.heap.size:=lt_of_block HT3.out;have HC8:=ab (show W8.heap[w.heap.size]? =some (.cells #[.int .i64 4, .int .i64 8, .int .i64 4, .int .i64 20, .int .u64 0] 48 (0,0)) by rw[hW8]; exact sP HC7.out (by show w.heap.size≠W1.heap.size+1; omega));have HX8:=ab (show W8.heap[w4.heap.size]? =some (.cells #[.int .i64 10, .slice fa fn fc, .slice ca cn cc, .slice na 1 nc, .int .i64 1, .int .i64 0] 54 (0,0)) by rw[hW8]; exact sP HX7.out (by show w4.heap.size≠W1.heap.size+1; omega))
 have HF8:=ab (show bq W8 W3.heap.size (.slice fa fn fc) (bP [aZ [97,98,99]]) by rw[hW8]; exact zh HF7.out hl3);have HB8:=ab (show Below w.heap.size w W8 by rw[hW8]; exact zo _ _ (HB3.out.trans (HB37.out.mono hw37)) (by show w.heap.size<=W1.heap.size+1; omega) (by omega));have HE8:=ab (HE.out.keep HB8.out h6);have hz8:w.heap.size<=W8.heap.size:=HB8.out.size
 clear hW8 hcv7 t10 f10 c0 c1 c2 c3 c4;have x0:=ac (k:=0) HX8.out;have x1:=ac (k:=1) HX8.out;have x2:=ac (k:=2) HX8.out;have x3:=ac (k:=3) HX8.out;have x4:=ac (k:=4) HX8.out;have x5:=ac (k:=5) HX8.out;simp only[List.getElem?_toArray,bZ]at x0 x1 x2 x3 x4 x5;have c0:=ac (k:=0) HC8.out;have c1:=ac (k:=1) HC8.out;have c2:=ac (k:=2) HC8.out
 have c3:=ac (k:=3) HC8.out;have c4:=ac (k:=4) HC8.out;simp only[List.getElem?_toArray,bZ]at c0 c1 c2 c3 c4;have ht8:=ab (oG HT8.out HD8.out rfl);go_wp2_with (refine(uD (fun k=>W3.heap.size<=k) _ _ _ HF8.out.at ht8.out HE8.out).mono ?_);intro e w9 h9;obtain⟨fa2,fn2,fc2,ca2,cn2,cc2,na2,nc2,rfl,hb9,-,-,-,hcn2⟩:=rm h9 (fun p hp=>absurd hp (by simp))
 dsimp only at hcn2
 subst hcn2;have HB9:=ab hb9;have hz9:=hb9.size;clear h9 hb9
 go_upto_region 8 with fail
 obtain⟨WA,hWA⟩: ∃WA,WA=w9.alloc (.cells #[.int .i64 20, .slice fa2 fn2 fc2, .slice ca2 0 cc2, .slice na2 0 nc2, .int .i64 0, .int .i64 1] 54):=⟨_,rfl⟩;rw[<-hWA];have HYA:=ab (show WA.heap[w9.heap.size]? =some (.cells #[.int .i64 20, .slice fa2 fn2 fc2, .slice ca2 0 cc2, .slice na2 0 nc2, .int .i64 0, .int .i64 1] 54 (0,0)) by rw[hWA]; exact heap_alloc_new w9 _);have HBA:=ab (show Below W8.heap.size W8 WA by rw[hWA]; exact HB9.out.alloc hz9 _)
 have HTA:=ab ((HBA.out.block _ (lt_of_block HT8.out)).trans HT8.out);have HDA:=ab ((HBA.out.block _ (lt_of_block HD8.out)).trans HD8.out);have HCA:=ab ((HBA.out.block _ (lt_of_block HC8.out)).trans HC8.out);have HXA:=ab ((HBA.out.block _ (lt_of_block HX8.out)).trans HX8.out);have HFA:=ab (HF8.out.below HBA.out);have HEA:=ab (HE8.out.below HBA.out);have hzA:=HBA.out.size;clear hWA c0 c1 c2 c3 c4 x0 x1 x2 x3 x4 x5
 have x0:=ac (k:=0) HXA.out;have x1:=ac (k:=1) HXA.out;have x2:=ac (k:=2) HXA.out;have x3:=ac (k:=3) HXA.out;have x4:=ac (k:=4) HXA.out;have x5:=ac (k:=5) HXA.out;simp only[List.getElem?_toArray,bZ]at x0 x1 x2 x3 x4 x5;have c0:=ac (k:=0) HCA.out;have c1:=ac (k:=1) HCA.out;have c2:=ac (k:=2) HCA.out;have c3:=ac (k:=3) HCA.out
 have c4:=ac (k:=4) HCA.out;simp only[List.getElem?_toArray,bZ]at c0 c1 c2 c3 c4;have htA:=ab (oG HTA.out HDA.out rfl);go_wp2_with (refine(uE (fun k=>W3.heap.size<=k) _ _ _ HFA.out.at htA.out HEA.out).mono ?_);intro e wb hb;obtain⟨fa3,fn3,fc3,ca3,cn3,cc3,na3,nc3,rfl,hbb,-,hcb,-,-⟩:=rm hb (kR (.inr rfl));have HBB:=ab hbb;have HPB:=ab hcb;have hzb:=hbb.size
 clear hb hbb hcb
 go_upto_region 9 with fail
 obtain⟨WC,hWC⟩: ∃WC,WC=wb.alloc (.cells #[.int .i64 20, .slice fa3 fn3 fc3, .slice ca3 cn3 cc3, .slice na3 0 nc3, .int .i64 0, .int .i64 0] 54):=⟨_,rfl⟩;rw[<-hWC];have HZC:=ab (show WC.heap[wb.heap.size]? =some (.cells #[.int .i64 20, .slice fa3 fn3 fc3, .slice ca3 cn3 cc3, .slice na3 0 nc3, .int .i64 0, .int .i64 0] 54 (0,0)) by rw[hWC]; exact heap_alloc_new wb _);have HBC:=ab (show Below WA.heap.size WA WC by rw[hWC]; exact HBB.out.alloc hzb _)
 have HPC:=ab (show ax (fun _=>True) WC (.slice ca3 cn3 cc3) ((lj 4).map sW) by rw[hWC]; exact HPB.out.below' ((Below.refl _ _).alloc (Nat.le_refl _) _));have HYC:=ab ((HBC.out.block _ (lt_of_block HYA.out)).trans HYA.out);have hzC:=HBC.out.size;clear hWC c0 c1 c2 c3 c4 x0 x1 x2 x3 x4 x5;have x0:=ac (k:=0) HYC.out;have x1:=ac (k:=1) HYC.out;have x2:=ac (k:=2) HYC.out
 have x3:=ac (k:=3) HYC.out;have x4:=ac (k:=4) HYC.out;have x5:=ac (k:=5) HYC.out;simp only[List.getElem?_toArray,bZ]at x0 x1 x2 x3 x4 x5;have y0:=ac (k:=0) HZC.out;have y1:=ac (k:=1) HZC.out;have y2:=ac (k:=2) HZC.out;have y3:=ac (k:=3) HZC.out;have y4:=ac (k:=4) HZC.out;have y5:=ac (k:=5) HZC.out;simp only[List.getElem?_toArray,bZ]at y0 y1 y2 y3 y4 y5
 go_wp2_with (refine(lZ _ _ _ _ ((lj 4).map sW) ((lj 4).map sW) true _ (HPC.out.below' ((Below.refl _ _).alloc (Nat.le_refl _) _)) (sM (l:=lj 4) (heap_alloc_new _ _) (sO 4) (kR (.inr rfl))) (decide_eq_true rfl)).mono ?_);rintro e wd ⟨rfl,hbd⟩;have HBD:=ab (show Below w.heap.size w wd from((HB8.out.trans (HBA.out.mono hz8)).trans (HBC.out.mono (by omega))).trans (((Below.refl WC.heap.size WC).alloc (Nat.le_refl _) _).mono (by omega) |>.trans (hbd.mono (by rw[eZ]; omega))))
 clear hbd;go_wp2_with fail;go_ret
 first | exact HBD.out | exact⟨rfl,HBD.out⟩
end Go.Proofs.YtnjkpcalgoefhaaGreatDoor
