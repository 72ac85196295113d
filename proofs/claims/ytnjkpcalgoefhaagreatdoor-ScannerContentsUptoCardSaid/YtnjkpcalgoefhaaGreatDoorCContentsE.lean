/- Texts of this proof, one after the other: DivE, DivF, Match, Rules, Ign, Parse, ScnR, RefI, RefJ, RfA, RefA, RefB, RfD. -/
import Derived.Test.YtnjkpcalgoefhaaGreatDoorCContentsD
set_option maxRecDepth 100000
set_option maxHeartbeats 8000000
namespace Go.Proofs.YtnjkpcalgoefhaaGreatDoor
open Go.RowKit
def cM (c:aJ) (x:ByteArray):Bool:=uu c (bl x)
theorem jm (S:Nat->Prop) (c:aJ) (v:Value) (x:ByteArray) (w:World) (hv:cu S w v c.items) (hn:c.items.length<=65536) (hx:x.size<=65536):
  Calls Tryz.prog 116 #[.agg #[.bool c.dbl,v], .string x] w fun e w'=>e= .returned (.bool (cM c x))/\Below w.heap.size w w':=lE S c v x w hv hn hx
theorem mK (ps:List aJ) (ts:List ByteArray) (S:Nat->Prop) (w0:World) (B:Nat) (pv tv:Value) (hB:w0.heap.size=B) (hp:cR S w0 pv ps) (htv:aD S w0 1 tv ts.length (ts.map Value.string))
  (hn:ps.length<=65536) (hm:ts.length<=65536) (hps: ∀c∈ps,c.items.length<=65536) (hts: ∀x∈ts,x.size<=65536) (i j:Nat) (w:World) (tr:List Bool) (hi:i<=ps.length) (hj:j<=ts.length)
  (IH:i<ps.length->ui aJ.dbl cM ps ts (i+1) w0 B ((ps.length+1)*(ts.length+1)) 140 pv tv (.func (.func 115) #[] #[]) (.func (.func 116) #[] #[]))
  (hst:eL w0 B ((ps.length+1)*(ts.length+1)) 140 pv tv (.func (.func 115) #[] #[]) (.func (.func 116) #[] #[]) tr w) (hinv:eq aJ.dbl cM ps ts i tr):
  Calls Tryz.prog 140 #[.int .i64 i, .int .i64 j, .pointer (some ⟨B+1,0,none⟩), .pointer (some ⟨B+5,0,none⟩), .pointer (some ⟨B,0,none⟩), .pointer (some ⟨B+2,0,none⟩), .pointer (some ⟨B+3,0,none⟩), .pointer (some ⟨B+6,0,none⟩)] w
   (pD aJ.dbl cM ps ts i j w0 B ((ps.length+1)*(ts.length+1)) 140 pv tv (.func (.func 115) #[] #[]) (.func (.func 116) #[] #[]) tr):=by
 obtain⟨pa,pc,rfl,hpc,hpm,hpx⟩:=hp.shape eK.len;obtain⟨_,ta,tc,rfl,htc,htm,ht0⟩:=htv;unfold maxLen at hpm htm;obtain⟨c0,c1,c2,c3,c5,c6,-,hlen,-,-⟩:=id hst;have HST:=aa hst;have HINV:=aa hinv;have HIH:=aa IH;clear IH;have HPX:=aa hpx;have HT0:=aa ht0;have HLEN:=aa hlen;have hpS:=hp;have HPS:=aa hpS;have HPZ:=aa hps;have HTZ:=aa hts;clear hps hts
 clear hst hinv hpx ht0 hlen hp hpS;obtain⟨N,hN⟩: ∃N:Nat,N=(ps.length+1)*(ts.length+1):=⟨_,rfl⟩;have hpN:i*(ts.length+1)+j<N:=by rw[hN]; exact rH _ _ _ _ hi hj
 have hNb:N<=4295098369:=by
  have h1:(ps.length+1)*(ts.length+1)<=65537*65537:=Nat.mul_le_mul (by omega) (by omega);omega
 have hX:(i:Int)*((ts.length:Int)+1)=((i*(ts.length+1):Nat):Int):=by simp
 have hb1:0<=(i:Int)*((ts.length:Int)+1):=by rw[hX]; omega
 have hb2:(i:Int)*((ts.length:Int)+1)<=4295098369:=by rw[hX]; omega
 have hb3:(i:Int)*((ts.length:Int)+1)+(j:Int)<(N:Int):=by rw[hX]; omega
 obtain⟨b0,hq⟩: ∃b,tr[i*(ts.length+1)+j]? =some b:=⟨tr[i*(ts.length+1)+j]'(by rw[HLEN.out,<-hN]; exact hpN),by simp⟩;have HQ:=aa hq;have c4:=HST.out.cell hq;have f4:=HST.out.free (i*(ts.length+1)+j);rw[<-hN]at c5 HST HIH ⊢;have HN:=aa hN;clear hN hq HLEN hX
 cases b0 with
 | true=>
  go_enter Tryz.func140,Tryz.ntmps140
  go_wp2_with fail;go_ret;have hf:dv aJ.dbl cM (ps.drop i) (ts.drop j)=false:=HINV.out.hit hi hj HQ.out;exact⟨tr,by rw[hf]; rfl,HST.out,fun _=>HINV.out,fun _ _=>rfl⟩
 | false=>
  have hst1:=HST.out.mark (i*(ts.length+1)+j);have HST1:=aa hst1;have HINV1:=aa (HINV.out.marked (j:=j) hj);obtain⟨d0,d1,d2,d3,d5,d6,-,-,-,-⟩:=hst1
  by_cases hin:i=ps.length
  ·have e1:((i:Int) == (ps.length:Int))=true:=by rw[hin]; simp
   have HIN:=aa hin;clear hin
   go_enter Tryz.func140,Tryz.ntmps140
   go_wp2_with fail;go_ret;have hdv:=xI (star:=aJ.dbl) (M:=cM) HIN.out hj;refine⟨tr.set (i*(ts.length+1)+j) true, ?_,HST1.out,fun hf=>HINV.out.down HINV1.out (fun q' _=>rfl) hf,fun q' hq'=> ?_⟩
   ·rw[hdv];exact ak (by rw[Bool.eq_iff_iff]; simp; omega)
   ·rw[List.getElem?_set_ne];omega
  ·have hin':i<ps.length:=by omega
   have e1:((i:Int) == (ps.length:Int))=false:=by rw[beq_eq_false_iff_ne]; omega
   clear hin;obtain⟨it,hit⟩: ∃it,ps[i]? =some it:=⟨ps[i],by simp[hin']⟩;obtain⟨pb,po,c,rfl,hSb,⟨rv,rfl,hrv⟩,-,hcl⟩:=HPX.out i it hit;have HIT:=aa hit;have HRV:=aa hrv;have q0:=hcl 0 (by omega);have q1:=hcl 1 (by omega);simp only[Nat.add_zero,<-Nat.add_assoc,cj]at q0 q1;have Q0:=aa q0;have Q1:=aa q1;have g0:=cE HST1.out.below hB q0;have g1:=cE HST1.out.below hB q1
   clear hit hrv hcl q0 q1
   cases hs:it.dbl
   ·have HS:=aa hs;clear hs
    go_enter Tryz.func140,Tryz.ntmps140
    go_wp2_with fail;clear c0 c1 c2 c3 c4 c5 c6 f4
    generalize hW:w.setCell ⟨B+4,i*(ts.length+1)+j,none⟩ (.bool true)=W at *
    clear hW hb1 hb2 hb3 hpN hNb;refine al [some 5,none,some 1] (by kernel_rfl) (by kernel_rfl) (by kernel_rfl) ?_;simp only[bc,List.take_succ_cons,List.take_zero,List.drop_succ_cons,List.drop_zero];have HST2:=aa (HST1.out.grown (Below.refl _ W).drew)
    repeat (first | (refine aw rfl ?_; simp only[Act.put,aG,aH,aI]) | (refine aB rfl (fun K hK=> ?_); go_simp; refine hK _ ?_; clear hK K))
    refine aA ?_;clear d0 d1 d2 d3 d5 d6 g0 g1 HST1
    generalize W.drew=W2 at *
    refine bg rfl (fun K hK=> ?_);go_wp2_with (go_at_call 115; refine(kY it rv _).mono ?_; rintro e w3 ⟨rfl,hb3⟩; rw[HS.out]; have HST3:=aa (HST2.out.grown hb3); clear hb3 HST2)
    repeat (first | (refine aw rfl ?_; simp only[Act.put,aG,aH,aI]) | (refine aB rfl (fun K hK=> ?_); go_simp; refine hK _ ?_; clear hK K))
    refine aA ?_;go_wp2_with fail;obtain⟨d0,d1,d2,d3,d5,d6,-,-,-,-⟩:=id HST3.out;have g0:=cE HST3.out.below hB Q0.out;have g1:=cE HST3.out.below hB Q1.out
    by_cases hjm:j<ts.length
    ·have ejm:decide ((j:Int)<(ts.length:Int))=true:=by simpa using hjm
     obtain⟨x,hx⟩: ∃x,ts[j]? =some x:=⟨ts[j],by simp[hjm]⟩;obtain⟨tb,tof,rfl,hSt,htcl⟩:=HT0.out.resolve_left (by omega);have hx3:=cE HST3.out.below hB (htcl j (.string x) (by simp[hx]));have HX:=aa hx;clear hx htcl
     cases hM:cM it x
     ·have HM:=aa hM;clear hM;have ejm2:(j:Int)<(ts.length:Int):=by omega
      refine al [some 14,none,some 7,none,some 2] (by kernel_rfl) (by kernel_rfl) (by kernel_rfl) ?_;simp only[bc,List.take_succ_cons,List.take_zero,List.drop_succ_cons,List.drop_zero];have HST3':=aa (HST3.out.grown (Below.refl _ w3).drew)
      repeat (first | (refine aw rfl ?_; simp only[Act.put,aG,aH,aI]) | (refine aB rfl (fun K hK=> ?_); go_simp; refine hK _ ?_; clear hK K))
      refine aA ?_;clear d0 d1 d2 d3 d5 d6 g0 g1 hx3;have hrv4:cu S w3.drew rv it.items:=cu.move HRV.out (fun k hk h=>⟨h,HST3'.out.below.block k (by omega)⟩);have HRV4:=aa hrv4;clear hrv4
      generalize w3.drew=w3d at *
      refine bg rfl (fun K hK=> ?_);go_wp2_with (go_at_call 116; refine(jm S it rv x _ HRV4.out (HPZ.out it (List.mem_of_getElem? HIT.out)) (HTZ.out x (List.mem_of_getElem? HX.out))).mono ?_; rintro e w4 ⟨rfl,hb4⟩; rw[HM.out]; have HST4:=aa (HST3'.out.grown hb4); clear hb4)
      repeat (first | (refine aw rfl ?_; simp only[Act.put,aG,aH,aI]) | (refine aB rfl (fun K hK=> ?_); go_simp; refine hK _ ?_; clear hK K))
      refine aA ?_;refine gm rfl ?_;simp only[Act.put,aG,aH,aI]
      repeat (first | (refine aw rfl ?_; simp only[Act.put,aG,aH,aI]) | (refine aB rfl (fun K hK=> ?_); go_simp; refine hK _ ?_; clear hK K))
      refine aA ?_;go_wp2_with fail;go_ret;have hdv:=show dv aJ.dbl cM (ps.drop i) (ts.drop j)=false by rw[pP HIT.out HS.out HX.out,HM.out]; rfl
      refine⟨tr.set (i*(ts.length+1)+j) true,by rw[hdv]; rfl,HST4.out,fun hf=>HINV.out.down HINV1.out (fun _ _=>rfl) hf,fun q hq=> ?_⟩;rw[List.getElem?_set_ne (by omega)]
     ·have HM:=aa hM;clear hM;have ejm2:(j:Int)<(ts.length:Int):=by omega
      refine al [some 14,none,some 7,none,some 2] (by kernel_rfl) (by kernel_rfl) (by kernel_rfl) ?_;simp only[bc,List.take_succ_cons,List.take_zero,List.drop_succ_cons,List.drop_zero];have HST3':=aa (HST3.out.grown (Below.refl _ w3).drew)
      repeat (first | (refine aw rfl ?_; simp only[Act.put,aG,aH,aI]) | (refine aB rfl (fun K hK=> ?_); go_simp; refine hK _ ?_; clear hK K))
      refine aA ?_;clear d0 d1 d2 d3 d5 d6 g0 g1 hx3;have hrv4:cu S w3.drew rv it.items:=cu.move HRV.out (fun k hk h=>⟨h,HST3'.out.below.block k (by omega)⟩);have HRV4:=aa hrv4;clear hrv4
      generalize w3.drew=w3d at *
      refine bg rfl (fun K hK=> ?_);go_wp2_with (go_at_call 116; refine(jm S it rv x _ HRV4.out (HPZ.out it (List.mem_of_getElem? HIT.out)) (HTZ.out x (List.mem_of_getElem? HX.out))).mono ?_; rintro e w4 ⟨rfl,hb4⟩; rw[HM.out]; have HST4:=aa (HST3'.out.grown hb4); clear hb4);have d6:=HST4.out.c6
      repeat (first | (refine aw rfl ?_; simp only[Act.put,aG,aH,aI]) | (refine aB rfl (fun K hK=> ?_); go_simp; refine hK _ ?_; clear hK K))
      refine aA ?_;refine bg rfl (fun K hK=> ?_);go_wp2_with (go_at_call 140; refine(HIH.out hin' _ _ (j+1) w4 (tr.set (i*(ts.length+1)+j) true) (by omega) (by omega) (by omega) HST4.out HINV1.out).mono ?_; rintro e w5 ⟨tr2,rfl,hst5,hinv5,hsame5⟩; have HST5:=aa hst5; have HINV5:=aa hinv5; have HSM5:=aa hsame5; clear hst5 hinv5 hsame5)
      repeat (first | (refine aw rfl ?_; simp only[Act.put,aG,aH,aI]) | (refine aB rfl (fun K hK=> ?_); go_simp; refine hK _ ?_; clear hK K))
      refine aA ?_;go_wp2_with fail;go_ret;have hdv:dv aJ.dbl cM (ps.drop i) (ts.drop j)=dv aJ.dbl cM (ps.drop (i+1)) (ts.drop (j+1)):=by rw[pP HIT.out HS.out HX.out,HM.out]; rfl
      refine⟨tr2,by rw[hdv]; rfl,HST5.out,fun hf=>HINV.out.down (HINV5.out (by rw[<-hdv]; exact hf)) (fun q hq=>HSM5.out q hq) hf,fun q hq=> ?_⟩;rw[HSM5.out q (by rw[Nat.add_mul]; omega),List.getElem?_set_ne (by omega)]
    ·have ejm:decide ((j:Int)<(ts.length:Int))=false:=by simpa using hjm
     go_quiet (fail)
     go_wp2_with fail;go_ret;have HST4:=aa (HST3.out.grown (cg (Below.refl _ w3) nq));have hdv:=show dv aJ.dbl cM (ps.drop i) (ts.drop j)=false from uy HIT.out HS.out (by omega);refine⟨tr.set (i*(ts.length+1)+j) true,by rw[hdv]; rfl,HST4.out,fun hf=>HINV.out.down HINV1.out (fun _ _=>rfl) hf,fun q hq=> ?_⟩;rw[List.getElem?_set_ne (by omega)]
   ·have HS:=aa hs;clear hs
    go_enter Tryz.func140,Tryz.ntmps140
    go_wp2_with fail;clear c0 c1 c2 c3 c4 c5 c6 f4
    generalize hW:w.setCell ⟨B+4,i*(ts.length+1)+j,none⟩ (.bool true)=W at *
    clear hW hb1 hb2 hb3 hpN hNb;refine al [some 5,none,some 1] (by kernel_rfl) (by kernel_rfl) (by kernel_rfl) ?_;simp only[bc,List.take_succ_cons,List.take_zero,List.drop_succ_cons,List.drop_zero];have HST2:=aa (HST1.out.grown (Below.refl _ W).drew)
    repeat (first | (refine aw rfl ?_; simp only[Act.put,aG,aH,aI]) | (refine aB rfl (fun K hK=> ?_); go_simp; refine hK _ ?_; clear hK K))
    refine aA ?_;clear d0 d1 d2 d3 d5 d6 g0 g1 HST1
    generalize W.drew=W2 at *
    refine bg rfl (fun K hK=> ?_);go_wp2_with (go_at_call 115; refine(kY it rv _).mono ?_; rintro e w3 ⟨rfl,hb3⟩; rw[HS.out]; have HST3:=aa (HST2.out.grown hb3); clear hb3 HST2)
    repeat (first | (refine aw rfl ?_; simp only[Act.put,aG,aH,aI]) | (refine aB rfl (fun K hK=> ?_); go_simp; refine hK _ ?_; clear hK K))
    refine aA ?_;go_wp2_with fail
    go_loopw [12] (fun en wr=> ∃(k:Nat) (tr':List Bool),j<=k/\k<=ts.length+1/\en= .int .i64 k/\eL w0 B N 140 (.slice (some ⟨pb,po,none⟩) ps.length pc) (.slice ta ts.length tc) (.func (.func 115) #[] #[]) (.func (.func 116) #[] #[]) tr' wr/\
      eq aJ.dbl cM ps ts (i+1) tr'/\(∀q,q<(i+1)*(ts.length+1)->tr'[q]? =(tr.set (i*(ts.length+1)+j) true)[q]?)/\dv aJ.dbl cM (ps.drop i) (ts.drop j)=(decide (k<=ts.length) && fA (dv aJ.dbl cM (ps.drop (i+1))) (ts.drop k))) (fun en _=>ts.length+1-(intOf en).toNat)
    case atStart=>exact⟨j,_,Nat.le_refl _,by omega,rfl,HST3.out,HINV1.out,fun _ _=>rfl,by rw[uz HIT.out HS.out]; simp[hj]⟩
    case round=>
     obtain⟨k,tr',hjk,hk,rfl,hst4,hinv4,hsm4,hdv4⟩:=hrel;have HST4:=aa hst4;have HINV4:=aa hinv4;have HSM4:=aa hsm4;have HDV4:=aa hdv4;obtain⟨d0,d1,d2,d3,d5,d6,-,-,-,-⟩:=hst4;clear hinv4 hsm4 hdv4
     by_cases hkm:k<=ts.length
     ·cases hdvk:dv aJ.dbl cM (ps.drop (i+1)) (ts.drop k)
      ·have HDVK:=aa hdvk;clear hdvk;go_wp2_with (go_at_call 140; refine(HIH.out hin' _ _ k wr tr' (by omega) (by omega) (by omega) HST4.out HINV4.out).mono ?_; rintro e w5 ⟨tr2,rfl,hst5,hinv5,hsame5⟩; rw[HDVK.out]; have HST5:=aa hst5; have HINV5:=aa hinv5; have HSM5:=aa hsame5; clear hst5 hinv5 hsame5)
       go_roundw
       case rel=>
        refine⟨k+1,tr2,by omega,by omega,by go_num,HST5.out,HINV5.out HDVK.out,fun q hq=>(HSM5.out q hq).trans (HSM4.out q hq), ?_⟩;rw[HDV4.out]
        by_cases hlt:k<ts.length
        ·rw[fR _ hlt,HDVK.out]; simp[hkm,show k+1<=ts.length by omega]
        ·rw[gA _ (show k=ts.length by omega),HDVK.out]; simp[show ¬k+1<=ts.length by omega]
       case measure=>simp[intOf]; omega
      ·have HDVK:=aa hdvk;clear hdvk;go_wp2_with (go_at_call 140; refine(HIH.out hin' _ _ k wr tr' (by omega) (by omega) (by omega) HST4.out HINV4.out).mono ?_; rintro e w5 ⟨tr2,rfl,hst5,hinv5,hsame5⟩; rw[HDVK.out]; have HST5:=aa hst5; have HINV5:=aa hinv5; have HSM5:=aa hsame5; clear hst5 hinv5 hsame5);go_ret;have hdv:dv aJ.dbl cM (ps.drop i) (ts.drop j)=true:=by
        rw[HDV4.out]
        by_cases hlt:k<ts.length
        ·rw[fR _ hlt,HDVK.out]; simp[hkm]
        ·rw[gA _ (show k=ts.length by omega),HDVK.out]; simp[hkm]
       refine⟨tr2,by rw[hdv]; rfl,HST5.out,(fun hf=>by rw[hdv]at hf; cases hf),fun q hq=> ?_⟩;rw[HSM5.out q (by rw[Nat.add_mul]; omega),HSM4.out q (by rw[Nat.add_mul]; omega),List.getElem?_set_ne (by omega)]
     ·go_wp2_with fail;go_ret;have hdv:dv aJ.dbl cM (ps.drop i) (ts.drop j)=false:=by rw[HDV4.out]; simp[hkm]
      refine⟨tr',by rw[hdv]; rfl,HST4.out,fun hf=>HINV.out.down HINV4.out HSM4.out hf,fun q hq=> ?_⟩;rw[HSM4.out q (by rw[Nat.add_mul]; omega),List.getElem?_set_ne (by omega)]
theorem As (ps:List aJ) (ts:List ByteArray) (S:Nat->Prop) (w0:World) (B:Nat) (pv tv:Value) (hB:w0.heap.size=B) (hp:cR S w0 pv ps) (htv:aD S w0 1 tv ts.length (ts.map Value.string))
  (hn:ps.length<=65536) (hm:ts.length<=65536) (hps: ∀c∈ps,c.items.length<=65536) (hts: ∀x∈ts,x.size<=65536): ∀(d i:Nat),ps.length-i=d->i<=ps.length->ui aJ.dbl cM ps ts i w0 B ((ps.length+1)*(ts.length+1)) 140 pv tv (.func (.func 115) #[] #[]) (.func (.func 116) #[] #[])
 | 0,i,hd,hi=>by
  intro ii jj j w tr h1 h2 hj hst hinv;subst h1 h2;exact mK ps ts S w0 B pv tv hB hp htv hn hm hps hts i j w tr hi hj (fun h=>by omega) hst hinv
 | d+1,i,hd,hi=>by
  intro ii jj j w tr h1 h2 hj hst hinv;subst h1 h2;exact mK ps ts S w0 B pv tv hB hp htv hn hm hps hts i j w tr hi hj (fun h=>As ps ts S w0 B pv tv hB hp htv hn hm hps hts d (i+1) (by omega) (by omega)) hst hinv
theorem qL (ps:List aJ) (ts:List ByteArray) (S:Nat->Prop) (w:World) (pv tv:Value) (hp:cR S w pv ps) (htv:aD S w 1 tv ts.length (ts.map Value.string)) (hn:ps.length<=65536) (hm:ts.length<=65536) (hps: ∀c∈ps,c.items.length<=65536) (hts: ∀x∈ts,x.size<=65536):
  Calls Tryz.prog 114 #[pv,tv, .func (.func 115) #[] #[], .func (.func 116) #[] #[]] w fun e w'=>e= .returned (.bool (dv aJ.dbl cM ps ts))/\Below w.heap.size w w':=by
 obtain⟨pa,pc,rfl,-,-,-⟩:=hp.shape eK.len;obtain⟨_,ta,tc,rfl,-⟩:=id htv;have HF:=aa (As ps ts S w w.heap.size _ _ rfl hp htv hn hm hps hts ps.length 0 rfl (Nat.zero_le _));clear hp htv hps hts;have hN:(ps.length+1)*(ts.length+1)<=65537*65537:=Nat.mul_le_mul (by omega) (by omega);have hX:((ps.length:Int)+1)*((ts.length:Int)+1)=(((ps.length+1)*(ts.length+1):Nat):Int):=by simp
 have hb1:0<=((ps.length:Int)+1)*((ts.length:Int)+1):=by rw[hX]; omega
 have hb2:((ps.length:Int)+1)*((ts.length:Int)+1)<=4295098369:=by rw[hX]; omega
 have hmk:=kr (P:=Tryz.prog) (t:=203) (e:=4) (z:= .bool false) ((ps.length+1)*(ts.length+1)) [.bool false] Tryz.underlying203 (bytes:=1) (sz:=1) (by kernel_rfl) rfl rfl (by omega) (by omega) (by omega);rw[<-hX]at hmk;clear hX hN
 go_enter Tryz.func114,Tryz.ntmps114
 go_wp2_with fail;refine(HF.out 0 0 0 _ (List.replicate ((ps.length+1)*(ts.length+1)) false) rfl rfl (Nat.zero_le _) (ld w _ _ _ _ _ _ _ _ _ _ _ _) ?_).mono ?_
 ·intro i' j' _ _ _ h;rw[List.getElem?_replicate]at h
  split at h<;> simp at h
 ·rintro e w1 ⟨tr',rfl,hst,-,-⟩;go_wp2_with fail;go_ret;exact⟨rfl,hst.below⟩
theorem xJ {P T U:Type} (star:P->Bool) (m:P->T->Bool) (f:U->T): ∀(ps:List P) (us:List U),dv star (fun p u=>m p (f u)) ps us=dv star m ps (us.map f)
 | [],us=>by cases us<;> simp[dv]
 | p::ps,us=>by
  have ih:=xJ star m f ps;unfold dv
  split
  ·induction us with
   | nil=>simp[fA,ih]
   | cons u us ih2=>simp only[fA,List.map_cons,ih,ih2]
  ·cases us with
   | nil=>simp[qZ]
   | cons u us=>simp[qZ,ih]
theorem xK (cs:List aJ) (xs:List ByteArray):dv aJ.dbl cM cs xs=gg cs (xs.map bl):=xJ aJ.dbl uu bl cs xs
theorem cP (cs:List aJ) (xs:List ByteArray) (S:Nat->Prop) (w:World) (pv tv:Value) (hp:cR S w pv cs) (htv:bK S w tv xs) (hn:cs.length<=65536) (hm:xs.length<=65536) (hps: ∀c∈cs,c.items.length<=65536) (hts: ∀x∈xs,x.size<=65536):
  Calls Tryz.prog 75 #[pv,tv] w fun e w'=>e= .returned (.bool (gg cs (xs.map bl)))/\Below w.heap.size w w':=by
 have H:=aa (qL cs xs S w pv tv hp htv hn hm hps hts);clear hp htv hps hts
 go_enter Tryz.func75,Tryz.ntmps75
 go_wp2_with fail;refine H.out.mono ?_;rintro e w1 ⟨rfl,hb⟩;go_wp2_with fail;go_ret;exact⟨ak (xK cs xs),hb⟩
theorem iB {l:List UInt8} {cs:List aJ} (h:gv l=some cs):cs.length<=16/\(∀c∈cs,c.items.length<=512)/\l.length<=512:=by
 unfold gv at h
 split at h
 ·simp at h
 ·rename_i h1
  split at h
  ·simp at h
  ·rename_i h2;have h3:=mu h;have h5:l.length<=512:=by omega
   refine⟨by omega,jW h (fun p hp=> ?_),h5⟩;have:=fk 47 l p hp; omega
theorem sy {l:List UInt8} (h:bv l=true):l.length<=512/\(ax 47 l).length<=16:=by
 simp only[bv,Bool.and_eq_true,decide_eq_true_eq]at h; exact⟨h.1.1,h.1.2⟩
theorem tB {xs:List ByteArray} {l:List UInt8} (h:bv l=true) (hx:xs.map bl=ax 47 l):xs.length<=16/\ ∀x∈xs,x.size<=512:=by
 have h1:=sy h;refine⟨by have:(xs.map bl).length=_:=congrArg _ hx; rw[List.length_map]at this; omega,fun x hm=> ?_⟩;have:=fk 47 l (bl x) (by rw[<-hx]; exact List.mem_map.2 ⟨x,hm,rfl⟩);rw[am]; omega
theorem cR.below {S:Nat->Prop} {w w':World} {v:Value} {cs:List aJ} (h:cR S w v cs) (hb:Below w.heap.size w w'):cR (fun _=>True) w' v cs:=h.move (fun k hk _=>⟨trivial,hb.block k hk⟩)
def pf (r:aN):Value:= .agg #[.string ⟨r.pat.toArray⟩, .bool r.keep, .bool r.dir, .bool r.rooted]
theorem bZ (s p:ByteArray) (b:Bool) (w:World) (h:Lib.hasPrefix (bl s) (bl p)=b):
  Calls Tryz.prog 71 #[.string s, .string p] w fun e w'=>e= .returned (.bool b)/\w=w':=by rw[<-h]; exact nS s p w
theorem eM (s:ByteArray) (c:UInt8) (b:Bool) (w:World) (h:(bl s).contains c=b):
  Calls Tryz.prog 111 #[.string s, .string ⟨#[c]⟩] w fun e w'=>e= .returned (.bool b)/\w=w':=by rw[<-h]; exact jX s c w
theorem dp (p:ByteArray) (k d r:Bool) (w:World) (he:ie w) (hp:p.size<=9223372036854775807):
  Calls Tryz.prog 74 #[.agg #[.string p, .bool k, .bool d, .bool r]] w (sF (aQ ⟨bl p,k,d,r⟩) w):=by
 have HE:=aa he;clear he;have hb0:Below w.heap.size w (w.alloc (.cells #[.string p, .bool k, .bool d, .bool r] 141)):=(Below.refl _ _).alloc (Nat.le_refl _) _;have HB0:=aa hb0;clear hb0
 cases h1:Lib.hasPrefix (bl p) [33]
 ·have H1:=aa h1;clear h1
  cases h2:Lib.hasPrefix (bl p) [35]
  ·have H2:=aa h2;clear h2
   cases h3:(bl p).contains 47 && !r
   ·have HC:Hid (aQ ⟨bl p,k,d,r⟩=gv (bl p)):=aa (by unfold aQ; simp only[H1.out,H2.out,h3,Bool.or_self,Bool.false_eq_true,if_false]);have h3':(bl p).contains 47=true->r=true:=by intro h; rw[h]at h3; simpa using h3
    have H3:=aa h3';clear h3 h3'
    go_enter Tryz.func74,Tryz.ntmps74
    go_wp2_with fail;refine(bZ p ⟨#[33]⟩ false _ H1.out).mono ?_;rintro e w' ⟨rfl,rfl⟩;go_wp2_with fail;refine(bZ p ⟨#[35]⟩ false _ H2.out).mono ?_;rintro e w' ⟨rfl,rfl⟩;go_wp2_with fail
    cases h4:(bl p).contains 47
    ·have H4:=aa h4;clear h4;refine(eM p 47 false _ H4.out).mono ?_;rintro e w' ⟨rfl,rfl⟩;go_wp2_with fail
     cases hpat:gv (bl p)with
     | none=>
      have HP:=aa hpat
      clear hpat
      refine(dx p _ (HE.out.below HB0.out) hp).mono ?_;rw[HP.out];rintro e w1 ⟨rfl,hb1⟩;have HB1:=aa hb1;clear hb1;go_wp2_with fail
      go_ret2
      rw[HC.out,HP.out];exact⟨rfl,ac HB0.out HB1.out⟩
     | some cs=>
      have HP:=aa hpat
      clear hpat
      refine(dx p _ (HE.out.below HB0.out) hp).mono ?_;rw[HP.out];rintro e w1 ⟨v,rfl,hv1,hb1⟩;have HV1:=aa hv1;have HB1:=aa hb1;clear hb1 hv1;go_wp2_with fail
      go_ret2
      rw[HC.out,HP.out];exact⟨v,rfl,HV1.out.move (fun k _ hk=>⟨by simp at hk; omega,rfl⟩),ac HB0.out HB1.out⟩
    ·have H4:=aa h4;obtain rfl:r=true:=H3.out h4;clear h4;refine(eM p 47 true _ H4.out).mono ?_;rintro e w' ⟨rfl,rfl⟩;go_wp2_with fail
     cases hpat:gv (bl p)with
     | none=>
      have HP:=aa hpat
      clear hpat
      refine(dx p _ (HE.out.below HB0.out) hp).mono ?_;rw[HP.out];rintro e w1 ⟨rfl,hb1⟩;have HB1:=aa hb1;clear hb1;go_wp2_with fail
      go_ret2
      rw[HC.out,HP.out];exact⟨rfl,ac HB0.out HB1.out⟩
     | some cs=>
      have HP:=aa hpat
      clear hpat
      refine(dx p _ (HE.out.below HB0.out) hp).mono ?_;rw[HP.out];rintro e w1 ⟨v,rfl,hv1,hb1⟩;have HV1:=aa hv1;have HB1:=aa hb1;clear hb1 hv1;go_wp2_with fail
      go_ret2
      rw[HC.out,HP.out];exact⟨v,rfl,HV1.out.move (fun k _ hk=>⟨by simp at hk; omega,rfl⟩),ac HB0.out HB1.out⟩
   ·have HC:Hid (aQ ⟨bl p,k,d,r⟩=none):=aa (by unfold aQ; simp only[H1.out,H2.out,h3,Bool.or_self,Bool.false_eq_true,if_false,if_true]);rw[Bool.and_eq_true]at h3;obtain⟨h4,h5⟩:=h3;obtain rfl:r=false:=by simpa using h5
    have H4:=aa h4;clear h4 h5
    go_enter Tryz.func74,Tryz.ntmps74
    go_wp2_with fail;refine(bZ p ⟨#[33]⟩ false _ H1.out).mono ?_;rintro e w' ⟨rfl,rfl⟩;go_wp2_with fail;refine(bZ p ⟨#[35]⟩ false _ H2.out).mono ?_;rintro e w' ⟨rfl,rfl⟩;go_wp2_with fail;refine(eM p 47 true _ H4.out).mono ?_;rintro e w' ⟨rfl,rfl⟩;go_wp2_with fail
    go_ret2
    rw[HC.out];exact⟨rfl,HB0.out⟩
  ·have H2:=aa h2;clear h2;have HC:Hid (aQ ⟨bl p,k,d,r⟩=none):=aa (by unfold aQ; simp only[H1.out,H2.out,Bool.or_true,if_true])
   go_enter Tryz.func74,Tryz.ntmps74
   go_wp2_with fail;refine(bZ p ⟨#[33]⟩ false _ H1.out).mono ?_;rintro e w' ⟨rfl,rfl⟩;go_wp2_with fail;refine(bZ p ⟨#[35]⟩ true _ H2.out).mono ?_;rintro e w' ⟨rfl,rfl⟩;go_wp2_with fail
   go_ret2
   rw[HC.out];exact⟨rfl,HB0.out⟩
 ·have H1:=aa h1;clear h1;have HC:Hid (aQ ⟨bl p,k,d,r⟩=none):=aa (by unfold aQ; simp only[H1.out,Bool.true_or,if_true])
  go_enter Tryz.func74,Tryz.ntmps74
  go_wp2_with fail;refine(bZ p ⟨#[33]⟩ true _ H1.out).mono ?_;rintro e w' ⟨rfl,rfl⟩;go_wp2_with fail
  go_ret2
  rw[HC.out];exact⟨rfl,HB0.out⟩
theorem jV (r:aN) (w:World) (he:ie w) (hp:r.pat.length<=9223372036854775807):Calls Tryz.prog 74 #[pf r] w (sF (aQ r) w):=by
 have:=dp ⟨r.pat.toArray⟩ r.keep r.dir r.rooted w he (by rw[am,jR]; exact hp);rw[jR]at this;exact this
def iG (r:aN):List Value:=[.string ⟨r.pat.toArray⟩, .bool r.keep, .bool r.dir, .bool r.rooted]
def om (c:List Value) (r:aN):Prop:=c=iG r
theorem om.len (c:List Value) (r:aN) (h:om c r):c.length=4:=by rw[h]; rfl
def bB (S:Nat->Prop) (w:World) (v:Value) (rs:List aN):Prop:=aP S w 4 om v rs
theorem bB.below {S:Nat->Prop} {w w':World} {v:Value} {rs:List aN} (h:bB S w v rs) (hb:Below w.heap.size w w'):bB S w' v rs:=aP.below h (by omega) hb (fun _ _ _ h=>h)
theorem bB.cells {S:Nat->Prop} {w:World} {v:Value} {rs:List aN} (h:bB S w v rs):
  ∃a cap,v= .slice a rs.length cap/\rs.length<=cap/\cap<=maxLen/\ ∀(k:Nat) r,rs[k]? =some r-> ∃b o,a=some ⟨b,o,none⟩/\w.cell? ⟨b,o+k*4,none⟩=some (.string ⟨r.pat.toArray⟩)/\
   w.cell? ⟨b,o+k*4+1,none⟩=some (.bool r.keep)/\w.cell? ⟨b,o+k*4+2,none⟩=some (.bool r.dir)/\w.cell? ⟨b,o+k*4+3,none⟩=some (.bool r.rooted):=by
 obtain⟨a,cap,hv,h1,h2,h3⟩:=aP.shape h om.len;refine⟨a,cap,hv,h1,h2,fun k r hk=> ?_⟩;obtain⟨b,o,c,ha,_,hc,_,hj⟩:=h3 k r hk;rw[om]at hc;subst hc;have j0:=hj 0 (by omega);have j1:=hj 1 (by omega);have j2:=hj 2 (by omega);have j3:=hj 3 (by omega);exact⟨b,o,ha,j0,j1,j2,j3⟩
theorem kS {S:Nat->Prop} {w:World} {a:Option Addr} {cap n:Nat} {xs:List ByteArray} (h:bK S w (.slice a xs.length cap) xs) (hn:n<=xs.length):bK S w (.slice a n cap) (xs.take n):=by
 obtain⟨_,a',cap',hv,h1,h2,h0⟩:=h
 cases hv
 have hl:(xs.take n).length=n:=by simp; omega
 refine⟨by simp,a,cap,by rw[hl],by omega,h2, ?_⟩
 rcases h0 with h0 | ⟨b,o,ha,hb,hc⟩
 ·left; omega
 ·right
  refine⟨b,o,ha,hb,fun j u hj=>hc j u ?_⟩;rw[List.map_take]at hj;rw[List.getElem?_take]at hj
  split at hj
  ·exact hj
  ·simp at hj
theorem kR {S:Nat->Prop} {w:World} {b o cap n:Nat} {xs:List ByteArray} (h:bK S w (.slice (some ⟨b,o,none⟩) xs.length cap) xs) (hn:n<xs.length) (m:Nat) (hm:n+m<=xs.length):
  bK S w (.slice (some ⟨b,o+n,none⟩) m (cap-n)) ((xs.take (n+m)).drop n):=by
 obtain⟨_,a',cap',hv,h1,h2,h0⟩:=h
 cases hv
 have hl:((xs.take (n+m)).drop n).length=m:=by simp; omega
 refine⟨by simp,_,_,by rw[hl],by omega,by omega, ?_⟩
 rcases h0 with h0 | ⟨b',o',ha,hb,hc⟩
 ·omega
 ·cases ha
  right
  refine⟨b,o+n,rfl,hb,fun j u hj=> ?_⟩;have:=hc (n+j) u (by
   rw[List.map_drop,List.map_take,List.getElem?_drop,List.getElem?_take]at hj
   split at hj
   ·exact hj
   ·simp at hj)
  rw[Nat.add_assoc]; exact this
theorem jL {S:Nat->Prop} {w:World} {a:Option Addr} {cap:Nat} {xs:List ByteArray} (h:bK S w (.slice a xs.length cap) xs) (hn:0<xs.length): ∃b o,a=some ⟨b,o,none⟩:=by
 obtain⟨_,a',cap',hv,h1,h2,h0⟩:=h
 cases hv
 rcases h0 with h0 | ⟨b',o',ha,hb,hc⟩
 ·omega
 ·exact⟨b',o',ha⟩
def pE (S:Nat->Prop) (w:World) (c:List Value) (cs:List aJ):Prop:= ∃v,c=[v]/\cR S w v cs
theorem pE.len {S:Nat->Prop} {w:World} (c:List Value) (cs:List aJ) (h:pE S w c cs):c.length=1:=by obtain⟨v,rfl,_⟩:=h; rfl
theorem pE.move {S T:Nat->Prop} {w w':World} {c:List Value} {cs:List aJ} (h:pE S w c cs) (hs: ∀k,k<w.heap.size->S k->T k/\w'.heap[k]? =w.heap[k]?):pE T w' c cs:=by
 obtain⟨v,rfl,hr⟩:=h;exact⟨v,rfl,hr.move hs⟩
structure dS (w : World) (cb n k : Nat) (us : List (List aJ)) (wr : World) : Prop where
 box: ∃done,bb (pE (cb< ·) wr) done us/\wr.heap[cb]? =some (.cells (done++jw [.slice none 0 0] (n-k)).toArray 147 (0,0))
 below:Below cb w wr
 lt:cb<wr.heap.size
 len:us.length=k
theorem dS.grown {w:World} {cb n k:Nat} {us:List (List aJ)} {wr w':World} (h:dS w cb n k us wr) (hb:Below wr.heap.size wr w'):dS w cb n k us w':=by
 obtain⟨⟨done,hr,hbx⟩,hbl,hlt,hl⟩:=h;exact⟨⟨done,hr.mono fun c x _ hc=>hc.move fun k hk h2=>⟨h2,hb.block k hk⟩,by rw[hb.block cb hlt]; exact hbx⟩,hbl.trans (hb.mono (by omega)),Nat.lt_of_lt_of_le hlt hb.size,hl⟩
theorem dS.cell {w:World} {cb n k:Nat} {us:List (List aJ)} {wr:World} (h:dS w cb n k us wr) (hk:k<n):wr.cell? ⟨cb,k,none⟩=some (.slice none 0 0)/\wr.frozen? ⟨cb,k,none⟩=false:=by
 obtain⟨⟨done,hr,hbx⟩,hbl,hlt,hl⟩:=h;have hdl:=hr.len pE.len;obtain⟨m,hm⟩: ∃m,n-k=m+1:=⟨n-k-1,by omega⟩;rw[hm,dU]at hbx;refine⟨?_,ai hbx⟩;rw[ab hbx,List.getElem?_toArray,List.getElem?_append_right (by omega),show k-done.length=0 by omega]; rfl
theorem dS.put {w:World} {cb n k:Nat} {us:List (List aJ)} {cs:List aJ} {wr:World} {v:Value} (h:dS w cb n k us wr) (hk:k<n) (hv:cR (cb< ·) wr v cs):dS w cb n (k+1) (us++[cs]) (wr.setCell ⟨cb,k,none⟩ v):=by
 obtain⟨⟨done,hr,hbx⟩,hbl,hlt,hl⟩:=h;have hdl:=hr.len pE.len;obtain⟨m,hm⟩: ∃m,n-k=m+1:=⟨n-k-1,by omega⟩;rw[hm,dU]at hbx;refine⟨⟨done++[v], ?_, ?_⟩,hbl.setCell (by simp) _,by simp[World.setCell]; exact hlt,by simp[hl]⟩
 ·refine bb.snoc (hr.mono fun c x _ hc=>hc.move fun j hj h2=>⟨h2,Below.heap_setCell _ _ _ _ (by simp; omega)⟩) ?_;exact⟨_,rfl,hv.move fun j hj h2=>⟨h2,Below.heap_setCell _ _ _ _ (by simp; omega)⟩⟩
 ·simp only[World.setCell,Array.getElem?_modify,if_true,hbx,Option.map_some];rw[show n-(k+1)=m by omega];simp only[List.setIfInBounds_toArray,Option.some.injEq,Obj.cells.injEq,and_true];rw[show k=done.length by omega];simp
theorem dS.get {w:World} {cb n k:Nat} {us:List (List aJ)} {wr:World} (h:dS w cb n k us wr) {i:Nat} {cs:List aJ} (hi:us[i]? =some cs): ∃v,wr.cell? ⟨cb,i,none⟩=some v/\cR (cb< ·) wr v cs:=by
 obtain⟨⟨done,hr,hbx⟩,hbl,hlt,hl⟩:=h;obtain⟨c,⟨v,rfl,hv⟩,hj⟩:=hr.get pE.len hi;have h0:=hj 0 (by omega);simp only[Nat.mul_one,Nat.add_zero,List.getElem?_cons_zero]at h0;refine⟨v, ?_,hv⟩;rw[ab hbx,List.getElem?_toArray,List.getElem?_append_left (List.getElem?_eq_some_iff.1 h0).1];exact h0
theorem gQ : ∀(rs:List aN) (r:aN),aO (rs++[r])=match aO rs with | none=>none | some us=>match aQ r with | none=>none | some cs=>some (us++[(r,cs)])
 | [],r=>by simp only[List.nil_append,aO]; cases aQ r<;> simp
 | q::rs,r=>by
  simp only[List.cons_append,aO];rw[gQ rs r]
  cases aQ q<;> simp
  cases aO rs<;> simp
  cases aQ r<;> simp
theorem lF (rs qs:List aN) (h:aO rs=none):aO (rs++qs)=none:=by
 induction rs with
 | nil=>simp[aO]at h
 | cons r rs ih=>
  simp only[List.cons_append,aO]at h ⊢
  cases hp:aQ r with
  | none=>rfl
  | some c=>
   rw[hp]at h;simp only at h
   cases hps:aO rs with
   | none=>simp[ih hps]
   | some cs=>rw[hps]at h; simp at h
theorem ee : ∀ {rs:List aN} {us:List (aN×List aJ)},aO rs=some us-> ∀u∈us,aQ u.1=some u.2
 | [],us,h=>by simp[aO]at h; subst h; simp
 | r::rs,us,h=>by
  unfold aO at h
  split at h
  ·simp at h
  ·rename_i cs e
   split at h
   ·simp at h
   ·rename_i u2 e2;simp at h; subst h;intro u hu
    rcases List.mem_cons.1 hu with rfl | hu
    ·exact e
    ·exact ee e2 u hu
theorem ed : ∀ {rs:List aN} {us:List (aN×List aJ)},aO rs=some us->us.map Prod.fst=rs
 | [],us,h=>by simp[aO]at h; subst h; rfl
 | r::rs,us,h=>by
  unfold aO at h
  split at h
  ·simp at h
  ·split at h
   ·simp at h
   ·rename_i u2 e2;simp at h; subst h;simp[ed e2]
theorem gC {r:aN} {cs:List aJ} (h:aQ r=some cs):gv r.pat=some cs:=by
 unfold aQ at h
 split at h
 ·simp at h
 ·split at h
  ·simp at h
  ·exact h
def Bw (o:Bool×Int):Value:= .tuple #[.bool o.1, .int .i64 o.2]
theorem mM {dir:Bool} {parts:List (List UInt8)} {n k:Nat} {us:List (aN×List aJ)} {u:aN×List aJ} (b:Bool) (h:us[k]? =some u):
  eu dir parts n (us.drop k) b=eu dir parts n (us.drop (k+1)) (if ek dir u.1 u.2 parts n then !u.1.keep else b):=by
 obtain⟨hk,rfl⟩:=List.getElem?_eq_some_iff.1 h;rw[List.drop_eq_getElem_cons hk,eu]
def xh (dir:Bool) (parts:List (List UInt8)) (us:List (aN×List aJ)) (m:Nat) (ig:Bool):Prop:=
 (ig=false->bT dir parts us parts.length 1=bT dir parts us (parts.length-m) (m+1))/\(ig=true->bT dir parts us parts.length 1=true)
theorem At {dir:Bool} {xs:List ByteArray} {us:List (aN×List aJ)} {m:Nat} (h:xh dir (xs.map bl) us m true):bT dir (xs.map bl) us xs.length 1=true:=by
 have:=h.2 rfl;rw[List.length_map]at this; exact this
theorem iH (dir:Bool) (r:aN) (cs:List aJ) (parts:List (List UInt8)) (n:Nat) (d:Bool) (hd:(dir || decide (n<parts.length))=d):ek dir r cs parts n=((d || !r.dir) && gg cs (if r.rooted then parts.take n else(parts.take n).drop (n-1))):=by
 unfold ek; rw[hd]
def gO (dir:Bool) (parts:List (List UInt8)) (us:List (aN×List aJ)) (m k:Nat) (b:Bool):Prop:=
 eu dir parts (m+1) us false=eu dir parts (m+1) (us.drop k) b
theorem gt {dir:Bool} {parts:List (List UInt8)} {us:List (aN×List aJ)} {m k:Nat} {b:Bool} {r:aN} {cs:List aJ} (h:gO dir parts us m k b) (hu:us[k]? =some (r,cs)) (hh:ek dir r cs parts (m+1)=false):gO dir parts us m (k+1) b:=by
 unfold gO at *;rw[h,mM b hu,hh]; rfl
theorem iW {dir:Bool} {parts:List (List UInt8)} {us:List (aN×List aJ)} {m k:Nat} {b:Bool} {r:aN} {cs:List aJ} (h:gO dir parts us m k b) (hu:us[k]? =some (r,cs)) (hh:ek dir r cs parts (m+1)=true):gO dir parts us m (k+1) (!r.keep):=by
 unfold gO at *;rw[h,mM b hu,hh]; rfl
theorem rh (rs:List aN) (S:Nat->Prop) (v:Value) (s:ByteArray) (dir:Bool) (w:World) (he:ie w) (hv:bB S w v rs) (hp: ∀r∈rs,r.pat.length<=9223372036854775807):
  Calls Tryz.prog 40 #[v, .string s, .bool dir] w fun e w'=>e= .returned (Bw (cN rs (bl s) dir))/\Below w.heap.size w w':=by
 have HE:=aa he;have HV:=aa hv;have HP:=aa hp;obtain⟨a,cap,rfl,hc,hcm,-⟩:=hv.cells;clear he hv hp;unfold maxLen at hcm
 go_enter Tryz.func40,Tryz.ntmps40
 go_wp2_with fail;refine(lA s w HE.out).mono ?_;rintro e w1 (⟨hval,tv,xs,rfl,hxs,htv,hb1⟩ | ⟨hval,rfl,hb1⟩)
 ·obtain⟨hx1,hx2⟩:=tB hval hxs;obtain⟨ta,tc,rfl,htc1,htc2,-⟩:=htv.shape;have HB1:=aa hb1;have HTV:=aa htv;have HXS:=aa hxs;have HVAL:=aa hval;have HX2:=aa hx2;clear hb1 htv hxs hval hx2;unfold maxLen at htc2
  by_cases h256:rs.length<=256
  ·have hmk:=kr (P:=Tryz.prog) (t:=146) (e:=147) (z:= .slice none 0 0) rs.length [.slice none 0 0] Tryz.underlying146 (bytes:=24) (sz:=1) (by kernel_rfl) rfl rfl (by omega) (by omega) (by omega);go_wp2_with fail;clear hmk
   go_loopw [37] (fun i wr=> ∃(k:Nat) (us:List (aN×List aJ)),k<=rs.length/\i= .int .i64 k/\dS w1 w1.heap.size rs.length k (us.map Prod.snd) wr/\aO (rs.take k)=some us) (fun i _=>rs.length-(intOf i).toNat)
   case atStart=>
    refine⟨0,[],Nat.zero_le _,rfl,⟨⟨[],rfl, ?_⟩,(Below.refl _ _).alloc (Nat.le_refl _) _,by simp,rfl⟩,by simp[aO]⟩;have:=heap_alloc_new w1 (.cells (made [.slice none 0 0] rs.length) 147)
    simpa [made]using this
   case round=>
    obtain⟨k,us,hk,rfl,hI,hcomp⟩:=hrel;have HI:=aa hI;have HC:=aa hcomp;clear hI hcomp;have hBW:Below w1.heap.size w1 wr:=HI.out.below;have HBW:=aa hBW;clear hBW
    by_cases hlt:k<rs.length
    ·obtain⟨r,hr⟩: ∃r,rs[k]? =some r:=⟨rs[k],by simp[hlt]⟩;obtain⟨_,_,hv',_,_,hcells⟩:=(bB.below HV.out (ac HB1.out HBW.out)).cells
     cases hv'
     obtain⟨b,o,rfl,c0,c1,c2,c3⟩:=hcells k r hr;have hrp:=HP.out r (List.mem_of_getElem? hr);have HR:=aa hr;clear hr hcells;have hwb:Below wr.heap.size wr (wr.alloc (.cells #[.string ⟨r.pat.toArray⟩, .bool r.keep, .bool r.dir, .bool r.rooted] 141)):=(Below.refl _ _).alloc (Nat.le_refl _) _;have HWB:=aa hwb;clear hwb;have hsn:aO (rs.take (k+1))=match aQ r with | none=>none | some cs=>some (us++[(r,cs)]):=by
      have e1:rs.take (k+1)=rs.take k++[r]:=by rw[List.take_add_one]; simp[HR.out]
      rw[e1,gQ,HC.out]; try rfl
     have HSN:=aa hsn;clear hsn;go_wp2_with fail;have hE2:ie (wr.alloc (.cells #[.string ⟨r.pat.toArray⟩, .bool r.keep, .bool r.dir, .bool r.rooted] 141)):=HE.out.below (ac (ac HB1.out HBW.out) HWB.out)
     cases hcs:aQ r with
     | none=>
      have HCS:=aa hcs;clear hcs;refine(jV r _ hE2 hrp).mono ?_;rw[HCS.out];rintro e w3 ⟨rfl,hb3⟩;have hb3':Below wr.heap.size wr w3:=ac HWB.out hb3;have HB3:=aa hb3';clear hb3 hb3' hE2;obtain⟨d0,d1⟩:=(HI.out.grown HB3.out).cell hlt;go_wp2_with fail
      go_ret2
      refine⟨?_,ac HB1.out ((HBW.out.trans (HB3.out.mono HBW.out.size)).setCell (by simp) _)⟩;have hnone:aO rs=none:=by
       rw[<-List.take_append_drop (k+1) rs];exact lF _ _ (by rw[HSN.out,HCS.out])
      rw[cN,if_neg (by rw[HVAL.out]; simp; omega),hnone]; rfl
     | some cs=>
      have HCS:=aa hcs;clear hcs;refine(jV r _ hE2 hrp).mono ?_;rw[HCS.out];rintro e w3 ⟨pv,rfl,hv3,hb3⟩;have hb3':Below wr.heap.size wr w3:=ac HWB.out hb3;have HB3:=aa hb3';have HI3:=aa (HI.out.grown hb3');have hcblt:=HI.out.lt;have HV3:=aa (cR.move (T:=(w1.heap.size< ·)) (w':=w3) hv3 (fun j hj h2=>⟨by simp at h2; omega,rfl⟩));obtain⟨av,cv,rfl,hnv,hmv,-⟩:=hv3.shape eK.len
      clear hb3 hb3' hE2 hv3;obtain⟨d0,d1⟩:=HI3.out.cell hlt;go_wp2_with fail
      go_roundw
      case rel=>
       refine⟨k+1,us++[(r,cs)],by omega,by go_num, ?_,by rw[HSN.out,HCS.out]⟩;have:=HI3.out.put hlt HV3.out
       simpa using this
      case measure=>simp[intOf]; omega
    ·obtain rfl:k=rs.length:=by omega
     have hcomp:aO rs=some us:=by rw[<-HC.out,List.take_length]
     have HCA:=aa hcomp;clear hcomp;have hul:us.length=rs.length:=by have:=HI.out.len; rw[List.length_map]at this; exact this
     have hparts:0<xs.length:=by
      have:=jJ 47 (bl s); rw[<-HXS.out,List.length_map]at this; omega
     have hfin:cN rs (bl s) dir=(bT dir (xs.map bl) us xs.length 1,0):=by
      rw[cN,if_neg (by rw[HVAL.out]; simp; omega),HCA.out,<-HXS.out,List.length_map]
     have HFIN:=aa hfin;clear hfin;have HUL:=aa hul;clear hul;go_wp2_with fail
     go_loopw [14,15] (fun g n wr2=> ∃(m:Nat) (ig:Bool),m<=xs.length/\g= .bool ig/\n= .int .i64 ((m:Int)+1)/\dS w1 w1.heap.size rs.length rs.length (us.map Prod.snd) wr2/\
       xh dir (xs.map bl) us m ig) (fun _ n _=>xs.length+1-(intOf n).toNat)
     case atStart=>exact⟨0,false,Nat.zero_le _,rfl,rfl,HI.out,fun _=>rfl,fun h=>by cases h⟩
     case round=>
      clear HI HBW;obtain⟨m,ig,hm,rfl,rfl,hI2,hf⟩:=hrel;have HI:=aa hI2;have HF:=aa hf;clear hI2 hf
      cases ig
      ·by_cases hlt:m<xs.length
       ·have e1:decide ((m:Int)+1<=(xs.length:Int))=true:=by simp; omega
        have hstep:bT dir (xs.map bl) us (xs.length-m) (m+1)=if eu dir (xs.map bl) (m+1) us false then true else bT dir (xs.map bl) us (xs.length-(m+1)) (m+1+1):=by
         rw[show xs.length-m=(xs.length-(m+1))+1 by omega,bT]
        have HSTEP:=aa hstep;clear hstep
        cases dir
        ·by_cases hml:m+1<xs.length
         ·have hml2:decide ((m:Int)+1<(xs.length:Int))=true:=by simp; omega
          have HD:=aa (show(false || decide (m+1<(xs.map bl).length))=true by simp[hml]);go_wp2_with fail
          go_loopw [14,72] (fun g i wr3=> ∃(k:Nat) (b:Bool),k<=rs.length/\g= .bool b/\i= .int .i64 k/\dS w1 w1.heap.size rs.length rs.length (us.map Prod.snd) wr3/\gO false (xs.map bl) us m k b) (fun _ i _=>rs.length-(intOf i).toNat)
          case atStart=>exact⟨0,false,Nat.zero_le _,rfl,rfl,HI.out,rfl⟩
          case round=>
           clear HI;obtain⟨k,b,hk,rfl,rfl,hI2,hin⟩:=hrel;have HI:=aa hI2;have HIN:=aa hin;clear hI2 hin
           by_cases hkl:k<rs.length
           ·obtain⟨r,hr⟩: ∃r,rs[k]? =some r:=⟨rs[k],by simp[hkl]⟩;obtain⟨cs,hu⟩: ∃cs,us[k]? =some (r,cs):=by
             have h1:=ed HCA.out;have hk2:k<us.length:=by rw[HUL.out]; exact hkl
             have h2:(us.map Prod.fst)[k]? =some r:=by rw[h1]; exact hr
             rw[List.getElem?_map,List.getElem?_eq_getElem hk2]at h2;refine⟨us[k].2, ?_⟩;rw[List.getElem?_eq_getElem hk2];simp only[Option.map_some,Option.some.injEq]at h2;rw[<-h2]
            obtain⟨hc1,hc2,-⟩:=iB (gC (ee HCA.out _ (List.mem_of_getElem? hu)));obtain⟨pv,hpc,hpv⟩:=HI.out.get (i:=k) (cs:=cs) (by rw[List.getElem?_map,hu]; rfl);obtain⟨pa,pcap,rfl,-,-,-⟩:=hpv.shape eK.len;have hbig:Below w.heap.size w wr:=ac HB1.out HI.out.below;obtain⟨_,_,hv',_,_,hcells⟩:=(bB.below HV.out hbig).cells
            cases hv'
            obtain⟨b0,o0,rfl,c0,c1,c2,c3⟩:=hcells k r hr;have hst:bK (fun _=>True) wr (.slice ta xs.length tc) xs:=aD.weak (aD.below HTV.out (by omega) HI.out.below) (fun _ _=>trivial);obtain⟨tb,tof,rfl⟩:=jL hst hparts;have HST:=aa hst;have HU:=aa hu;have HC2:=aa hc2;have HPV:=aa hpv;have HH:=aa (iH false r cs (xs.map bl) (m+1) true HD.out)
            obtain⟨rp,rk,rd,rr⟩:=r;simp only at c0 c1 c2 c3;clear hr hu hc2 hcells hbig hpv hst;have hwb:Below wr.heap.size wr (wr.alloc (.cells #[.string ⟨rp.toArray⟩, .bool rk, .bool rd, .bool rr] 141)):=(Below.refl _ _).alloc (Nat.le_refl _) _;have HWB:=aa hwb;have hpc2:=hwb.cell (ay hpc);rw[hpc]at hpc2;have HST2:=aa (show bK (fun _=>True) (wr.alloc (.cells #[.string ⟨rp.toArray⟩, .bool rk, .bool rd, .bool rr] 141)) _ xs from aD.below HST.out (by omega) hwb)
            clear hwb;have k4: ∀w4:World,Below (wr.alloc (.cells #[.string ⟨rp.toArray⟩, .bool rk, .bool rd, .bool rr] 141)).heap.size (wr.alloc (.cells #[.string ⟨rp.toArray⟩, .bool rk, .bool rd, .bool rr] 141)) w4->w4.cell? ⟨wr.heap.size,1,none⟩=some (.bool rk):=fun w4 hb4=>(hb4.cell (p:=⟨wr.heap.size,1,none⟩) (by simp)).trans (by simp)
            have K4:=aa k4;clear k4
            cases rr
            ·cases hmb:gg cs (((xs.take (m+1)).drop m).map bl)
             all_goals (
              have HMB:=aa hmb;clear hmb
              cases rd
              all_goals (
               go_wp2_with (go_at_call 75; refine(cP cs ((xs.take (m+1)).drop m) (fun _=>True) _ _ _ (HPV.out.below HWB.out) (kR HST2.out hlt 1 (by omega)) (by omega) (by simp; omega) (fun c hc=>by have:=HC2.out c hc; omega) (fun x hx=>by have:=HX2.out x (List.mem_of_mem_take (List.mem_of_mem_drop hx)); omega)).mono ?_; rintro e w4 ⟨rfl,hb4⟩; rw[HMB.out]; have c4:=K4.out _ hb4; have HB4:=aa hb4; clear hb4)
               go_roundw
               case rel=>exact⟨k+1,_,by omega,rfl,by go_num,HI.out.grown (by first | exact ac HWB.out HB4.out | exact HWB.out),by first | exact gt HIN.out HU.out (HH.out.trans (by simp[<-List.map_take,<-List.map_drop,HMB.out])) | exact iW HIN.out HU.out (HH.out.trans (by simp[<-List.map_take,<-List.map_drop,HMB.out]))⟩
               case measure=>simp[intOf]; omega))
            ·cases hmb:gg cs ((xs.take (m+1)).map bl)
             all_goals (
              have HMB:=aa hmb;clear hmb
              cases rd
              all_goals (
               go_wp2_with (go_at_call 75; refine(cP cs (xs.take (m+1)) (fun _=>True) _ _ _ (HPV.out.below HWB.out) (kS HST2.out (by omega)) (by omega) (by simp; omega) (fun c hc=>by have:=HC2.out c hc; omega) (fun x hx=>by have:=HX2.out x (List.mem_of_mem_take hx); omega)).mono ?_; rintro e w4 ⟨rfl,hb4⟩; rw[HMB.out]; have c4:=K4.out _ hb4; have HB4:=aa hb4; clear hb4)
               go_roundw
               case rel=>exact⟨k+1,_,by omega,rfl,by go_num,HI.out.grown (by first | exact ac HWB.out HB4.out | exact HWB.out),by first | exact gt HIN.out HU.out (HH.out.trans (by simp[<-List.map_take,HMB.out])) | exact iW HIN.out HU.out (HH.out.trans (by simp[<-List.map_take,HMB.out]))⟩
               case measure=>simp[intOf]; omega))
           ·obtain rfl:k=rs.length:=by omega
            have hat:eu false (xs.map bl) (m+1) us false=b:=by
             have:=HIN.out;unfold gO at this;rw[this,<-HUL.out,List.drop_length]; rfl
            have HAT:=aa hat
            clear hat
            go_wp2_with fail
            go_roundw
            case rel=>
             refine⟨m+1,b,by omega,rfl,by go_num,HI.out,fun hb=> ?_,fun hb=> ?_⟩
             ·have:=HF.out.1 rfl;rw[this,List.length_map,HSTEP.out,HAT.out,hb]; rfl
             ·have:=HF.out.1 rfl;rw[this,List.length_map,HSTEP.out,HAT.out,hb]; rfl
            case measure=>simp[intOf]; omega
         ·have hml2:decide ((m:Int)+1<(xs.length:Int))=false:=by simp; omega
          have HD:=aa (show(false || decide (m+1<(xs.map bl).length))=false by simp[hml]);go_wp2_with fail
          go_loopw [14,72] (fun g i wr3=> ∃(k:Nat) (b:Bool),k<=rs.length/\g= .bool b/\i= .int .i64 k/\dS w1 w1.heap.size rs.length rs.length (us.map Prod.snd) wr3/\gO false (xs.map bl) us m k b) (fun _ i _=>rs.length-(intOf i).toNat)
          case atStart=>exact⟨0,false,Nat.zero_le _,rfl,rfl,HI.out,rfl⟩
          case round=>
           clear HI;obtain⟨k,b,hk,rfl,rfl,hI2,hin⟩:=hrel;have HI:=aa hI2;have HIN:=aa hin;clear hI2 hin
           by_cases hkl:k<rs.length
           ·obtain⟨r,hr⟩: ∃r,rs[k]? =some r:=⟨rs[k],by simp[hkl]⟩;obtain⟨cs,hu⟩: ∃cs,us[k]? =some (r,cs):=by
             have h1:=ed HCA.out;have hk2:k<us.length:=by rw[HUL.out]; exact hkl
             have h2:(us.map Prod.fst)[k]? =some r:=by rw[h1]; exact hr
             rw[List.getElem?_map,List.getElem?_eq_getElem hk2]at h2;refine⟨us[k].2, ?_⟩;rw[List.getElem?_eq_getElem hk2];simp only[Option.map_some,Option.some.injEq]at h2;rw[<-h2]
            obtain⟨hc1,hc2,-⟩:=iB (gC (ee HCA.out _ (List.mem_of_getElem? hu)));obtain⟨pv,hpc,hpv⟩:=HI.out.get (i:=k) (cs:=cs) (by rw[List.getElem?_map,hu]; rfl);obtain⟨pa,pcap,rfl,-,-,-⟩:=hpv.shape eK.len;have hbig:Below w.heap.size w wr:=ac HB1.out HI.out.below;obtain⟨_,_,hv',_,_,hcells⟩:=(bB.below HV.out hbig).cells
            cases hv'
            obtain⟨b0,o0,rfl,c0,c1,c2,c3⟩:=hcells k r hr;have hst:bK (fun _=>True) wr (.slice ta xs.length tc) xs:=aD.weak (aD.below HTV.out (by omega) HI.out.below) (fun _ _=>trivial);obtain⟨tb,tof,rfl⟩:=jL hst hparts;have HST:=aa hst;have HU:=aa hu;have HC2:=aa hc2;have HPV:=aa hpv;have HH:=aa (iH false r cs (xs.map bl) (m+1) false HD.out)
            obtain⟨rp,rk,rd,rr⟩:=r;simp only at c0 c1 c2 c3;clear hr hu hc2 hcells hbig hpv hst;have hwb:Below wr.heap.size wr (wr.alloc (.cells #[.string ⟨rp.toArray⟩, .bool rk, .bool rd, .bool rr] 141)):=(Below.refl _ _).alloc (Nat.le_refl _) _;have HWB:=aa hwb;have hpc2:=hwb.cell (ay hpc);rw[hpc]at hpc2;have HST2:=aa (show bK (fun _=>True) (wr.alloc (.cells #[.string ⟨rp.toArray⟩, .bool rk, .bool rd, .bool rr] 141)) _ xs from aD.below HST.out (by omega) hwb)
            clear hwb;have k4: ∀w4:World,Below (wr.alloc (.cells #[.string ⟨rp.toArray⟩, .bool rk, .bool rd, .bool rr] 141)).heap.size (wr.alloc (.cells #[.string ⟨rp.toArray⟩, .bool rk, .bool rd, .bool rr] 141)) w4->w4.cell? ⟨wr.heap.size,1,none⟩=some (.bool rk):=fun w4 hb4=>(hb4.cell (p:=⟨wr.heap.size,1,none⟩) (by simp)).trans (by simp)
            have K4:=aa k4;clear k4
            cases rr
            ·cases hmb:gg cs (((xs.take (m+1)).drop m).map bl)
             all_goals (
              have HMB:=aa hmb;clear hmb
              cases rd
              all_goals (
               go_wp2_with (go_at_call 75; refine(cP cs ((xs.take (m+1)).drop m) (fun _=>True) _ _ _ (HPV.out.below HWB.out) (kR HST2.out hlt 1 (by omega)) (by omega) (by simp; omega) (fun c hc=>by have:=HC2.out c hc; omega) (fun x hx=>by have:=HX2.out x (List.mem_of_mem_take (List.mem_of_mem_drop hx)); omega)).mono ?_; rintro e w4 ⟨rfl,hb4⟩; rw[HMB.out]; have c4:=K4.out _ hb4; have HB4:=aa hb4; clear hb4)
               go_roundw
               case rel=>exact⟨k+1,_,by omega,rfl,by go_num,HI.out.grown (by first | exact ac HWB.out HB4.out | exact HWB.out),by first | exact gt HIN.out HU.out (HH.out.trans (by simp[<-List.map_take,<-List.map_drop,HMB.out])) | exact iW HIN.out HU.out (HH.out.trans (by simp[<-List.map_take,<-List.map_drop,HMB.out]))⟩
               case measure=>simp[intOf]; omega))
            ·cases hmb:gg cs ((xs.take (m+1)).map bl)
             all_goals (
              have HMB:=aa hmb;clear hmb
              cases rd
              all_goals (
               go_wp2_with (go_at_call 75; refine(cP cs (xs.take (m+1)) (fun _=>True) _ _ _ (HPV.out.below HWB.out) (kS HST2.out (by omega)) (by omega) (by simp; omega) (fun c hc=>by have:=HC2.out c hc; omega) (fun x hx=>by have:=HX2.out x (List.mem_of_mem_take hx); omega)).mono ?_; rintro e w4 ⟨rfl,hb4⟩; rw[HMB.out]; have c4:=K4.out _ hb4; have HB4:=aa hb4; clear hb4)
               go_roundw
               case rel=>exact⟨k+1,_,by omega,rfl,by go_num,HI.out.grown (by first | exact ac HWB.out HB4.out | exact HWB.out),by first | exact gt HIN.out HU.out (HH.out.trans (by simp[<-List.map_take,HMB.out])) | exact iW HIN.out HU.out (HH.out.trans (by simp[<-List.map_take,HMB.out]))⟩
               case measure=>simp[intOf]; omega))
           ·obtain rfl:k=rs.length:=by omega
            have hat:eu false (xs.map bl) (m+1) us false=b:=by
             have:=HIN.out;unfold gO at this;rw[this,<-HUL.out,List.drop_length]; rfl
            have HAT:=aa hat
            clear hat
            go_wp2_with fail
            go_roundw
            case rel=>
             refine⟨m+1,b,by omega,rfl,by go_num,HI.out,fun hb=> ?_,fun hb=> ?_⟩
             ·have:=HF.out.1 rfl;rw[this,List.length_map,HSTEP.out,HAT.out,hb]; rfl
             ·have:=HF.out.1 rfl;rw[this,List.length_map,HSTEP.out,HAT.out,hb]; rfl
            case measure=>simp[intOf]; omega
        ·have HD:=aa (show(true || decide (m+1<(xs.map bl).length))=true by simp);go_wp2_with fail
         go_loopw [14,72] (fun g i wr3=> ∃(k:Nat) (b:Bool),k<=rs.length/\g= .bool b/\i= .int .i64 k/\dS w1 w1.heap.size rs.length rs.length (us.map Prod.snd) wr3/\gO true (xs.map bl) us m k b) (fun _ i _=>rs.length-(intOf i).toNat)
         case atStart=>exact⟨0,false,Nat.zero_le _,rfl,rfl,HI.out,rfl⟩
         case round=>
          clear HI;obtain⟨k,b,hk,rfl,rfl,hI2,hin⟩:=hrel;have HI:=aa hI2;have HIN:=aa hin;clear hI2 hin
          by_cases hkl:k<rs.length
          ·obtain⟨r,hr⟩: ∃r,rs[k]? =some r:=⟨rs[k],by simp[hkl]⟩;obtain⟨cs,hu⟩: ∃cs,us[k]? =some (r,cs):=by
            have h1:=ed HCA.out;have hk2:k<us.length:=by rw[HUL.out]; exact hkl
            have h2:(us.map Prod.fst)[k]? =some r:=by rw[h1]; exact hr
            rw[List.getElem?_map,List.getElem?_eq_getElem hk2]at h2;refine⟨us[k].2, ?_⟩;rw[List.getElem?_eq_getElem hk2];simp only[Option.map_some,Option.some.injEq]at h2;rw[<-h2]
           obtain⟨hc1,hc2,-⟩:=iB (gC (ee HCA.out _ (List.mem_of_getElem? hu)));obtain⟨pv,hpc,hpv⟩:=HI.out.get (i:=k) (cs:=cs) (by rw[List.getElem?_map,hu]; rfl);obtain⟨pa,pcap,rfl,-,-,-⟩:=hpv.shape eK.len;have hbig:Below w.heap.size w wr:=ac HB1.out HI.out.below;obtain⟨_,_,hv',_,_,hcells⟩:=(bB.below HV.out hbig).cells
           cases hv'
           obtain⟨b0,o0,rfl,c0,c1,c2,c3⟩:=hcells k r hr;have hst:bK (fun _=>True) wr (.slice ta xs.length tc) xs:=aD.weak (aD.below HTV.out (by omega) HI.out.below) (fun _ _=>trivial);obtain⟨tb,tof,rfl⟩:=jL hst hparts;have HST:=aa hst;have HU:=aa hu;have HC2:=aa hc2;have HPV:=aa hpv;have HH:=aa (iH true r cs (xs.map bl) (m+1) true HD.out)
           obtain⟨rp,rk,rd,rr⟩:=r;simp only at c0 c1 c2 c3;clear hr hu hc2 hcells hbig hpv hst;have hwb:Below wr.heap.size wr (wr.alloc (.cells #[.string ⟨rp.toArray⟩, .bool rk, .bool rd, .bool rr] 141)):=(Below.refl _ _).alloc (Nat.le_refl _) _;have HWB:=aa hwb;have hpc2:=hwb.cell (ay hpc);rw[hpc]at hpc2;have HST2:=aa (show bK (fun _=>True) (wr.alloc (.cells #[.string ⟨rp.toArray⟩, .bool rk, .bool rd, .bool rr] 141)) _ xs from aD.below HST.out (by omega) hwb)
           clear hwb;have k4: ∀w4:World,Below (wr.alloc (.cells #[.string ⟨rp.toArray⟩, .bool rk, .bool rd, .bool rr] 141)).heap.size (wr.alloc (.cells #[.string ⟨rp.toArray⟩, .bool rk, .bool rd, .bool rr] 141)) w4->w4.cell? ⟨wr.heap.size,1,none⟩=some (.bool rk):=fun w4 hb4=>(hb4.cell (p:=⟨wr.heap.size,1,none⟩) (by simp)).trans (by simp)
           have K4:=aa k4;clear k4
           cases rr
           ·cases hmb:gg cs (((xs.take (m+1)).drop m).map bl)
            all_goals (
             have HMB:=aa hmb;clear hmb
             cases rd
             all_goals (
              go_wp2_with (go_at_call 75; refine(cP cs ((xs.take (m+1)).drop m) (fun _=>True) _ _ _ (HPV.out.below HWB.out) (kR HST2.out hlt 1 (by omega)) (by omega) (by simp; omega) (fun c hc=>by have:=HC2.out c hc; omega) (fun x hx=>by have:=HX2.out x (List.mem_of_mem_take (List.mem_of_mem_drop hx)); omega)).mono ?_; rintro e w4 ⟨rfl,hb4⟩; rw[HMB.out]; have c4:=K4.out _ hb4; have HB4:=aa hb4; clear hb4)
              go_roundw
              case rel=>exact⟨k+1,_,by omega,rfl,by go_num,HI.out.grown (by first | exact ac HWB.out HB4.out | exact HWB.out),by first | exact gt HIN.out HU.out (HH.out.trans (by simp[<-List.map_take,<-List.map_drop,HMB.out])) | exact iW HIN.out HU.out (HH.out.trans (by simp[<-List.map_take,<-List.map_drop,HMB.out]))⟩
              case measure=>simp[intOf]; omega))
           ·cases hmb:gg cs ((xs.take (m+1)).map bl)
            all_goals (
             have HMB:=aa hmb;clear hmb
             cases rd
             all_goals (
              go_wp2_with (go_at_call 75; refine(cP cs (xs.take (m+1)) (fun _=>True) _ _ _ (HPV.out.below HWB.out) (kS HST2.out (by omega)) (by omega) (by simp; omega) (fun c hc=>by have:=HC2.out c hc; omega) (fun x hx=>by have:=HX2.out x (List.mem_of_mem_take hx); omega)).mono ?_; rintro e w4 ⟨rfl,hb4⟩; rw[HMB.out]; have c4:=K4.out _ hb4; have HB4:=aa hb4; clear hb4)
              go_roundw
              case rel=>exact⟨k+1,_,by omega,rfl,by go_num,HI.out.grown (by first | exact ac HWB.out HB4.out | exact HWB.out),by first | exact gt HIN.out HU.out (HH.out.trans (by simp[<-List.map_take,HMB.out])) | exact iW HIN.out HU.out (HH.out.trans (by simp[<-List.map_take,HMB.out]))⟩
              case measure=>simp[intOf]; omega))
          ·obtain rfl:k=rs.length:=by omega
           have hat:eu true (xs.map bl) (m+1) us false=b:=by
            have:=HIN.out;unfold gO at this;rw[this,<-HUL.out,List.drop_length]; rfl
           have HAT:=aa hat
           clear hat
           go_wp2_with fail
           go_roundw
           case rel=>
            refine⟨m+1,b,by omega,rfl,by go_num,HI.out,fun hb=> ?_,fun hb=> ?_⟩
            ·have:=HF.out.1 rfl;rw[this,List.length_map,HSTEP.out,HAT.out,hb]; rfl
            ·have:=HF.out.1 rfl;rw[this,List.length_map,HSTEP.out,HAT.out,hb]; rfl
           case measure=>simp[intOf]; omega
       ·have e1:decide ((m:Int)+1<=(xs.length:Int))=false:=by simp; omega
        go_wp2_with fail
        go_ret2
        refine⟨?_,ac HB1.out HI.out.below⟩;have:=HF.out.1 rfl;rw[List.length_map,show xs.length-m=0 by omega]at this;rw[HFIN.out,this]; rfl
      ·by_cases hlt:m<xs.length
       ·have e1:decide ((m:Int)+1<=(xs.length:Int))=true:=by simp; omega
        go_wp2_with fail
        go_ret2
        exact⟨by rw[HFIN.out,At HF.out]; rfl,ac HB1.out HI.out.below⟩
       ·have e1:decide ((m:Int)+1<=(xs.length:Int))=false:=by simp; omega
        go_wp2_with fail
        go_ret2
        exact⟨by rw[HFIN.out,At HF.out]; rfl,ac HB1.out HI.out.below⟩
  ·have h256':256<rs.length:=by omega
   go_wp2_with fail
   go_ret2
   exact⟨by rw[cN,if_pos (.inr h256')]; rfl,HB1.out⟩
 ·have HB1:=aa hb1;have HVAL:=aa hval;clear hb1 hval;go_wp2_with fail
  go_ret2
  exact⟨by rw[cN,if_pos (.inl HVAL.out)]; rfl,HB1.out⟩
def sC :Value:= .agg #[.string ⟨#[]⟩, .bool false, .bool false, .bool false]
def eC (o:Option aN):Value:=match o with
 | some r=> .tuple #[pf r, .bool true]
 | none=> .tuple #[sC, .bool false]
def Bs (s p:ByteArray) (w:World) (e:Ending) (w':World):Prop:= ∃s1 b,e= .returned (.tuple #[.string s1, .bool b])/\bl s1=Lib.trimPrefix (bl s) (bl p)/\b=Lib.hasPrefix (bl s) (bl p)/\w=w'
def Bt (s p:ByteArray) (w:World) (e:Ending) (w':World):Prop:= ∃s1 b,e= .returned (.tuple #[.string s1, .bool b])/\bl s1=Lib.trimSuffix (bl s) (bl p)/\b=Lib.hasSuffix (bl s) (bl p)/\w=w'
theorem jZ (s p:ByteArray) (w:World):Calls Tryz.prog 109 #[.string s, .string p] w (Bs s p w):=
 (nQ s p w).mono fun _ _ ⟨he,hw⟩=>⟨_,_,he,jR _,rfl,hw⟩
theorem pM (s p:ByteArray) (w:World) (hs:s.size<=9223372036854775807):Calls Tryz.prog 110 #[.string s, .string p] w (Bt s p w):=
 (nR s p w hs).mono fun _ _ ⟨he,hw⟩=>⟨_,_,he,jR _,rfl,hw⟩
theorem iN (l p:List UInt8):(Lib.trimPrefix l p).length<=l.length:=by
 unfold Lib.trimPrefix; split<;> simp
theorem nF (l p:List UInt8):(Lib.trimSuffix l p).length<=l.length:=by
 unfold Lib.trimSuffix; split<;> simp<;> omega
theorem jt (s:ByteArray) (w:World) (he:ie w) (hs:s.size<=65536):
  Calls Tryz.prog 72 #[.string s] w fun e w'=>e= .returned (eC (bO (bl s)))/\Below w.heap.size w w':=by
 have HE:=aa he;clear he
 go_enter Tryz.func72,Tryz.ntmps72
 go_wp2_with fail;refine(jZ s ⟨#[33]⟩ _).mono ?_;rintro e w' ⟨s1,b1,rfl,h1,h1',rfl⟩;have H1:=aa h1;have H1':=aa h1';have hl1:s1.size<=65536:=by have:=iN (bl s) (bl ⟨#[33]⟩); rw[<-h1,<-am,<-am]at this; omega
 clear h1 h1';go_wp2_with fail;refine(jZ s1 ⟨#[47]⟩ _).mono ?_;rintro e w' ⟨s2,b2,rfl,h2,h2',rfl⟩;have H2:=aa h2;have H2':=aa h2';have hl2:s2.size<=65536:=by have:=iN (bl s1) (bl ⟨#[47]⟩); rw[<-h2,<-am,<-am]at this; omega
 clear h2 h2';go_wp2_with fail;refine(pM s2 ⟨#[47]⟩ _ (by omega)).mono ?_;rintro e w' ⟨s3,b3,rfl,h3,h3',rfl⟩;have H3:=aa h3;have H3':=aa h3';have hl3:s3.size<=65536:=by have:=nF (bl s2) (bl ⟨#[47]⟩); rw[<-h3,<-am,<-am]at this; omega
 clear h3 h3';have hru:pd (bl s)=⟨bl s3,b1,b3,b2 || (bl s3).contains 47⟩:=by
  rw[H3.out,H1'.out,H3'.out,H2'.out,H2.out,H1.out]; rfl
 cases b2
 ·rw[Bool.false_or]at hru
  cases hct:(bl s3).contains 47
  ·have HCT:=aa hct;rw[hct]at hru;have HRU:=aa hru;clear hct hru;go_wp2_with fail;refine(eM s3 47 false _ HCT.out).mono ?_;rintro e w' ⟨rfl,rfl⟩;go_wp2_with fail;have hcp:aQ (pd (bl s))=aQ ⟨bl s3,b1,b3,false⟩:=by rw[HRU.out]
   have HCP:=aa hcp;clear hcp;have hb0:Below w.heap.size w ((w.alloc (.cells #[.string ⟨#[]⟩, .bool false, .bool false, .bool false] 141)).alloc (.cells #[.string s3, .bool b1, .bool b3, .bool false] 141)):=((Below.refl _ _).alloc (Nat.le_refl _) _).alloc (by simp) _;have HB0:=aa hb0;clear hb0
   cases hcs:aQ ⟨bl s3,b1,b3,false⟩with
   | none=>
    have HCS:=aa hcs;clear hcs;refine(dp s3 b1 b3 false _ (HE.out.below HB0.out) (by omega)).mono ?_;rw[HCS.out];rintro e w3 ⟨rfl,hb3⟩;have hres:w3.heap[w.heap.size]? =some (.cells #[.string ⟨#[]⟩, .bool false, .bool false, .bool false] 141 (0,0)):=by
     rw[hb3.block _ (by simp; omega),Below.heap_alloc _ _ _ (by simp)]; exact heap_alloc_new w _
    have hb3':=ac HB0.out hb3;have HB3:=aa hb3';clear hb3 hb3';have r0:w3.cell? ⟨w.heap.size,0,none⟩=some (.string ⟨#[]⟩):=by rw[ab hres]; rfl
    have r1:w3.cell? ⟨w.heap.size,1,none⟩=some (.bool false):=by rw[ab hres]; rfl
    have r2:w3.cell? ⟨w.heap.size,2,none⟩=some (.bool false):=by rw[ab hres]; rfl
    have r3:w3.cell? ⟨w.heap.size,3,none⟩=some (.bool false):=by rw[ab hres]; rfl
    have f0:w3.frozen? ⟨w.heap.size,0,none⟩=false:=ai hres;have f1:w3.frozen? ⟨w.heap.size,1,none⟩=false:=ai hres;have f2:w3.frozen? ⟨w.heap.size,2,none⟩=false:=ai hres;have f3:w3.frozen? ⟨w.heap.size,3,none⟩=false:=ai hres;have HR:=aa hres;clear hres;go_wp2_with fail;obtain⟨W,hW⟩: ∃W,W=((((w3.setCell ⟨w.heap.size,0,none⟩ (.string ⟨#[]⟩)).setCell ⟨w.heap.size,1,none⟩ (.bool false)).setCell ⟨w.heap.size,2,none⟩ (.bool false)).setCell ⟨w.heap.size,3,none⟩ (.bool false)):=⟨_,rfl⟩
    rw[<-hW];have h4:=iJ HR.out (.string ⟨#[]⟩) (.bool false) (.bool false) (.bool false);rw[<-hW]at h4;obtain⟨h41,h42⟩:=h4;have m0:W.cell? ⟨w.heap.size,0,none⟩=some (.string ⟨#[]⟩):=by rw[ab h41]; rfl
    have m1:W.cell? ⟨w.heap.size,1,none⟩=some (.bool false):=by rw[ab h41]; rfl
    have m2:W.cell? ⟨w.heap.size,2,none⟩=some (.bool false):=by rw[ab h41]; rfl
    have m3:W.cell? ⟨w.heap.size,3,none⟩=some (.bool false):=by rw[ab h41]; rfl
    clear hW;refine bodyPost_ret (v:= .tuple #[.agg #[.string ⟨#[]⟩, .bool false, .bool false, .bool false], .bool false]) (by simp[results,Tryz.results72,go_sem,m0,m1,m2,m3]) rfl ?_;refine⟨?_,HB3.out.grown h42 HB3.out.size (fun k hk=>by cases hk; exact Nat.le_refl _)⟩;rw[bO,HCP.out,HCS.out]; rfl
   | some cs=>
    have HCS:=aa hcs;clear hcs;refine(dp s3 b1 b3 false _ (HE.out.below HB0.out) (by omega)).mono ?_;rw[HCS.out];rintro e w3 ⟨pv,rfl,hpv,hb3⟩;clear hpv;have hres:w3.heap[w.heap.size]? =some (.cells #[.string ⟨#[]⟩, .bool false, .bool false, .bool false] 141 (0,0)):=by
     rw[hb3.block _ (by simp; omega),Below.heap_alloc _ _ _ (by simp)]; exact heap_alloc_new w _
    have hbox:w3.heap[w.heap.size+1]? =some (.cells #[.string s3, .bool b1, .bool b3, .bool false] 141 (0,0)):=by
     rw[hb3.block _ (by simp)];have:=heap_alloc_new (w.alloc (.cells #[.string ⟨#[]⟩, .bool false, .bool false, .bool false] 141)) (.cells #[.string s3, .bool b1, .bool b3, .bool false] 141)
     simpa using this
    have n0:w3.cell? ⟨w.heap.size+1,0,none⟩=some (.string s3):=by rw[ab hbox]; rfl
    have n1:w3.cell? ⟨w.heap.size+1,1,none⟩=some (.bool b1):=by rw[ab hbox]; rfl
    have n2:w3.cell? ⟨w.heap.size+1,2,none⟩=some (.bool b3):=by rw[ab hbox]; rfl
    have n3:w3.cell? ⟨w.heap.size+1,3,none⟩=some (.bool false):=by rw[ab hbox]; rfl
    clear hbox;have hb3':=ac HB0.out hb3;have HB3:=aa hb3';clear hb3 hb3';have r0:w3.cell? ⟨w.heap.size,0,none⟩=some (.string ⟨#[]⟩):=by rw[ab hres]; rfl
    have r1:w3.cell? ⟨w.heap.size,1,none⟩=some (.bool false):=by rw[ab hres]; rfl
    have r2:w3.cell? ⟨w.heap.size,2,none⟩=some (.bool false):=by rw[ab hres]; rfl
    have r3:w3.cell? ⟨w.heap.size,3,none⟩=some (.bool false):=by rw[ab hres]; rfl
    have f0:w3.frozen? ⟨w.heap.size,0,none⟩=false:=ai hres;have f1:w3.frozen? ⟨w.heap.size,1,none⟩=false:=ai hres;have f2:w3.frozen? ⟨w.heap.size,2,none⟩=false:=ai hres;have f3:w3.frozen? ⟨w.heap.size,3,none⟩=false:=ai hres;have HR:=aa hres;clear hres;go_wp2_with fail;obtain⟨W,hW⟩: ∃W,W=((((w3.setCell ⟨w.heap.size,0,none⟩ (.string s3)).setCell ⟨w.heap.size,1,none⟩ (.bool b1)).setCell ⟨w.heap.size,2,none⟩ (.bool b3)).setCell ⟨w.heap.size,3,none⟩ (.bool false)):=⟨_,rfl⟩
    rw[<-hW];have h4:=iJ HR.out (.string s3) (.bool b1) (.bool b3) (.bool false);rw[<-hW]at h4;obtain⟨h41,h42⟩:=h4;have m0:W.cell? ⟨w.heap.size,0,none⟩=some (.string s3):=by rw[ab h41]; rfl
    have m1:W.cell? ⟨w.heap.size,1,none⟩=some (.bool b1):=by rw[ab h41]; rfl
    have m2:W.cell? ⟨w.heap.size,2,none⟩=some (.bool b3):=by rw[ab h41]; rfl
    have m3:W.cell? ⟨w.heap.size,3,none⟩=some (.bool false):=by rw[ab h41]; rfl
    clear hW;refine bodyPost_ret (v:= .tuple #[.agg #[.string s3, .bool b1, .bool b3, .bool false], .bool true]) (by simp[results,Tryz.results72,go_sem,m0,m1,m2,m3]) rfl ?_;refine⟨?_,HB3.out.grown h42 HB3.out.size (fun k hk=>by cases hk; exact Nat.le_refl _)⟩;rw[bO,HCP.out,HCS.out];simp only[Option.isSome_some,if_true,HRU.out,eC,pf,lp]
  ·have HCT:=aa hct;rw[hct]at hru;have HRU:=aa hru;clear hct hru;go_wp2_with fail;refine(eM s3 47 true _ HCT.out).mono ?_;rintro e w' ⟨rfl,rfl⟩;go_wp2_with fail;have hcp:aQ (pd (bl s))=aQ ⟨bl s3,b1,b3,true⟩:=by rw[HRU.out]
   have HCP:=aa hcp;clear hcp;have hb0:Below w.heap.size w ((w.alloc (.cells #[.string ⟨#[]⟩, .bool false, .bool false, .bool false] 141)).alloc (.cells #[.string s3, .bool b1, .bool b3, .bool true] 141)):=((Below.refl _ _).alloc (Nat.le_refl _) _).alloc (by simp) _;have HB0:=aa hb0;clear hb0
   cases hcs:aQ ⟨bl s3,b1,b3,true⟩with
   | none=>
    have HCS:=aa hcs;clear hcs;refine(dp s3 b1 b3 true _ (HE.out.below HB0.out) (by omega)).mono ?_;rw[HCS.out];rintro e w3 ⟨rfl,hb3⟩;have hres:w3.heap[w.heap.size]? =some (.cells #[.string ⟨#[]⟩, .bool false, .bool false, .bool false] 141 (0,0)):=by
     rw[hb3.block _ (by simp; omega),Below.heap_alloc _ _ _ (by simp)]; exact heap_alloc_new w _
    have hb3':=ac HB0.out hb3;have HB3:=aa hb3';clear hb3 hb3';have r0:w3.cell? ⟨w.heap.size,0,none⟩=some (.string ⟨#[]⟩):=by rw[ab hres]; rfl
    have r1:w3.cell? ⟨w.heap.size,1,none⟩=some (.bool false):=by rw[ab hres]; rfl
    have r2:w3.cell? ⟨w.heap.size,2,none⟩=some (.bool false):=by rw[ab hres]; rfl
    have r3:w3.cell? ⟨w.heap.size,3,none⟩=some (.bool false):=by rw[ab hres]; rfl
    have f0:w3.frozen? ⟨w.heap.size,0,none⟩=false:=ai hres;have f1:w3.frozen? ⟨w.heap.size,1,none⟩=false:=ai hres;have f2:w3.frozen? ⟨w.heap.size,2,none⟩=false:=ai hres;have f3:w3.frozen? ⟨w.heap.size,3,none⟩=false:=ai hres;have HR:=aa hres;clear hres;go_wp2_with fail;obtain⟨W,hW⟩: ∃W,W=((((w3.setCell ⟨w.heap.size,0,none⟩ (.string ⟨#[]⟩)).setCell ⟨w.heap.size,1,none⟩ (.bool false)).setCell ⟨w.heap.size,2,none⟩ (.bool false)).setCell ⟨w.heap.size,3,none⟩ (.bool false)):=⟨_,rfl⟩
    rw[<-hW];have h4:=iJ HR.out (.string ⟨#[]⟩) (.bool false) (.bool false) (.bool false);rw[<-hW]at h4;obtain⟨h41,h42⟩:=h4;have m0:W.cell? ⟨w.heap.size,0,none⟩=some (.string ⟨#[]⟩):=by rw[ab h41]; rfl
    have m1:W.cell? ⟨w.heap.size,1,none⟩=some (.bool false):=by rw[ab h41]; rfl
    have m2:W.cell? ⟨w.heap.size,2,none⟩=some (.bool false):=by rw[ab h41]; rfl
    have m3:W.cell? ⟨w.heap.size,3,none⟩=some (.bool false):=by rw[ab h41]; rfl
    clear hW;refine bodyPost_ret (v:= .tuple #[.agg #[.string ⟨#[]⟩, .bool false, .bool false, .bool false], .bool false]) (by simp[results,Tryz.results72,go_sem,m0,m1,m2,m3]) rfl ?_;refine⟨?_,HB3.out.grown h42 HB3.out.size (fun k hk=>by cases hk; exact Nat.le_refl _)⟩;rw[bO,HCP.out,HCS.out]; rfl
   | some cs=>
    have HCS:=aa hcs;clear hcs;refine(dp s3 b1 b3 true _ (HE.out.below HB0.out) (by omega)).mono ?_;rw[HCS.out];rintro e w3 ⟨pv,rfl,hpv,hb3⟩;clear hpv;have hres:w3.heap[w.heap.size]? =some (.cells #[.string ⟨#[]⟩, .bool false, .bool false, .bool false] 141 (0,0)):=by
     rw[hb3.block _ (by simp; omega),Below.heap_alloc _ _ _ (by simp)]; exact heap_alloc_new w _
    have hbox:w3.heap[w.heap.size+1]? =some (.cells #[.string s3, .bool b1, .bool b3, .bool true] 141 (0,0)):=by
     rw[hb3.block _ (by simp)];have:=heap_alloc_new (w.alloc (.cells #[.string ⟨#[]⟩, .bool false, .bool false, .bool false] 141)) (.cells #[.string s3, .bool b1, .bool b3, .bool true] 141)
     simpa using this
    have n0:w3.cell? ⟨w.heap.size+1,0,none⟩=some (.string s3):=by rw[ab hbox]; rfl
    have n1:w3.cell? ⟨w.heap.size+1,1,none⟩=some (.bool b1):=by rw[ab hbox]; rfl
    have n2:w3.cell? ⟨w.heap.size+1,2,none⟩=some (.bool b3):=by rw[ab hbox]; rfl
    have n3:w3.cell? ⟨w.heap.size+1,3,none⟩=some (.bool true):=by rw[ab hbox]; rfl
    clear hbox;have hb3':=ac HB0.out hb3;have HB3:=aa hb3';clear hb3 hb3';have r0:w3.cell? ⟨w.heap.size,0,none⟩=some (.string ⟨#[]⟩):=by rw[ab hres]; rfl
    have r1:w3.cell? ⟨w.heap.size,1,none⟩=some (.bool false):=by rw[ab hres]; rfl
    have r2:w3.cell? ⟨w.heap.size,2,none⟩=some (.bool false):=by rw[ab hres]; rfl
    have r3:w3.cell? ⟨w.heap.size,3,none⟩=some (.bool false):=by rw[ab hres]; rfl
    have f0:w3.frozen? ⟨w.heap.size,0,none⟩=false:=ai hres;have f1:w3.frozen? ⟨w.heap.size,1,none⟩=false:=ai hres;have f2:w3.frozen? ⟨w.heap.size,2,none⟩=false:=ai hres;have f3:w3.frozen? ⟨w.heap.size,3,none⟩=false:=ai hres;have HR:=aa hres;clear hres;go_wp2_with fail;obtain⟨W,hW⟩: ∃W,W=((((w3.setCell ⟨w.heap.size,0,none⟩ (.string s3)).setCell ⟨w.heap.size,1,none⟩ (.bool b1)).setCell ⟨w.heap.size,2,none⟩ (.bool b3)).setCell ⟨w.heap.size,3,none⟩ (.bool true)):=⟨_,rfl⟩
    rw[<-hW];have h4:=iJ HR.out (.string s3) (.bool b1) (.bool b3) (.bool true);rw[<-hW]at h4;obtain⟨h41,h42⟩:=h4;have m0:W.cell? ⟨w.heap.size,0,none⟩=some (.string s3):=by rw[ab h41]; rfl
    have m1:W.cell? ⟨w.heap.size,1,none⟩=some (.bool b1):=by rw[ab h41]; rfl
    have m2:W.cell? ⟨w.heap.size,2,none⟩=some (.bool b3):=by rw[ab h41]; rfl
    have m3:W.cell? ⟨w.heap.size,3,none⟩=some (.bool true):=by rw[ab h41]; rfl
    clear hW;refine bodyPost_ret (v:= .tuple #[.agg #[.string s3, .bool b1, .bool b3, .bool true], .bool true]) (by simp[results,Tryz.results72,go_sem,m0,m1,m2,m3]) rfl ?_;refine⟨?_,HB3.out.grown h42 HB3.out.size (fun k hk=>by cases hk; exact Nat.le_refl _)⟩;rw[bO,HCP.out,HCS.out];simp only[Option.isSome_some,if_true,HRU.out,eC,pf,lp]
 ·rw[Bool.true_or]at hru;have HRU:=aa hru;clear hru;go_wp2_with fail;have hcp:aQ (pd (bl s))=aQ ⟨bl s3,b1,b3,true⟩:=by rw[HRU.out]
  have HCP:=aa hcp;clear hcp;have hb0:Below w.heap.size w ((w.alloc (.cells #[.string ⟨#[]⟩, .bool false, .bool false, .bool false] 141)).alloc (.cells #[.string s3, .bool b1, .bool b3, .bool true] 141)):=((Below.refl _ _).alloc (Nat.le_refl _) _).alloc (by simp) _;have HB0:=aa hb0;clear hb0
  cases hcs:aQ ⟨bl s3,b1,b3,true⟩with
  | none=>
   have HCS:=aa hcs;clear hcs;refine(dp s3 b1 b3 true _ (HE.out.below HB0.out) (by omega)).mono ?_;rw[HCS.out];rintro e w3 ⟨rfl,hb3⟩;have hres:w3.heap[w.heap.size]? =some (.cells #[.string ⟨#[]⟩, .bool false, .bool false, .bool false] 141 (0,0)):=by
    rw[hb3.block _ (by simp; omega),Below.heap_alloc _ _ _ (by simp)]; exact heap_alloc_new w _
   have hb3':=ac HB0.out hb3;have HB3:=aa hb3';clear hb3 hb3';have r0:w3.cell? ⟨w.heap.size,0,none⟩=some (.string ⟨#[]⟩):=by rw[ab hres]; rfl
   have r1:w3.cell? ⟨w.heap.size,1,none⟩=some (.bool false):=by rw[ab hres]; rfl
   have r2:w3.cell? ⟨w.heap.size,2,none⟩=some (.bool false):=by rw[ab hres]; rfl
   have r3:w3.cell? ⟨w.heap.size,3,none⟩=some (.bool false):=by rw[ab hres]; rfl
   have f0:w3.frozen? ⟨w.heap.size,0,none⟩=false:=ai hres;have f1:w3.frozen? ⟨w.heap.size,1,none⟩=false:=ai hres;have f2:w3.frozen? ⟨w.heap.size,2,none⟩=false:=ai hres;have f3:w3.frozen? ⟨w.heap.size,3,none⟩=false:=ai hres;have HR:=aa hres;clear hres;go_wp2_with fail;obtain⟨W,hW⟩: ∃W,W=((((w3.setCell ⟨w.heap.size,0,none⟩ (.string ⟨#[]⟩)).setCell ⟨w.heap.size,1,none⟩ (.bool false)).setCell ⟨w.heap.size,2,none⟩ (.bool false)).setCell ⟨w.heap.size,3,none⟩ (.bool false)):=⟨_,rfl⟩
   rw[<-hW];have h4:=iJ HR.out (.string ⟨#[]⟩) (.bool false) (.bool false) (.bool false);rw[<-hW]at h4;obtain⟨h41,h42⟩:=h4;have m0:W.cell? ⟨w.heap.size,0,none⟩=some (.string ⟨#[]⟩):=by rw[ab h41]; rfl
   have m1:W.cell? ⟨w.heap.size,1,none⟩=some (.bool false):=by rw[ab h41]; rfl
   have m2:W.cell? ⟨w.heap.size,2,none⟩=some (.bool false):=by rw[ab h41]; rfl
   have m3:W.cell? ⟨w.heap.size,3,none⟩=some (.bool false):=by rw[ab h41]; rfl
   clear hW;refine bodyPost_ret (v:= .tuple #[.agg #[.string ⟨#[]⟩, .bool false, .bool false, .bool false], .bool false]) (by simp[results,Tryz.results72,go_sem,m0,m1,m2,m3]) rfl ?_;refine⟨?_,HB3.out.grown h42 HB3.out.size (fun k hk=>by cases hk; exact Nat.le_refl _)⟩;rw[bO,HCP.out,HCS.out]; rfl
  | some cs=>
   have HCS:=aa hcs;clear hcs;refine(dp s3 b1 b3 true _ (HE.out.below HB0.out) (by omega)).mono ?_;rw[HCS.out];rintro e w3 ⟨pv,rfl,hpv,hb3⟩;clear hpv;have hres:w3.heap[w.heap.size]? =some (.cells #[.string ⟨#[]⟩, .bool false, .bool false, .bool false] 141 (0,0)):=by
    rw[hb3.block _ (by simp; omega),Below.heap_alloc _ _ _ (by simp)]; exact heap_alloc_new w _
   have hbox:w3.heap[w.heap.size+1]? =some (.cells #[.string s3, .bool b1, .bool b3, .bool true] 141 (0,0)):=by
    rw[hb3.block _ (by simp)];have:=heap_alloc_new (w.alloc (.cells #[.string ⟨#[]⟩, .bool false, .bool false, .bool false] 141)) (.cells #[.string s3, .bool b1, .bool b3, .bool true] 141)
    simpa using this
   have n0:w3.cell? ⟨w.heap.size+1,0,none⟩=some (.string s3):=by rw[ab hbox]; rfl
   have n1:w3.cell? ⟨w.heap.size+1,1,none⟩=some (.bool b1):=by rw[ab hbox]; rfl
   have n2:w3.cell? ⟨w.heap.size+1,2,none⟩=some (.bool b3):=by rw[ab hbox]; rfl
   have n3:w3.cell? ⟨w.heap.size+1,3,none⟩=some (.bool true):=by rw[ab hbox]; rfl
   clear hbox;have hb3':=ac HB0.out hb3;have HB3:=aa hb3';clear hb3 hb3';have r0:w3.cell? ⟨w.heap.size,0,none⟩=some (.string ⟨#[]⟩):=by rw[ab hres]; rfl
   have r1:w3.cell? ⟨w.heap.size,1,none⟩=some (.bool false):=by rw[ab hres]; rfl
   have r2:w3.cell? ⟨w.heap.size,2,none⟩=some (.bool false):=by rw[ab hres]; rfl
   have r3:w3.cell? ⟨w.heap.size,3,none⟩=some (.bool false):=by rw[ab hres]; rfl
   have f0:w3.frozen? ⟨w.heap.size,0,none⟩=false:=ai hres;have f1:w3.frozen? ⟨w.heap.size,1,none⟩=false:=ai hres;have f2:w3.frozen? ⟨w.heap.size,2,none⟩=false:=ai hres;have f3:w3.frozen? ⟨w.heap.size,3,none⟩=false:=ai hres;have HR:=aa hres;clear hres;go_wp2_with fail;obtain⟨W,hW⟩: ∃W,W=((((w3.setCell ⟨w.heap.size,0,none⟩ (.string s3)).setCell ⟨w.heap.size,1,none⟩ (.bool b1)).setCell ⟨w.heap.size,2,none⟩ (.bool b3)).setCell ⟨w.heap.size,3,none⟩ (.bool true)):=⟨_,rfl⟩
   rw[<-hW];have h4:=iJ HR.out (.string s3) (.bool b1) (.bool b3) (.bool true);rw[<-hW]at h4;obtain⟨h41,h42⟩:=h4;have m0:W.cell? ⟨w.heap.size,0,none⟩=some (.string s3):=by rw[ab h41]; rfl
   have m1:W.cell? ⟨w.heap.size,1,none⟩=some (.bool b1):=by rw[ab h41]; rfl
   have m2:W.cell? ⟨w.heap.size,2,none⟩=some (.bool b3):=by rw[ab h41]; rfl
   have m3:W.cell? ⟨w.heap.size,3,none⟩=some (.bool true):=by rw[ab h41]; rfl
   clear hW;refine bodyPost_ret (v:= .tuple #[.agg #[.string s3, .bool b1, .bool b3, .bool true], .bool true]) (by simp[results,Tryz.results72,go_sem,m0,m1,m2,m3]) rfl ?_;refine⟨?_,HB3.out.grown h42 HB3.out.size (fun k hk=>by cases hk; exact Nat.le_refl _)⟩;rw[bO,HCP.out,HCS.out];simp only[Option.isSome_some,if_true,HRU.out,eC,pf,lp]
theorem nk : ∀rs:List aN,bb om (rs.flatMap iG) rs
 | []=>rfl
 | r::rs=>⟨iG r,rs.flatMap iG,by rw[List.flatMap_cons],rfl,nk rs⟩
theorem Tryz.appRules :cB Tryz.prog 86 141 4 24:=cB.mk' (z:= .agg #[.string ByteArray.empty, .bool false, .bool false, .bool false]) Tryz.underlying86 (by kernel_rfl) rfl (by decide) (by decide)
theorem oe {w:World} {base:Nat} {v:Value} {rs:List aN} (h:w.ownsRow base 141 4 v rs.length (rs.flatMap iG)):bB (base<= ·) w v rs:=
 ⟨rs.flatMap iG,(ba h).weak (fun _ hk=>hk.1),nk rs⟩
theorem rB {w w':World} {base:Nat} {e:TypeId} {sz:Nat} {v:Value} {n:Nat} {xs:List Value} (h:w.ownsRow base e sz v n xs) (hb:Below w.heap.size w w'):w'.ownsRow base e sz v n xs:=
 h.kept (grownBy.of_below (r:=none) hb) (by cases v.ownBlock<;> simp)
theorem sI (w:World) (o:Obj):(w.alloc o).heap.size=w.heap.size+1:=by simp
def xj (o:List aN×Int×Int) (w:World) (e:Ending) (w':World):Prop:=
 ∃v,e= .returned (.tuple #[v, .int .i64 o.2.1, .int .i64 o.2.2])/\bB (w.heap.size<= ·) w' v o.1/\Below w.heap.size w w'
theorem kO {S:Nat->Prop} {w:World} :bB S w (.slice none 0 0) []:=aP.nil
theorem mV {ls:List (List UInt8)} {k:Nat} {acc:List aN} {l:List UInt8} (h:ls[k]? =some l) (hl:l=[]\/Lib.hasPrefix l [35]=true):cz (ls.drop k) k acc=cz (ls.drop (k+1)) (k+1) acc:=by
 obtain⟨hk,rfl⟩:=List.getElem?_eq_some_iff.1 h;rw[List.drop_eq_getElem_cons hk,cz,if_pos hl]
theorem oU {ls:List (List UInt8)} {k:Nat} {acc:List aN} {l:List UInt8} (h:ls[k]? =some l) (h1:l≠[]) (h2:Lib.hasPrefix l [35]=false) (hp:bO l=none):cz (ls.drop k) k acc=([],(k:Int)+1,3):=by
 obtain⟨hk,rfl⟩:=List.getElem?_eq_some_iff.1 h;rw[List.drop_eq_getElem_cons hk,cz,if_neg (by rw[h2]; simp[h1]),hp]
theorem mU {ls:List (List UInt8)} {k:Nat} {acc:List aN} {l:List UInt8} {r:aN} (h:ls[k]? =some l) (h1:l≠[]) (h2:Lib.hasPrefix l [35]=false) (hp:bO l=some r) (ha:acc.length=256):cz (ls.drop k) k acc=([],(k:Int)+1,2):=by
 obtain⟨hk,rfl⟩:=List.getElem?_eq_some_iff.1 h;rw[List.drop_eq_getElem_cons hk,cz,if_neg (by rw[h2]; simp[h1]),hp];simp[ha]
theorem vL {ls:List (List UInt8)} {k:Nat} {acc:List aN} {l:List UInt8} {r:aN} (h:ls[k]? =some l) (h1:l≠[]) (h2:Lib.hasPrefix l [35]=false) (hp:bO l=some r) (ha: ¬acc.length=256):cz (ls.drop k) k acc=cz (ls.drop (k+1)) (k+1) (acc++[r]):=by
 obtain⟨hk,rfl⟩:=List.getElem?_eq_some_iff.1 h;rw[List.drop_eq_getElem_cons hk,cz,if_neg (by rw[h2]; simp[h1]),hp];simp[ha]
theorem vM (s:ByteArray) (w:World) (he:ie w):Calls Tryz.prog 37 #[.string s] w (xj (bS (bl s)) w):=by
 have HE:=aa he;clear he
 by_cases h6:s.size<=65536
 ·have hpe:bS (bl s)=cz (ax 10 (bl s)) 0 []:=by unfold bS; rw[if_neg (by rw[<-am]; omega)]
  have HPE:=aa hpe;clear hpe
  go_enter Tryz.func37,Tryz.ntmps37
  go_wp2_with fail;refine(kQ s 10 w HE.out (by omega)).mono ?_;rintro e w' ⟨xs,hx,rfl,rfl⟩;have hxl:xs.length<=65537:=by
   have h1:(ax 10 (bl s)).length=xs.length:=by rw[<-hx]; simp
   have h2:=dh 10 (bl s);rw[<-am]at h2;omega
  have HX:=aa hx;clear hx;go_wp2_with fail
  go_loopw [5,16] (fun v i wr=> ∃(k:Nat) (rs:List aN),k<=xs.length/\rs.length<=256/\i= .int .i64 k/\wr.ownsRow (w.heap.size+1) 141 4 v rs.length (rs.flatMap iG)/\
    Below (w.heap.size+1) (w.alloc (.cells (xs.map Value.string).toArray 9)) wr/\cz (ax 10 (bl s)) 0 []=cz ((xs.map bl).drop k) k rs) (fun _ i _=>xs.length-(intOf i).toNat)
  case atStart=>exact⟨0,[],Nat.zero_le _,Nat.zero_le _,rfl,World.ownsRow_nil _ _ _ _,Below.refl _ _,by rw[HX.out]; rfl⟩
  case round=>
   obtain⟨k,rs,hk,hrs,rfl,hown,hb,hc⟩:=hrel;have HC:=aa hc;have HB:=aa hb;have HO:=aa hown;have hsz:w.heap.size+1<=wr.heap.size:=by have:=hb.size; simpa using this
   have hbw:Below w.heap.size w wr:=ac ((Below.refl _ _).alloc (Nat.le_refl _) _) (by simpa using hb);have HBW:=aa hbw;obtain⟨av,cv,rfl,hnv,hmv⟩:=aj hown;clear hbw
   by_cases hlt:k<xs.length
   ·obtain⟨x,hx⟩: ∃x,xs[k]? =some x:=⟨xs[k],by simp[hlt]⟩;have hcell:wr.cell? ⟨w.heap.size,k,none⟩=some (.string x):=(hb.cell (p:=⟨w.heap.size,k,none⟩) (by simp)).trans (ko (pT hx));have hxs:x.size<=65536:=by have:=jb HX.out hx; omega
    have HK:=aa hx;clear hx hb hc hown;have HP:=aa (show(xs.map bl)[k]? =some (bl x) by simp[HK.out])
    by_cases h0:bl x=[]
    ·have e0:x.toList.isEmpty=true:=by rw[aX,h0]; rfl
     have H0:=aa h0;clear h0;go_wp2_with fail
     go_roundw
     case rel=>exact⟨k+1,rs,by omega,hrs,by go_num,HO.out,HB.out,by rw[HC.out]; exact mV HP.out (.inl H0.out)⟩
     case measure=>simp[intOf]; omega
    ·have e0:x.toList.isEmpty=false:=by rw[aX]; simpa using h0
     have H0:=aa h0;clear h0
     cases hh:Lib.hasPrefix (bl x) [35]
     ·have HH:=aa hh;clear hh;go_wp2_with fail;refine(bZ x ⟨#[35]⟩ false _ HH.out).mono ?_;rintro e w' ⟨rfl,rfl⟩;go_wp2_with fail
      cases hpl:bO (bl x)with
      | none=>
       have HPL:=aa hpl;clear hpl;refine(jt x wr (HE.out.below HBW.out) hxs).mono ?_;rw[HPL.out];rintro e w2 ⟨rfl,hb2⟩;have HB2:=aa hb2;clear hb2;simp only[eC,sC];go_wp2_with fail
       go_ret3
       refine⟨.slice none 0 0, ?_, ?_,ac (ac HBW.out HB2.out) ((Below.refl _ _).alloc (Nat.le_refl _) _)⟩
       ·rw[HPE.out,HC.out,oU HP.out H0.out HH.out HPL.out]; rfl
       ·rw[HPE.out,HC.out,oU HP.out H0.out HH.out HPL.out]; exact kO
      | some r=>
       have HPL:=aa hpl;clear hpl;refine(jt x wr (HE.out.below HBW.out) hxs).mono ?_;rw[HPL.out];rintro e w2 ⟨rfl,hb2⟩;have HB2:=aa hb2;have hsz2:=hb2.size;clear hb2;obtain⟨rp,rk,rd,rr⟩:=r;simp only[eC,pf]
       by_cases hfull:rs.length=256
       ·have ef:((rs.length:Int) == 256)=true:=by rw[hfull]; rfl
        have HF:=aa hfull;clear hfull;go_wp2_with fail
        go_ret3
        refine⟨.slice none 0 0, ?_, ?_,ac (ac HBW.out HB2.out) ((Below.refl _ _).alloc (Nat.le_refl _) _)⟩
        ·rw[HPE.out,HC.out,mU HP.out H0.out HH.out HPL.out HF.out]; rfl
        ·rw[HPE.out,HC.out,mU HP.out H0.out HH.out HPL.out HF.out]; exact kO
       ·have ef:((rs.length:Int) == 256)=false:=by rw[beq_eq_false_iff_ne]; omega
        have HF:=aa hfull;have hlt2:rs.length<256:=by omega
        clear hfull;have HO2:=aa (show World.ownsRow (w2.alloc (.cells #[.string ⟨rp.toArray⟩, .bool rk, .bool rd, .bool rr] 141)) (w.heap.size+1) 141 4 (.slice av rs.length cv) rs.length (rs.flatMap iG)from(rB HO.out HB2.out).alloc _);go_wp2_with (at_builtin; go_must (refine eR Tryz.appRules rfl _ _ rfl (w.heap.size+1) (.slice av rs.length cv) rs.length (rs.flatMap iG) rfl (w2.alloc (.cells #[.string ⟨rp.toArray⟩, .bool rk, .bool rd, .bool rr] 141)) (iG ⟨rp,rk,rd,rr⟩) _ (by rw[sI]; rfl) rfl (by simp[iG]; exact⟨rfl,rfl,rfl,rfl⟩) HO2.out (by omega) (by simp; omega) ?_); intro v' w3 hown1 hgrow1 _)
        have HO1:=aa hown1;have HG1:=aa hgrow1;clear hown1 hgrow1;go_wp2_with fail
        go_roundw
        case rel=>
         refine⟨k+1,rs++[⟨rp,rk,rd,rr⟩],by omega,by simp; omega,by go_num, ?_, ?_,by rw[HC.out]; exact vL HP.out H0.out HH.out HPL.out HF.out⟩
         ·have:=HO1.out; simpa using this
         ·exact aZ (((HB.out.trans (HB2.out.mono hsz)).alloc (by omega) _)) HO2.out HG1.out (Nat.le_refl _) (by simp; omega)
        case measure=>simp[intOf]; omega
     ·have HH:=aa hh;clear hh;go_wp2_with fail;refine(bZ x ⟨#[35]⟩ true _ HH.out).mono ?_;rintro e w' ⟨rfl,rfl⟩;go_wp2_with fail
      go_roundw
      case rel=>exact⟨k+1,rs,by omega,hrs,by go_num,HO.out,HB.out,by rw[HC.out]; exact mV HP.out (.inr HH.out)⟩
      case measure=>simp[intOf]; omega
   ·clear hb hc hown;go_wp2_with fail
    go_ret3
    have hfin:bS (bl s)=(rs,0,0):=by
     rw[HPE.out,HC.out,List.drop_eq_nil_of_le (by simp; omega)]; rfl
    refine⟨.slice av rs.length cv,by rw[hfin]; rfl, ?_,HBW.out⟩;rw[hfin];exact aP.mono (oe HO.out) (by omega) (fun k _ hk=>by omega) (fun _ _ _ h=>h)
 ·have hpe:bS (bl s)=([],0,2):=by unfold bS; rw[if_pos (by rw[<-am]; omega)]
  have HPE:=aa hpe;clear hpe
  go_enter Tryz.func37,Tryz.ntmps37
  go_wp2_with fail
  go_ret3
  exact⟨.slice none 0 0,by rw[HPE.out]; rfl,by rw[HPE.out]; exact kO,Below.refl _ _⟩
open Go Go.RowKit Go.Maps
section
variable {w : World} {b : Nat} {a0 a1 a2 a3 a4 a5 x0 x1 x2 x3 x4 x5 : Value}
theorem Bo (h:w.heap[b]? =some (.cells #[a0,a1,a2,a3,a4,a5] 54 (0,0))):
  ((((((w.setCell ⟨b,0,none⟩ x0).setCell ⟨b,1,none⟩ x1).setCell ⟨b,2,none⟩ x2).setCell ⟨b,3,none⟩ x3).setCell ⟨b,4,none⟩ x4).setCell ⟨b,5,none⟩ x5).heap[b]? =some (.cells #[x0,x1,x2,x3,x4,x5] 54 (0,0)):=by
 have h0:=ny (k:=0) h x0;have h1:=ny (k:=1) h0 x1;have h2:=ny (k:=2) h1 x2;have h3:=ny (k:=3) h2 x3;have h4:=ny (k:=4) h3 x4;have h5:=ny (k:=5) h4 x5
 simpa using h5
theorem Ab {a:Act} {e7:Value} (h:w.heap[b]? =some (.cells #[x0,x1,x2,x3,x4,x5] 54 (0,0)))
  (h10:a.tmps[10]? =some (.pointer (some ⟨b,0,none⟩))) (h11:a.tmps[11]? =some e7):(results Tryz.f20 a.tmps).run Tryz.prog w= .ok (.tuple #[.agg #[x0,x1,x2,x3,x4,x5],e7]) w:=by
 have m0:=af (k:=0) h;have m1:=af (k:=1) h;have m2:=af (k:=2) h;have m3:=af (k:=3) h;have m4:=af (k:=4) h;have m5:=af (k:=5) h;simp only[eX]at m0 m1 m2 m3 m4 m5;simp[results,Tryz.results20,go_sem,h10,h11,m0,m1,m2,m3,m4,m5]
theorem jd {a:Act} {e7:Value} {Q:Ending->World->Prop} (h:w.heap[b]? =some (.cells #[a0,a1,a2,a3,a4,a5] 54 (0,0)))
  (h10:a.tmps[10]? =some (.pointer (some ⟨b,0,none⟩))) (h11:a.tmps[11]? =some e7) (hd:a.defers=[])
  (hQ:Q (.returned (.tuple #[.agg #[x0,x1,x2,x3,x4,x5],e7])) ((((((w.setCell ⟨b,0,none⟩ x0).setCell ⟨b,1,none⟩ x1).setCell ⟨b,2,none⟩ x2).setCell ⟨b,3,none⟩ x3).setCell ⟨b,4,none⟩ x4).setCell ⟨b,5,none⟩ x5)):
  bodyPost Tryz.prog Tryz.f20 Q Exit.ret a ((((((w.setCell ⟨b,0,none⟩ x0).setCell ⟨b,1,none⟩ x1).setCell ⟨b,2,none⟩ x2).setCell ⟨b,3,none⟩ x3).setCell ⟨b,4,none⟩ x4).setCell ⟨b,5,none⟩ x5):=bodyPost_ret (Ab (Bo h) h10 h11) hd hQ
theorem tq {k:Nat} (hk:k≠b):((((((w.setCell ⟨b,0,none⟩ x0).setCell ⟨b,1,none⟩ x1).setCell ⟨b,2,none⟩ x2).setCell ⟨b,3,none⟩ x3).setCell ⟨b,4,none⟩ x4).setCell ⟨b,5,none⟩ x5).heap[k]? =w.heap[k]? :=by
 rw[Below.heap_setCell _ _ _ _ (by exact hk),Below.heap_setCell _ _ _ _ (by exact hk),Below.heap_setCell _ _ _ _ (by exact hk),Below.heap_setCell _ _ _ _ (by exact hk),Below.heap_setCell _ _ _ _ (by exact hk),Below.heap_setCell _ _ _ _ (by exact hk)]
theorem kD {B:Nat} {u:World} (hb:Below B u w) (hB:B<=b) (hz:B<=w.heap.size):Below B u ((((((w.setCell ⟨b,0,none⟩ x0).setCell ⟨b,1,none⟩ x1).setCell ⟨b,2,none⟩ x2).setCell ⟨b,3,none⟩ x3).setCell ⟨b,4,none⟩ x4).setCell ⟨b,5,none⟩ x5):=by
 have hk: ∀(i:Nat),(some b)=some i->B<=i:=fun i e=>by cases e; exact hB
 have g: ∀ {v:World} (k:Nat) (x:Value),B<=v.heap.size->Below B u v->Below B u (v.setCell ⟨b,k,none⟩ x)/\B<=(v.setCell ⟨b,k,none⟩ x).heap.size:=fun k x hz h=>⟨h.grown (bm _ _ _ _) hz hk,Nat.le_trans hz (bm _ b k x).size⟩
 obtain⟨c0,z0⟩:=g 0 x0 hz hb;obtain⟨c1,z1⟩:=g 1 x1 z0 c0;obtain⟨c2,z2⟩:=g 2 x2 z1 c1;obtain⟨c3,z3⟩:=g 3 x3 z2 c2;obtain⟨c4,z4⟩:=g 4 x4 z3 c3;exact(g 5 x5 z4 c4).1
end
def Ap :Value:= .agg #[.int .i64 0, .slice none 0 0, .slice none 0 0, .slice none 0 0, .int .i64 0, .int .i64 0]
def jO (res:Except Int xl) (w:World) (e:Ending) (w':World):Prop:=Below w.heap.size w w'/\match res with
 | .error x=>e= .returned (.tuple #[Ap, .int .i64 x])/\x≠0
 | .ok r=> ∃fv cv nv,e= .returned (.tuple #[.agg #[.int .i64 r.idx.tm,fv,cv,nv, .int .i64 (r.read:Int), .int .i64 (r.kept:Int)], .int .i64 0])/\bF w' w.heap.size fv r.idx.files/\w'.ownsRow w.heap.size 60 2 cv r.chg.length (fd r.chg)/\ci w.heap.size nv r.news w'
theorem fY (S:Nat->Prop) (x:dn) (fv:Value) (b:Bool) (w:World) (hx:aM S w fv x.files) (henv:ie w) (h:cZ x=b):Calls Tryz.prog 12 #[dY fv x.tm] w fun e w'=>e= .returned (.bool b)/\Below w.heap.size w w':=by
 rw[<-h]; exact ku S x fv w hx henv
theorem tg (rs:List aN) (S:Nat->Prop) (v:Value) (s:ByteArray) (dir ig:Bool) (w:World) (he:ie w) (hv:bB S w v rs) (hp: ∀r∈rs,r.pat.length<=9223372036854775807) (h:cN rs (bl s) dir=(ig,0)):
  Calls Tryz.prog 40 #[v, .string s, .bool dir] w fun e w'=>e= .returned (.tuple #[.bool ig, .int .i64 0])/\Below w.heap.size w w':=by
 have:=rh rs S v s dir w he hv hp;rw[h]at this;exact this
theorem yC {S:Nat->Prop} {w:World} {v:Value} {rs:List aN} (h:bB S w v rs):bB (· <w.heap.size) w v rs:=by
 obtain⟨cells,h1,h2⟩:=h;exact⟨cells,aD.mono h1 (fun k hk _=>hk) (by omega),h2⟩
theorem yD {S T:Nat->Prop} {w:World} {v:Value} {rs:List aN} (h:bB S w v rs) (hs: ∀k,S k->T k):bB T w v rs:=by
 obtain⟨cells,h1,h2⟩:=h;exact⟨cells,h1.weak hs,h2⟩
theorem nr {prev:dn} {tm:Int} {tree:List bi} {rules:List UInt8} {c:dV} (h: ¬(cZ prev=true/\prev.tm<=tm/\ep c=true)):el prev tm tree rules c= .error 1:=by unfold el; rw[if_neg h]
theorem tN {prev:dn} {tm:Int} {tree:List bi} {rules:List UInt8} {c:dV} {rs:List aN} {n x:Int} (h:cZ prev=true/\prev.tm<=tm/\ep c=true) (hp:bS rules=(rs,n,x)) (hx: ¬x=0):el prev tm tree rules c= .error x:=by
 unfold el; rw[if_pos h,hp,if_neg hx]
theorem wy {prev:dn} {tm x:Int} {tree:List bi} {rules:List UInt8} {c:dV} {rs:List aN} {n:Int} (h:cZ prev=true/\prev.tm<=tm/\ep c=true) (hp:bS rules=(rs,n,0)) (hx:bL tree=x) (h0: ¬x=0):el prev tm tree rules c= .error x:=by
 unfold el; rw[if_pos h,hp,if_pos rfl,hx,if_neg h0]
theorem Aa {prev:dn} {tm:Int} {tree:List bi} {rules:List UInt8} {c:dV} {rs:List aN} {n:Int} {s:jh} (h:cZ prev=true/\prev.tm<=tm/\ep c=true) (hp:bS rules=(rs,n,0)) (hx:bL tree=0) (hs:s=cV prev.tm prev.files c (cC rs tree)):el prev tm tree rules c= .ok ⟨⟨tm,s.files⟩,nO prev.files s.files,s.news,s.read,s.kept⟩:=by
 unfold el; rw[if_pos h,hp,if_pos rfl,if_pos hx,hs]
theorem zE {x:dn} (h:cZ x=true):x.files.length<=4096:=by
 unfold cZ at h;simp only[Bool.and_eq_true,decide_eq_true_eq]at h;exact h.1.1.2
theorem yG {tm:Int} {prev:List au} {c:dV} (hc:ep c=true) {K:List bi} (hv: ∀e∈K,bR e=true):(cV tm prev c K).news.length<=K.length*1048576:=by
 show(List.foldl bu (jn prev,[]) _).2.length<=_
 refine Nat.le_trans (yv _ _) ?_;simp only[List.length_nil,Nat.zero_add];have key: ∀(L:List bi),(∀e∈L,bR e=true/\e.kind=1)->(L.flatMap fun e=>bM c e.data).length<=L.length*1048576:=by
  intro L
  induction L with
  | nil=>simp
  | cons e L ih=>
   intro h;rw[List.flatMap_cons,List.length_append,List.length_cons];have h1:=ih fun x hx=>h x (by simp[hx])
   have h2:=xG hc e.data;have h3:=(kf (h e (by simp)).1).1 (h e (by simp)).2;omega
 refine Nat.le_trans (key _ fun e he=> ?_) (Nat.mul_le_mul_right _ (List.length_filter_le _ _));rw[List.mem_filter]at he;refine⟨hv e he.1, ?_⟩;have:=he.2;unfold oX at this;rw[Bool.and_eq_true]at this;exact of_decide_eq_true this.1
theorem bB.old {base:Nat} {w w':World} {v:Value} {rs:List aN} (h:bB (· <base) w v rs) (hb:Below base w w'):bB (· <base) w' v rs:=by
 obtain⟨cells,h1,h2⟩:=h;exact⟨cells,aD.same h1 (fun k hk=>hb.block k hk),h2⟩
theorem yk {S:Nat->Prop} {w:World} {v:Value} {l:List aY} (h:aE S w v l):aE (· <w.heap.size) w v l:=by
 obtain⟨cells,h1,h2⟩:=h;exact⟨cells,aD.mono h1 (fun k hk _=>hk) (by omega),h2⟩
theorem xP {S:Nat->Prop} {w:World} {v:Value} {l:List au} (h:aM S w v l):aM (· <w.heap.size) w v l:=by
 obtain⟨cells,h1,h2⟩:=h;exact⟨cells,aD.mono h1 (fun k hk _=>hk) (by omega),h2.mono fun c x _ ⟨u,e1,e2,e3⟩=>⟨u,e1,yk e2,e3⟩⟩
theorem ym {S T:Nat->Prop} {w:World} {v:Value} {l:List aY} (h:aE S w v l) (hs: ∀k,S k->T k):aE T w v l:=by
 obtain⟨cells,h1,h2⟩:=h;exact⟨cells,h1.weak hs,h2⟩
theorem xQ {S T:Nat->Prop} {w:World} {v:Value} {l:List au} (h:aM S w v l) (hs: ∀k,S k->T k):aM T w v l:=by
 obtain⟨cells,h1,h2⟩:=h;exact⟨cells,h1.weak hs,h2.mono fun c x _ ⟨u,e1,e2,e3⟩=>⟨u,e1,ym e2 hs,e3⟩⟩
theorem zy {S:Nat->Prop} {w:World} {v:Value} {l:List bi} (h:bG S w v l):bG (· <w.heap.size) w v l:=by
 obtain⟨cells,h1,h2⟩:=h;exact⟨cells,aD.mono h1 (fun k hk _=>hk) (by omega),h2.mono fun c x _ ⟨u,e1,e2,e3⟩=>⟨u,e1,aD.mono e2 (fun k hk _=>hk) (by omega),e3⟩⟩
theorem zz {S T:Nat->Prop} {w:World} {v:Value} {l:List bi} (h:bG S w v l) (hs: ∀k,S k->T k):bG T w v l:=by
 obtain⟨cells,h1,h2⟩:=h;exact⟨cells,h1.weak hs,h2.mono fun c x _ ⟨u,e1,e2,e3⟩=>⟨u,e1,e2.weak hs,e3⟩⟩
theorem xO {base:Nat} {w w':World} {v:Value} {l:List bi} (h:bG (· <base) w v l) (hb:Below base w w'):bG (· <base) w' v l:=by
 obtain⟨cells,h1,h2⟩:=h;refine⟨cells,aD.same h1 (fun k hk=>hb.block k hk),h2.mono fun c x _ ⟨u,e1,e2,e3⟩=>⟨u,e1,aD.same e2 (fun k hk=>hb.block k hk),e3⟩⟩
theorem np (S T:Nat->Prop) (prev:dn) (fv tv:Value) (tm:Int) (tree:List bi) (rules:ByteArray) (c:dV) (w:World) (hf:aM S w fv prev.files) (ht:bG T w tv tree) (he:gX w) (hs:c.seed<18446744073709551616) (hpl: ∀f∈prev.files,f.parts.length<=1048576):
  Calls Tryz.prog 20 #[dY fv prev.tm, .int .i64 tm,tv, .string rules,gd c] w (jO (el prev tm tree (bl rules) c) w):=by
 obtain⟨fa,fc,rfl,hfc,hfm,-⟩:=aP.shape hf dB.len;obtain⟨ta,tc,rfl,htc,htm,-⟩:=aP.shape ht jx.len;unfold maxLen at htm;have HF:=aa hf;have HT:=aa ht;have HE:=aa he;have HPL:=aa hpl;clear hf ht he hpl;obtain⟨fl,hfl⟩: ∃fl,fl=prev.files.length:=⟨_,rfl⟩;rw[<-hfl]at HF hfc ⊢;have HFL:=aa hfl;obtain⟨tl,htl⟩: ∃tl,tl=tree.length:=⟨_,rfl⟩;rw[<-htl]at HT htc ⊢
 have HTL:=aa htl;clear hfl htl;obtain⟨W,hW⟩: ∃W,W=((w.alloc (.cells #[.int .i64 prev.tm, .slice fa fl fc] 24)).alloc (.cells #[.int .i64 c.mn, .int .i64 c.mx, .int .i64 c.win, .int .i64 c.bits, .int .u64 (c.seed:Int)] 48)).alloc (.cells #[.int .i64 0, .slice none 0 0, .slice none 0 0, .slice none 0 0, .int .i64 0, .int .i64 0] 54):=⟨_,rfl⟩;have HBW:=aa (show Below w.heap.size w W by rw[hW]; exact(((Below.refl _ _).alloc (Nat.le_refl _) _).alloc (by simp) _).alloc (by simp; omega) _)
 have HX:=aa (show W.heap[w.heap.size]? =some (.cells #[.int .i64 prev.tm, .slice fa fl fc] 24 (0,0)) by rw[hW]; exact kC (kC (heap_alloc_new w _) _) _);have HC:=aa (show W.heap[w.heap.size+1]? =some (.cells #[.int .i64 c.mn, .int .i64 c.mx, .int .i64 c.win, .int .i64 c.bits, .int .u64 (c.seed:Int)] 48 (0,0)) by rw[hW]; exact kC (heap_alloc2_new w _ _) _);have HR:=aa (show W.heap[w.heap.size+1+1]? =some (.cells #[.int .i64 0, .slice none 0 0, .slice none 0 0, .slice none 0 0, .int .i64 0, .int .i64 0] 54 (0,0)) by
  rw[hW];have h:=heap_alloc_new ((w.alloc (.cells #[.int .i64 prev.tm, .slice fa fl fc] 24)).alloc (.cells #[.int .i64 c.mn, .int .i64 c.mx, .int .i64 c.win, .int .i64 c.bits, .int .u64 (c.seed:Int)] 48)) (.cells #[.int .i64 0, .slice none 0 0, .slice none 0 0, .slice none 0 0, .int .i64 0, .int .i64 0] 54);have e2:((w.alloc (.cells #[.int .i64 prev.tm, .slice fa fl fc] 24)).alloc (.cells #[.int .i64 c.mn, .int .i64 c.mx, .int .i64 c.win, .int .i64 c.bits, .int .u64 (c.seed:Int)] 48)).heap.size=w.heap.size+1+1:=by simp
  rw[e2]at h;exact h)
 have HSZ:=aa (show W.heap.size=w.heap.size+3 by rw[hW]; simp);unfold dY gd
 go_enter Tryz.func20,Tryz.ntmps20
 go_upto_region 1 with fail
 change Code.wp _ _ _ _ (((w.alloc (.cells #[.int .i64 prev.tm, .slice fa fl fc] 24)).alloc (.cells #[.int .i64 c.mn, .int .i64 c.mx, .int .i64 c.win, .int .i64 c.bits, .int .u64 (c.seed:Int)] 48)).alloc (.cells #[.int .i64 0, .slice none 0 0, .slice none 0 0, .slice none 0 0, .int .i64 0, .int .i64 0] 54))
 rw[<-hW];clear hW;have HFW:=aa (show aM S W (.slice fa fl fc) prev.files from HF.out.below HBW.out);have HEW:=aa (HE.out.below HBW.out);have x0:=af (k:=0) HX.out;have x1:=af (k:=1) HX.out;simp only[List.getElem?_toArray,cj]at x0 x1
 cases hvx:cZ prev with
 | false=>
  have HBAD:=aa (show el prev tm tree (bl rules) c= .error 1 from nr (fun h=>by rw[hvx]at h; cases h.1));have HVX:=aa hvx;clear hvx
  go_upto_region 2 with(go_at_call 12; refine(fY S prev (.slice fa fl fc) false W HFW.out HEW.out.env HVX.out).mono ?_; rintro e w1 ⟨rfl,hb1⟩; have HB1:=aa hb1; clear hb1)
  have HR1:=aa ((HB1.out.block _ (lt_of_block HR.out)).trans HR.out);have z0:=af (k:=0) HR1.out;have z1:=af (k:=1) HR1.out;have z2:=af (k:=2) HR1.out;have z3:=af (k:=3) HR1.out;have z4:=af (k:=4) HR1.out;have z5:=af (k:=5) HR1.out;simp only[List.getElem?_toArray,cj]at z0 z1 z2 z3 z4 z5;have g0:=aF (k:=0) HR1.out;have g1:=aF (k:=1) HR1.out
  have g2:=aF (k:=2) HR1.out;have g3:=aF (k:=3) HR1.out;have g4:=aF (k:=4) HR1.out;have g5:=aF (k:=5) HR1.out;go_wp2_with fail;refine jd HR1.out rfl rfl rfl ?_;refine⟨kD (HBW.out.trans (HB1.out.mono (by have:=HSZ.out; omega))) (by omega) (by have:=HB1.out.size; have:=HSZ.out; omega), ?_⟩;rw[HBAD.out];exact⟨rfl,by decide⟩
 | true=>
  have HVX:=aa hvx;clear hvx
  by_cases hlt:tm<prev.tm
  ·have HBAD:=aa (show el prev tm tree (bl rules) c= .error 1 from nr (fun h=>by omega))
   go_upto_region 2 with(go_at_call 12; refine(fY S prev (.slice fa fl fc) true W HFW.out HEW.out.env HVX.out).mono ?_; rintro e w1 ⟨rfl,hb1⟩; have HB1:=aa hb1; have y0:=(hb1.cell (p:=⟨w.heap.size,0,none⟩) (ay x0)).trans x0; clear hb1)
   have HR1:=aa ((HB1.out.block _ (lt_of_block HR.out)).trans HR.out);have z0:=af (k:=0) HR1.out;have z1:=af (k:=1) HR1.out;have z2:=af (k:=2) HR1.out;have z3:=af (k:=3) HR1.out;have z4:=af (k:=4) HR1.out;have z5:=af (k:=5) HR1.out;simp only[List.getElem?_toArray,cj]at z0 z1 z2 z3 z4 z5;have g0:=aF (k:=0) HR1.out;have g1:=aF (k:=1) HR1.out
   have g2:=aF (k:=2) HR1.out;have g3:=aF (k:=3) HR1.out;have g4:=aF (k:=4) HR1.out;have g5:=aF (k:=5) HR1.out;go_wp2_with fail;refine jd HR1.out rfl rfl rfl ?_;refine⟨kD (HBW.out.trans (HB1.out.mono (by have:=HSZ.out; omega))) (by omega) (by have:=HB1.out.size; have:=HSZ.out; omega), ?_⟩;rw[HBAD.out];exact⟨rfl,by decide⟩
  ·cases hvc:ep c with
   | false=>
    have HBAD:=aa (show el prev tm tree (bl rules) c= .error 1 from nr (fun h=>by rw[hvc]at h; cases h.2.2));have HVC:=aa hvc;clear hvc
    go_upto_region 2 with(first | (go_at_call 12; refine(fY S prev (.slice fa fl fc) true W HFW.out HEW.out.env HVX.out).mono ?_; rintro e w1 ⟨rfl,hb1⟩; have HB1:=aa hb1; have y0:=(hb1.cell (p:=⟨w.heap.size,0,none⟩) (ay x0)).trans x0; have HC1:=aa ((hb1.block _ (lt_of_block HC.out)).trans HC.out); have c0:=af (k:=0) HC1.out; have c1:=af (k:=1) HC1.out; have c2:=af (k:=2) HC1.out; have c3:=af (k:=3) HC1.out; have c4:=af (k:=4) HC1.out; simp only[List.getElem?_toArray,cj]at c0 c1 c2 c3 c4; clear hb1) | (go_at_call 36; refine(fS c false _ HVC.out).mono ?_; rintro e w2 ⟨rfl,hb2⟩; have HB2:=aa hb2; clear hb2))
    have HB12:=aa (ac HB1.out HB2.out);have HR1:=aa ((HB12.out.block _ (lt_of_block HR.out)).trans HR.out);have z0:=af (k:=0) HR1.out;have z1:=af (k:=1) HR1.out;have z2:=af (k:=2) HR1.out;have z3:=af (k:=3) HR1.out;have z4:=af (k:=4) HR1.out;have z5:=af (k:=5) HR1.out;simp only[List.getElem?_toArray,cj]at z0 z1 z2 z3 z4 z5;have g0:=aF (k:=0) HR1.out
    have g1:=aF (k:=1) HR1.out;have g2:=aF (k:=2) HR1.out;have g3:=aF (k:=3) HR1.out;have g4:=aF (k:=4) HR1.out;have g5:=aF (k:=5) HR1.out;go_wp2_with fail;refine jd HR1.out rfl rfl rfl ?_;refine⟨kD (HBW.out.trans (HB12.out.mono (by have:=HSZ.out; omega))) (by omega) (by have:=HB12.out.size; have:=HSZ.out; omega), ?_⟩;rw[HBAD.out];exact⟨rfl,by decide⟩
   | true=>
    have HVC:=aa hvc;have HOK:=aa (show cZ prev=true/\prev.tm<=tm/\ep c=true from⟨HVX.out,by omega,hvc⟩);clear hvc
    go_upto_region 3 with(first | (go_at_call 12; refine(fY S prev (.slice fa fl fc) true W HFW.out HEW.out.env HVX.out).mono ?_; rintro e w1 ⟨rfl,hb1⟩; have HB1:=aa hb1; have y0:=(hb1.cell (p:=⟨w.heap.size,0,none⟩) (ay x0)).trans x0; have HC1:=aa ((hb1.block _ (lt_of_block HC.out)).trans HC.out); have c0:=af (k:=0) HC1.out; have c1:=af (k:=1) HC1.out; have c2:=af (k:=2) HC1.out; have c3:=af (k:=3) HC1.out; have c4:=af (k:=4) HC1.out; simp only[List.getElem?_toArray,cj]at c0 c1 c2 c3 c4; clear hb1) | (go_at_call 36; refine(fS c true _ HVC.out).mono ?_; rintro e w2 ⟨rfl,hb2⟩; have HB2:=aa (ac HB1.out hb2); clear hb2))
    clear x0 x1 y0 c0 c1 c2 c3 c4 hlt;have HE2:=aa (HEW.out.below HB2.out);obtain⟨rs,rn,rx,hpe⟩: ∃rs rn rx,bS (bl rules)=(rs,rn,rx):=⟨_,_,_,rfl⟩;have HPE:=aa hpe;have hpa:=vM rules w2 HE2.out.env;rw[hpe]at hpa;have HPA:=aa hpa;clear hpe hpa
    go_upto_region 4 with(go_at_call 37; refine HPA.out.mono ?_; rintro e w3 ⟨rv,rfl,hru,hb3⟩; have HB3:=aa (ac HB2.out hb3); have HRU:=aa hru; have hz23:=hb3.size; clear hru hb3)
    by_cases hx:rx=0
    ·subst hx;obtain⟨z,hz⟩: ∃z,bL tree=z:=⟨_,rfl⟩;have HZ:=aa hz;have HE3:=aa (HEW.out.below HB3.out);have HT3:=aa (show bG T w3 (.slice ta tl tc) tree from(HT.out.below HBW.out).below HB3.out);clear hz
     go_upto_region 7 with(go_at_call 34; refine(qy T tree (.slice ta tl tc) z _ HT3.out HE3.out.env HZ.out).mono ?_; rintro e w4 ⟨rfl,hb4⟩; have HB4:=aa (ac HB3.out hb4); have HB34:=aa hb4; have hz34:=hb4.size; clear hb4)
     by_cases hz0:z=0
     ·subst hz0;have hz12:w.heap.size+3<=w4.heap.size:=by have:=HB4.out.size; have:=HSZ.out; omega
      go_upto_region 9 with fail
      obtain⟨W0,hW0⟩: ∃W0:World,W0=w4.drew:=⟨_,rfl⟩;have HBZ:=aa (show Below W.heap.size W W0 by rw[hW0]; exact HB4.out.drew);have HB40:=aa (show Below w4.heap.size w4 W0 by rw[hW0]; exact(Below.refl _ _).drew);have hz0:W0.heap.size=w4.heap.size:=by rw[hW0]; rfl
      have HX0:=aa ((HBZ.out.block _ (lt_of_block HX.out)).trans HX.out);have HC0:=aa ((HBZ.out.block _ (lt_of_block HC.out)).trans HC.out);have HR0:=aa ((HBZ.out.block _ (lt_of_block HR.out)).trans HR.out);obtain⟨base,hbase⟩: ∃base,base=W0.heap.size:=⟨_,rfl⟩;have HBS:=aa hbase;have HFB:=aa (show aM (· <base) W0 (.slice fa fl fc) prev.files from xQ (xP (HFW.out.below HBZ.out)) (fun k hk=>by rw[hbase]; exact hk))
      have HTB:=aa (show bG (· <base) W0 (.slice ta tl tc) tree from zz (zy ((HT.out.below HBW.out).below HBZ.out)) (fun k hk=>by rw[hbase]; exact hk));have HE0:=aa (HEW.out.below HBZ.out);have hvi:=HVX.out;have hlen:prev.files.length<=4096:=zE hvi;have HND:=aa (show(prev.files.map au.path).Nodup from by
       have h1:=zD hvi;unfold AZ at h1;unfold List.Nodup;rw[List.pairwise_map];exact h1.imp fun h=>Bj h)
      clear hvi;have S0:=aa (And.intro HX0.out HC0.out);refine dW (fun w'=>w'.heap[w.heap.size]? =some (.cells #[.int .i64 prev.tm, .slice fa fl fc] 24 (0,0))/\w'.heap[w.heap.size+1]? =some (.cells #[.int .i64 c.mn, .int .i64 c.mx, .int .i64 c.win, .int .i64 c.bits, .int .u64 (c.seed:Int)] 48 (0,0))) (by kernel_rfl) ?_;rw[<-hW0];clear hW0 hbase;refine ag 0 rfl (by kernel_rfl) (by kernel_rfl) (by kernel_rfl) (fun _ _ _ h=>h) rfl S0.out (by rintro w' ⟨hw1,hw2⟩; have o0:=af (k:=0) hw1; have o1:=af (k:=1) hw1; have c0:=af (k:=0) hw2; have c1:=af (k:=1) hw2; have c2:=af (k:=2) hw2; have c3:=af (k:=3) hw2; have c4:=af (k:=4) hw2; simp only[List.getElem?_toArray,cj]at o0 o1 c0 c1 c2 c3 c4; clear hw1 hw2; go_simp; rfl) ?_
      simp only[Act.put,aG,aH,aI];refine ag 1 rfl (by kernel_rfl) (by kernel_rfl) (by kernel_rfl) (fun _ _ _ h=>h) rfl S0.out (by rintro w' ⟨hw1,hw2⟩; have o0:=af (k:=0) hw1; have o1:=af (k:=1) hw1; have c0:=af (k:=0) hw2; have c1:=af (k:=1) hw2; have c2:=af (k:=2) hw2; have c3:=af (k:=3) hw2; have c4:=af (k:=4) hw2; simp only[List.getElem?_toArray,cj]at o0 o1 c0 c1 c2 c3 c4; clear hw1 hw2; go_simp; rfl) ?_
      simp only[Act.put,aG,aH,aI];refine ag 2 rfl (by kernel_rfl) (by kernel_rfl) (by kernel_rfl) (fun _ _ _ h=>h) rfl S0.out (by rintro w' ⟨hw1,hw2⟩; have o0:=af (k:=0) hw1; have o1:=af (k:=1) hw1; have c0:=af (k:=0) hw2; have c1:=af (k:=1) hw2; have c2:=af (k:=2) hw2; have c3:=af (k:=3) hw2; have c4:=af (k:=4) hw2; simp only[List.getElem?_toArray,cj]at o0 o1 c0 c1 c2 c3 c4; clear hw1 hw2; go_simp; rfl) ?_
      simp only[Act.put,aG,aH,aI];refine ag 4 rfl (by kernel_rfl) (by kernel_rfl) (by kernel_rfl) (fun _ _ _ h=>h) rfl S0.out (by rintro w' ⟨hw1,hw2⟩; have o0:=af (k:=0) hw1; have o1:=af (k:=1) hw1; have c0:=af (k:=0) hw2; have c1:=af (k:=1) hw2; have c2:=af (k:=2) hw2; have c3:=af (k:=3) hw2; have c4:=af (k:=4) hw2; simp only[List.getElem?_toArray,cj]at o0 o1 c0 c1 c2 c3 c4; clear hw1 hw2; go_simp; rfl) ?_
      simp only[Act.put,aG,aH,aI];refine ag 6 rfl (by kernel_rfl) (by kernel_rfl) (by kernel_rfl) (fun _ _ _ h=>h) rfl S0.out (by rintro w' ⟨hw1,hw2⟩; have o0:=af (k:=0) hw1; have o1:=af (k:=1) hw1; have c0:=af (k:=0) hw2; have c1:=af (k:=1) hw2; have c2:=af (k:=2) hw2; have c3:=af (k:=3) hw2; have c4:=af (k:=4) hw2; simp only[List.getElem?_toArray,cj]at o0 o1 c0 c1 c2 c3 c4; clear hw1 hw2; go_simp; rfl) ?_
      simp only[Act.put,aG,aH,aI];refine aR 3 rfl (by kernel_rfl) rfl (fun K hK=> ?_);go_wp2_with (go_at_call 38; refine(qQ (· <base) prev (.slice fa fl fc) W0 HFB.out HND.out hlen).mono ?_; rintro e w5 ⟨mb,rfl,hmb,hfm,hb5⟩; have HB5:=aa hb5; have HFM:=aa hfm; have hz5:=hb5.size; clear hb5 hfm);have S5:=aa (And.intro ((HB5.out.block _ (lt_of_block HX0.out)).trans HX0.out) ((HB5.out.block _ (lt_of_block HC0.out)).trans HC0.out))
      refine⟨S5.out, ?_⟩;refine aR 5 rfl (by kernel_rfl) rfl (fun K hK=> ?_);go_wp2_with (go_at_call 39; refine(jY (· <base) prev (.slice fa fl fc) w5 (HFB.out.below HB5.out)).mono ?_; rintro e w6 ⟨kb,rfl,hkb,hkn,hb6⟩; have HB6:=aa hb6; have HKN:=aa hkn; have hz6:=hb6.size; clear hb6 hkn);have HB06:=aa (ac HB5.out HB6.out);have S6:=aa (And.intro ((HB06.out.block _ (lt_of_block HX0.out)).trans HX0.out) ((HB06.out.block _ (lt_of_block HC0.out)).trans HC0.out))
      refine⟨S6.out, ?_⟩;refine ag 7 rfl (by kernel_rfl) (by kernel_rfl) (by kernel_rfl) (fun _ _ _ h=>h) rfl S6.out (by rintro w' ⟨hw1,hw2⟩; have o0:=af (k:=0) hw1; have o1:=af (k:=1) hw1; have c0:=af (k:=0) hw2; have c1:=af (k:=1) hw2; have c2:=af (k:=2) hw2; have c3:=af (k:=3) hw2; have c4:=af (k:=4) hw2; simp only[List.getElem?_toArray,cj]at o0 o1 c0 c1 c2 c3 c4; clear hw1 hw2; go_simp; rfl) ?_
      simp only[Act.put,aG,aH,aI];refine aR 8 rfl (by kernel_rfl) rfl (fun K hK=> ?_);go_wp2_with fail;obtain⟨wc,hwc⟩: ∃wc,wc=w6.alloc (.cells (bV ⟨0, .slice none 0 0, .slice none 0 0,0,0,prev.tm,mb,c⟩ kb (.slice none 0 0)).toArray 95):=⟨_,rfl⟩;have HBC:=aa (show Below w6.heap.size w6 wc by rw[hwc]; exact(Below.refl _ _).alloc (Nat.le_refl _) _);have HCB:=aa (show wc.heap[w6.heap.size]? =some (.cells (bV ⟨0, .slice none 0 0, .slice none 0 0,0,0,prev.tm,mb,c⟩ kb (.slice none 0 0)).toArray 95 (0,0)) by rw[hwc]; exact heap_alloc_new w6 _)
      have hwc2:=hwc;simp only[bV,bX,List.cons_append,List.nil_append]at hwc2;have HB0C:=aa (ac HB06.out HBC.out);have SC:=aa (And.intro ((HB0C.out.block _ (lt_of_block HX0.out)).trans HX0.out) ((HB0C.out.block _ (lt_of_block HC0.out)).trans HC0.out));have hb0:=HBS.out;have HCO:=aa (show cK W0 wc base w6.heap.size kb ⟨0, .slice none 0 0, .slice none 0 0,0,0,prev.tm,mb,c⟩ (.slice none 0 0) prev.files ⟨[],jn prev.files,[],0,0⟩from
       ⟨⟨HCB.out,⟨[],rfl,World.ownsRow_nil _ _ _ _,by simp⟩,HKN.out.below HBC.out⟩,bF.nil _ _,(HFM.out.below HB6.out).below HBC.out,by rw[hb0]; exact HB0C.out,by have:=HFM.out.lt; show mb≠kb; omega,rfl,rfl⟩)
      have hzc:w6.heap.size<wc.heap.size:=lt_of_block HCB.out;have hwc3:w6.alloc (.cells #[.int .i64 0, .slice none 0 0, .slice none 0 0, .slice none 0 0, .int .i64 0, .int .i64 0, .int .i64 prev.tm, .map (some mb), .map (some kb), .int .i64 c.mn, .int .i64 c.mx, .int .i64 c.win, .int .i64 c.bits, .int .u64 (c.seed:Int)] 95)=wc:=hwc.symm;rw[hwc3];clear hwc hwc2 hwc3;refine⟨SC.out, ?_⟩
      refine ag 9 rfl (by kernel_rfl) (by kernel_rfl) (by kernel_rfl) (fun _ _ _ h=>h) rfl SC.out (by rintro w' ⟨hw1,hw2⟩; have o0:=af (k:=0) hw1; have o1:=af (k:=1) hw1; have c0:=af (k:=0) hw2; have c1:=af (k:=1) hw2; have c2:=af (k:=2) hw2; have c3:=af (k:=3) hw2; have c4:=af (k:=4) hw2; simp only[List.getElem?_toArray,cj]at o0 o1 c0 c1 c2 c3 c4; clear hw1 hw2; go_simp; rfl) ?_
      simp only[Act.put,aG,aH,aI];refine bN (by kernel_rfl) ?_;have k0:=af (k:=0) HCB.out;have f0:=aF (k:=0) HCB.out;simp only[bV,bX,List.cons_append,List.nil_append,List.getElem?_toArray,List.getElem?_cons_zero]at k0
      go_upto_region 11 with fail
      obtain⟨wd,hwd⟩: ∃wd,wd=wc.setCell ⟨w6.heap.size,0,none⟩ (.int .i64 tm):=⟨_,rfl⟩;rw[<-hwd];obtain⟨cb,hcb⟩: ∃cb,cb=w6.heap.size:=⟨_,rfl⟩;have HCO2:=aa (show cK W0 wd base cb kb ⟨tm, .slice none 0 0, .slice none 0 0,0,0,prev.tm,mb,c⟩ (.slice none 0 0) prev.files ⟨[],jn prev.files,[],0,0⟩ by
       rw[hwd,hcb];exact HCO.out.setq 0 (.int .i64 tm) (q':=⟨tm, .slice none 0 0, .slice none 0 0,0,0,prev.tm,mb,c⟩) (by simp[bV]) rfl rfl rfl rfl rfl rfl rfl (by omega) (by omega))
      have hzd:wd.heap.size=wc.heap.size:=by rw[hwd]; simp[World.setCell]
      rw[<-hcb];have hcbb:base<=cb:=by omega
      have hkbb:base<=kb:=by omega
      clear hwd k0 f0 hcb;have h6:6<=base:=by have:=HE0.out.six; omega
      have hTO:=fD.1 HZ.out;have HVE:=aa hTO.val;have htl2:tl<=4096:=by have h1:=hTO.len; rwa [<-HTL.out]at h1
      obtain⟨us,hus,hig⟩:=xV HPE.out;have HIG:=aa hig;have HPT:=aa (show ∀r∈rs,r.pat.length<=9223372036854775807 from fun r hr=>by have:=(rD HPE.out).2.2.2 r hr; omega);have hz34':w3.heap.size<=base:=by have:=HBS.out; omega
      have HRB:=aa (show bB (· <base) W0 rv rs from yD (yC (bB.below (bB.below HRU.out HB34.out) HB40.out)) (fun k hk=>by have:=HBS.out; rw[this]; exact hk));clear hTO hus hig;go_wp2_with fail
      go_loopw [70] (fun i wr=> ∃(k:Nat) (fv' nv':Value) (rd kp:Nat),k<=tl/\i= .int .i64 k/\cK W0 wr base cb kb ⟨tm,fv', .slice none 0 0,rd,kp,prev.tm,mb,c⟩ nv' prev.files (cV prev.tm prev.files c (cC rs (tree.take k)))) (fun i _=>tl-(intOf i).toNat)
      case atStart=>exact⟨0,_,_,0,0,Nat.zero_le _,rfl,HCO2.out⟩
      case round=>
       obtain⟨k,fv',nv',rd,kp,hk,rfl,hco⟩:=hrel;have HCK:=aa hco;have HBK:=aa hco.old;have hzk:=hco.old.size;clear hco
       by_cases hlt:k<tl
       ·obtain⟨e,he⟩: ∃e,tree[k]? =some e:=⟨_,List.getElem?_eq_getElem (show k<tree.length by rw[<-HTL.out]; exact hlt)⟩;have HTK:=aa (xO HTB.out HBK.out);obtain⟨b,o,dv,rfl,-,-,hd,heok,-,q0,q1,q2,q3,q4,q5⟩:=gE HTK.out he;obtain⟨da,dc,rfl,hd1,hd2⟩:=hd.slice;have HAT:=aa he;have HDA:=aa hd;have HEO:=aa heok;have hve:=HVE.out e (List.mem_of_getElem? he)
        have HVL:=aa hve;have hk256:(tree.take k).length<=k:=List.length_take_le _ _;have hKl:(cC rs (tree.take k)).length<=k:=Nat.le_trans (List.length_filter_le _ _) hk256;have HKV:=aa (show ∀x∈cC rs (tree.take k),bR x=true from fun x hx=>HVE.out x (List.take_subset _ _ (kj hx).1));obtain⟨ig,hig⟩: ∃ig,cN rs (bl e.path) (e.kind == 2)=(ig,0):=⟨_,HIG.out _ _ (bP hve)⟩
        have HIGE:=aa hig;have HIGK:=aa (show nU rs e=ig by unfold nU; rw[show decide (e.kind=2)=(e.kind == 2)from rfl,hig]);have HAL:=aa ((Below.refl wr.heap.size wr).alloc (Nat.le_refl _) (.cells #[.string e.path, .int .i64 e.kind, .int .i64 e.mode, .int .i64 e.time, .slice da e.data.length dc, .string e.link] 30));have HRK:=aa (bB.below (bB.old HRB.out HBK.out) HAL.out)
        have HEK:=aa ((HE0.out.keep HBK.out h6).below HAL.out);clear he hd heok hve hig
        go_upto_region 15 with(go_at_call 40; refine(tg rs (· <base) rv e.path (e.kind == 2) ig _ HEK.out.env HRK.out HPT.out HIGE.out).mono ?_; rintro e8 w8 ⟨rfl,hb8⟩; have HB8:=aa (ac HAL.out hb8); have HY8:=aa ((hb8.block _ (by simp)).trans (heap_alloc_new wr (.cells #[.string e.path, .int .i64 e.kind, .int .i64 e.mode, .int .i64 e.time, .slice da e.data.length dc, .string e.link] 30))); clear hb8)
        have hz8:=HB8.out.size;have HC8:=aa (HCK.out.below HB8.out (by omega))
        cases hg:ig with
        | true=>
         subst hg;go_wp2_with fail
         go_roundw
         case rel=>
          refine⟨k+1,fv',nv',rd,kp,by omega,rfl, ?_⟩;rw[aS HAT.out,vu HIGK.out];exact HC8.out
         case measure=>simp only[intOf,Int.toNat_natCast]; omega
        | false=>
         subst hg;have HD8:=aa (show bU (· <base) w8 (.slice da e.data.length dc) e.data from aD.same HDA.out (fun i hi=>HB8.out.block i (by omega)));have HE8:=aa (HE0.out.keep HC8.out.old h6);have x0:=af (k:=0) HY8.out;have x1:=af (k:=1) HY8.out;have x2:=af (k:=2) HY8.out;have x3:=af (k:=3) HY8.out;have x4:=af (k:=4) HY8.out;have x5:=af (k:=5) HY8.out
         simp only[List.getElem?_toArray,cj]at x0 x1 x2 x3 x4 x5;have hnw:=yG (tm:=prev.tm) (prev:=prev.files) HVC.out HKV.out;have hadd:=wu W0 base cb kb ⟨tm,fv', .slice none 0 0,rd,kp,prev.tm,mb,c⟩ nv' (.slice da e.data.length dc) prev.files (cV prev.tm prev.files c (cC rs (tree.take k))) e w8 HC8.out HD8.out HEO.out HVL.out HVC.out hs HE8.out hcbb hkbb (by omega) h6 (by omega)
          (by show(List.map _ _).length<=_; rw[List.length_map]; omega) (by show(List.filter _ _).length<=_; exact Nat.le_trans (List.length_filter_le _ _) (by omega)) (by show(List.filter _ _).length<=_; exact Nat.le_trans (List.length_filter_le _ _) (by omega)) HPL.out
         have HADD:=aa hadd;clear hnw hadd
         go_upto_region 19 with(go_at_call 41; refine HADD.out.mono ?_; rintro e9 w9 ⟨fv2,nv2,rd2,kp2,rfl,hco9,hb9⟩; have HC9:=aa hco9; clear hco9 hb9)
         go_wp2_with fail
         go_roundw
         case rel=>
          refine⟨k+1,fv2,nv2,rd2,kp2,by omega,rfl, ?_⟩;rw[aS HAT.out,vw HIGK.out,yF];exact HC9.out
         case measure=>simp only[intOf,Int.toNat_natCast]; omega
       ·have hkt:k=tl:=by omega
        subst hkt;have htk:tree.take k=tree:=List.take_of_length_le (by rw[<-HTL.out]; exact Nat.le_refl _);rw[htk]at HCK;clear htk
        go_upto_region 22 with fail
        obtain⟨s,hss⟩: ∃s,s=cV prev.tm prev.files c (cC rs tree):=⟨_,rfl⟩;rw[<-hss]at HCK;have HSK:=aa hss;obtain⟨zsF,-,hzrF,-⟩:=HCK.out.files.row;obtain⟨fva,fvc,hfv,-,-⟩:=aj hzrF;obtain⟨ysN,-,hysN,-⟩:=HCK.out.col.news;obtain⟨nva,nvc,hnv,-,-⟩:=aj hysN;obtain⟨fvn,hfvn⟩: ∃n,n=zsF.length:=⟨_,rfl⟩;obtain⟨nvn,hnvn⟩: ∃n,n=ysN.length:=⟨_,rfl⟩
        rw[<-hfvn]at hfv;rw[<-hnvn]at hnv;have hfv:fv'= .slice fva fvn fvc:=hfv;have hnv:nv'= .slice nva nvn nvc:=hnv;clear hzrF hysN hfvn hnvn;subst hfv hnv;have HOUT:=aa (Aa (tree:=tree) HOK.out HPE.out HZ.out hss);have hsf:s.files.length<=4096:=by
         rw[hss]
         show(List.map _ _).length<=_
         rw[List.length_map];have h1:(cC rs tree).length<=tree.length:=List.length_filter_le _ _;have:=HTL.out;omega
        obtain⟨q,hq⟩: ∃q:gj,q=⟨tm,(.slice fva fvn fvc), .slice none 0 0,rd,kp,prev.tm,mb,c⟩:=⟨_,rfl⟩;have HQ:=aa hq;obtain⟨WE,hWE⟩: ∃WE:World,WE=wr.drew:=⟨_,rfl⟩;have HBE:=aa (show Below wr.heap.size wr WE by rw[hWE]; exact(Below.refl _ _).drew);have HCE:=aa (HCK.out.below HBE.out (by omega));have HBXE:=aa (show WE.heap[cb]? =some (.cells (bV ⟨tm,(.slice fva fvn fvc), .slice none 0 0,rd,kp,prev.tm,mb,c⟩ kb (.slice nva nvn nvc)).toArray 95 (0,0))from HCE.out.col.box)
        have hzE:=HBE.out.size;have hwb:w.heap.size<base:=by omega
        have HXE:=aa ((HCE.out.old.block _ hwb).trans HX0.out);have HFE:=aa (show aM (fun i=>base<=i) WE (.slice fva fvn fvc) s.files from HCE.out.files.at);have HFP:=aa (show aM (· <base) WE (.slice fa fl fc) prev.files from by
         obtain⟨cells,h1,h2⟩:=HFB.out;exact⟨cells,aD.same h1 (fun i hi=>HCE.out.old.block i hi),h2.mono fun c x _ ⟨u,e1,e2,e3⟩=>⟨u,e1,e2.old HCE.out.old,e3⟩⟩)
        have SE:=aa (And.intro HXE.out HBXE.out);clear hss hq;refine dd (fun w'=>w'.heap[w.heap.size]? =some (.cells #[.int .i64 prev.tm, .slice fa fl fc] 24 (0,0))/\w'.heap[cb]? =some (.cells (bV ⟨tm,(.slice fva fvn fvc), .slice none 0 0,rd,kp,prev.tm,mb,c⟩ kb (.slice nva nvn nvc)).toArray 95 (0,0))) (by kernel_rfl) (by kernel_rfl) ?_;simp only[List.dropLast_cons_cons,List.dropLast_singleton,List.length_cons,List.length_nil,Nat.reduceAdd,Nat.reduceSub]
        rw[<-hWE];clear hWE;refine ag 0 rfl (by kernel_rfl) (by kernel_rfl) (by kernel_rfl) (fun _ _ _ h=>h) rfl SE.out (by rintro w' ⟨hw1,hw2⟩; have o0:=af (k:=0) hw1; have o1:=af (k:=1) hw1; have c0:=af (k:=0) hw2; have c1:=af (k:=1) hw2; simp only[bV,bX,List.cons_append,List.nil_append,List.getElem?_toArray,cj]at o0 o1 c0 c1; clear hw1 hw2; go_simp; rfl) ?_
        simp only[Act.put,aG,aH,aI];refine ag 1 rfl (by kernel_rfl) (by kernel_rfl) (by kernel_rfl) (fun _ _ _ h=>h) rfl SE.out (by rintro w' ⟨hw1,hw2⟩; have o0:=af (k:=0) hw1; have o1:=af (k:=1) hw1; have c0:=af (k:=0) hw2; have c1:=af (k:=1) hw2; simp only[bV,bX,List.cons_append,List.nil_append,List.getElem?_toArray,cj]at o0 o1 c0 c1; clear hw1 hw2; go_simp; rfl) ?_
        simp only[Act.put,aG,aH,aI];refine ag 2 rfl (by kernel_rfl) (by kernel_rfl) (by kernel_rfl) (fun _ _ _ h=>h) rfl SE.out (by rintro w' ⟨hw1,hw2⟩; have o0:=af (k:=0) hw1; have o1:=af (k:=1) hw1; have c0:=af (k:=0) hw2; have c1:=af (k:=1) hw2; simp only[bV,bX,List.cons_append,List.nil_append,List.getElem?_toArray,cj]at o0 o1 c0 c1; clear hw1 hw2; go_simp; rfl) ?_
        simp only[Act.put,aG,aH,aI];refine ag 3 rfl (by kernel_rfl) (by kernel_rfl) (by kernel_rfl) (fun _ _ _ h=>h) rfl SE.out (by rintro w' ⟨hw1,hw2⟩; have o0:=af (k:=0) hw1; have o1:=af (k:=1) hw1; have c0:=af (k:=0) hw2; have c1:=af (k:=1) hw2; simp only[bV,bX,List.cons_append,List.nil_append,List.getElem?_toArray,cj]at o0 o1 c0 c1; clear hw1 hw2; go_simp; rfl) ?_
        simp only[Act.put,aG,aH,aI];refine ag 4 rfl (by kernel_rfl) (by kernel_rfl) (by kernel_rfl) (fun _ _ _ h=>h) rfl SE.out (by rintro w' ⟨hw1,hw2⟩; have o0:=af (k:=0) hw1; have o1:=af (k:=1) hw1; have c0:=af (k:=0) hw2; have c1:=af (k:=1) hw2; simp only[bV,bX,List.cons_append,List.nil_append,List.getElem?_toArray,cj]at o0 o1 c0 c1; clear hw1 hw2; go_simp; rfl) ?_
        simp only[Act.put,aG,aH,aI];refine ag 5 rfl (by kernel_rfl) (by kernel_rfl) (by kernel_rfl) (fun _ _ _ h=>h) rfl SE.out (by rintro w' ⟨hw1,hw2⟩; have o0:=af (k:=0) hw1; have o1:=af (k:=1) hw1; have c0:=af (k:=0) hw2; have c1:=af (k:=1) hw2; simp only[bV,bX,List.cons_append,List.nil_append,List.getElem?_toArray,cj]at o0 o1 c0 c1; clear hw1 hw2; go_simp; rfl) ?_
        simp only[Act.put,aG,aH,aI];refine ag 6 rfl (by kernel_rfl) (by kernel_rfl) (by kernel_rfl) (fun _ _ _ h=>h) rfl SE.out (by rintro w' ⟨hw1,hw2⟩; have o0:=af (k:=0) hw1; have o1:=af (k:=1) hw1; have c0:=af (k:=0) hw2; have c1:=af (k:=1) hw2; simp only[bV,bX,List.cons_append,List.nil_append,List.getElem?_toArray,cj]at o0 o1 c0 c1; clear hw1 hw2; go_simp; rfl) ?_
        simp only[Act.put,aG,aH,aI];refine aR 7 rfl (by kernel_rfl) rfl (fun K hK=> ?_);have hlen2:prev.files.length<=4096:=hlen;go_wp2_with (go_at_call 42; refine(qw (· <base) (fun i=>base<=i) prev ⟨tm,s.files⟩ (.slice fa fl fc) (.slice fva fvn fvc) WE HFP.out HFE.out hlen2 hsf).mono ?_; rintro e9 w9 ⟨cv,rfl,ho9,hb9⟩; obtain⟨va,vc,rfl,-,-⟩:=aj ho9; have HO9:=aa ho9; have HB9:=aa hb9; have hz9:=hb9.size; clear ho9 hb9)
        obtain⟨vn,hvn⟩: ∃n,n=(nO prev.files s.files).length:=⟨_,rfl⟩;rw[<-hvn]at HO9 ⊢;have HVN:=aa hvn;clear hvn;have HC9:=aa (HCE.out.below HB9.out (by omega));have HBX9:=aa (show w9.heap[cb]? =some (.cells (bV ⟨tm,(.slice fva fvn fvc), .slice none 0 0,rd,kp,prev.tm,mb,c⟩ kb (.slice nva nvn nvc)).toArray 95 (0,0))from HC9.out.col.box);have S9:=aa (And.intro ((HB9.out.block _ (lt_of_block HXE.out)).trans HXE.out) HBX9.out)
        refine⟨S9.out, ?_⟩;refine ag 8 rfl (by kernel_rfl) (by kernel_rfl) (by kernel_rfl) (fun _ _ _ h=>h) rfl S9.out (by rintro w' ⟨hw1,hw2⟩; have o0:=af (k:=0) hw1; have o1:=af (k:=1) hw1; have c0:=af (k:=0) hw2; have c1:=af (k:=1) hw2; simp only[bV,bX,List.cons_append,List.nil_append,List.getElem?_toArray,cj]at o0 o1 c0 c1; clear hw1 hw2; go_simp; rfl) ?_
        simp only[Act.put,aG,aH,aI];refine ag 9 rfl (by kernel_rfl) (by kernel_rfl) (by kernel_rfl) (fun _ _ _ h=>h) rfl S9.out (by rintro w' ⟨hw1,hw2⟩; have o0:=af (k:=0) hw1; have o1:=af (k:=1) hw1; have c0:=af (k:=0) hw2; have c1:=af (k:=1) hw2; simp only[bV,bX,List.cons_append,List.nil_append,List.getElem?_toArray,cj]at o0 o1 c0 c1; clear hw1 hw2; go_simp; rfl) ?_
        simp only[Act.put,aG,aH,aI];refine ag 10 rfl (by kernel_rfl) (by kernel_rfl) (by kernel_rfl) (fun _ _ _ h=>h) rfl S9.out (by rintro w' ⟨hw1,hw2⟩; have o0:=af (k:=0) hw1; have o1:=af (k:=1) hw1; have c0:=af (k:=0) hw2; have c1:=af (k:=1) hw2; simp only[bV,bX,List.cons_append,List.nil_append,List.getElem?_toArray,cj]at o0 o1 c0 c1; clear hw1 hw2; go_simp; rfl) ?_
        simp only[Act.put,aG,aH,aI];refine bN (by kernel_rfl) ?_;refine dr rfl rfl (fun K hK=> ?_);have k2:=af (k:=2) HBX9.out;have f2:=aF (k:=2) HBX9.out;simp only[bV,bX,List.cons_append,List.nil_append,List.getElem?_toArray,cj]at k2
        go_upto_region 23 with fail
        obtain⟨WF,hWF⟩: ∃WF,WF=w9.setCell ⟨cb,2,none⟩ (.slice va vn vc):=⟨_,rfl⟩;rw[<-hWF];have HCF:=aa (show cK W0 WF base cb kb ⟨tm,(.slice fva fvn fvc),(.slice va vn vc),rd,kp,prev.tm,mb,c⟩ (.slice nva nvn nvc) prev.files s by
         rw[hWF];exact HC9.out.setq 2 (.slice va vn vc) (q':=⟨tm,(.slice fva fvn fvc),(.slice va vn vc),rd,kp,prev.tm,mb,c⟩) (by simp[bV]) rfl rfl rfl rfl rfl HC9.out.rd HC9.out.kp hcbb (by omega))
        have HOF:=aa (show WF.ownsRow WE.heap.size 60 2 (.slice va vn vc) vn (fd (nO prev.files s.files)) by
         rw[hWF];refine bo HO9.out (fun i hi hv=>Below.heap_setCell _ _ _ _ (fun e1=> ?_));obtain⟨cs2,hc2⟩:=az HO9.out hv;rw[e1]at hc2;exact absurd (aC HBX9.out hc2) (by decide))
        have HBXF:=aa (show WF.heap[cb]? =some (.cells (bV ⟨tm,(.slice fva fvn fvc),(.slice va vn vc),rd,kp,prev.tm,mb,c⟩ kb (.slice nva nvn nvc)).toArray 95 (0,0))from HCF.out.col.box);have hzF:=HCF.out.old.size;have HRF:=aa ((HCF.out.old.block _ (show w.heap.size+1+1<base by omega)).trans HR0.out);have m0:=af (k:=0) HBXF.out;have m1:=af (k:=1) HBXF.out;have m2:=af (k:=2) HBXF.out
        have m3:=af (k:=3) HBXF.out;have m4:=af (k:=4) HBXF.out;have m5:=af (k:=5) HBXF.out;simp only[bV,bX,List.cons_append,List.nil_append,List.getElem?_toArray,cj]at m0 m1 m2 m3 m4 m5;clear hWF k2 f2;have z0:=af (k:=0) HRF.out;have z1:=af (k:=1) HRF.out;have z2:=af (k:=2) HRF.out;have z3:=af (k:=3) HRF.out;have z4:=af (k:=4) HRF.out
        have z5:=af (k:=5) HRF.out;simp only[List.getElem?_toArray,cj]at z0 z1 z2 z3 z4 z5;have g0:=aF (k:=0) HRF.out;have g1:=aF (k:=1) HRF.out;have g2:=aF (k:=2) HRF.out;have g3:=aF (k:=3) HRF.out;have g4:=aF (k:=4) HRF.out;have g5:=aF (k:=5) HRF.out;go_wp2_with fail;refine jd HRF.out rfl rfl rfl ?_;have hzW:w.heap.size+3<=base:=by omega
        have hBWF:Below w.heap.size w WF:=(HBW.out.trans (HBZ.out.mono (by have:=HSZ.out; omega))).trans (HCF.out.old.mono (by omega));refine⟨kD hBWF (by omega) (by omega), ?_⟩;rw[HOUT.out];have hrd:rd=s.read:=HCF.out.rd;have hkp:kp=s.kept:=HCF.out.kp;refine⟨_,_,_,by rw[hrd,hkp]; rfl, ?_, ?_, ?_⟩
        ·exact(HCF.out.files.le (show w.heap.size<=base by omega)).same fun i cs2 t2 hi hib hc2 ht2=>tq (fun e1=>by
          rw[e1]at hc2;have h1:=aC HRF.out hc2
          rcases ht2 with⟨rfl,_⟩ | rfl
          ·exact absurd h1 (by decide)
          ·exact absurd h1 (by decide))
        ·rw[show(nO prev.files s.files).length=vn from HVN.out.symm];refine bo (bz HOF.out (by omega)) (fun i hi hv=>tq (fun e1=> ?_));have:=(HOF.out.lt i hv).1;omega
        ·exact(HCF.out.col.news.le (show w.heap.size<=base by omega)).same fun i cs2 t2 hi hib hc2 ht2=>tq (fun e1=>by
          rw[e1]at hc2;have h1:=aC HRF.out hc2
          rcases ht2 with ht2 | rfl
          ·obtain⟨ys,_,h3,_⟩:=HCF.out.col.news;obtain⟨cs3,h4⟩:=az h3 ht2;rw[e1]at h4;exact absurd (aC HRF.out h4) (by decide)
          ·exact absurd h1 (by decide))
     ·have HBAD:=aa (wy (tree:=tree) HOK.out HPE.out HZ.out hz0);have HR1:=aa ((HB4.out.block _ (lt_of_block HR.out)).trans HR.out);have z0:=af (k:=0) HR1.out;have z1:=af (k:=1) HR1.out;have z2:=af (k:=2) HR1.out;have z3:=af (k:=3) HR1.out;have z4:=af (k:=4) HR1.out;have z5:=af (k:=5) HR1.out;simp only[List.getElem?_toArray,cj]at z0 z1 z2 z3 z4 z5
      have g0:=aF (k:=0) HR1.out;have g1:=aF (k:=1) HR1.out;have g2:=aF (k:=2) HR1.out;have g3:=aF (k:=3) HR1.out;have g4:=aF (k:=4) HR1.out;have g5:=aF (k:=5) HR1.out;go_wp2_with fail;refine jd HR1.out rfl rfl rfl ?_;refine⟨kD (HBW.out.trans (HB4.out.mono (by have:=HSZ.out; omega))) (by omega) (by have:=HB4.out.size; have:=HSZ.out; omega), ?_⟩
      rw[HBAD.out];exact⟨rfl,hz0⟩
    ·have HBAD:=aa (tN (tree:=tree) HOK.out HPE.out hx);have HR1:=aa ((HB3.out.block _ (lt_of_block HR.out)).trans HR.out);have z0:=af (k:=0) HR1.out;have z1:=af (k:=1) HR1.out;have z2:=af (k:=2) HR1.out;have z3:=af (k:=3) HR1.out;have z4:=af (k:=4) HR1.out;have z5:=af (k:=5) HR1.out;simp only[List.getElem?_toArray,cj]at z0 z1 z2 z3 z4 z5
     have g0:=aF (k:=0) HR1.out;have g1:=aF (k:=1) HR1.out;have g2:=aF (k:=2) HR1.out;have g3:=aF (k:=3) HR1.out;have g4:=aF (k:=4) HR1.out;have g5:=aF (k:=5) HR1.out;go_wp2_with fail;refine jd HR1.out rfl rfl rfl ?_;refine⟨kD (HBW.out.trans (HB3.out.mono (by have:=HSZ.out; omega))) (by omega) (by have:=HB3.out.size; have:=HSZ.out; omega), ?_⟩
     rw[HBAD.out];exact⟨rfl,hx⟩
theorem Tryz.appParts22 :cB Tryz.prog 40 85 2 24:=cB.mk' (z:= .agg #[.string ⟨#[]⟩, .int .i64 0]) Tryz.underlying40 (by kernel_rfl) rfl (by decide) (by decide)
theorem BA {w:World} {b:Nat} {a0 a1 a2 a3 a4 a5 a6 x0 x1 x2 x3 x4 x5 x6:Value} {t:TypeId} (h:w.heap[b]? =some (.cells #[a0,a1,a2,a3,a4,a5,a6] t (0,0))):(((((((w.setCell ⟨b,0,none⟩ x0).setCell ⟨b,1,none⟩ x1).setCell ⟨b,2,none⟩ x2).setCell ⟨b,3,none⟩ x3).setCell ⟨b,4,none⟩ x4).setCell ⟨b,5,none⟩ x5).setCell ⟨b,6,none⟩ x6).heap[b]? =some (.cells #[x0,x1,x2,x3,x4,x5,x6] t (0,0)):=by
 have h7:=(heap_setCell_same _ b 6 _ _ x6 (heap_setCell_same _ b 5 _ _ x5 (heap_setCell_same _ b 4 _ _ x4 (heap_setCell_same _ b 3 _ _ x3 (heap_setCell_same _ b 2 _ _ x2 (heap_setCell_same _ b 1 _ _ x1 (heap_setCell_same _ b 0 _ _ x0 h)))))))
 simpa using h7
theorem vr {b k:Nat} {w:World} {x0 x1 x2 x3 x4 x5 x6:Value} (hk:k≠b):(((((((w.setCell ⟨b,0,none⟩ x0).setCell ⟨b,1,none⟩ x1).setCell ⟨b,2,none⟩ x2).setCell ⟨b,3,none⟩ x3).setCell ⟨b,4,none⟩ x4).setCell ⟨b,5,none⟩ x5).setCell ⟨b,6,none⟩ x6).heap[k]? =w.heap[k]? :=
 (Below.heap_setCell _ _ _ _ hk).trans ((Below.heap_setCell _ _ _ _ hk).trans ((Below.heap_setCell _ _ _ _ hk).trans ((Below.heap_setCell _ _ _ _ hk).trans ((Below.heap_setCell _ _ _ _ hk).trans ((Below.heap_setCell _ _ _ _ hk).trans (Below.heap_setCell _ _ _ _ hk))))))
theorem sL {B b:Nat} {a w:World} {x0 x1 x2 x3 x4 x5 x6:Value} (h:Below B a w) (hb:B<=b):Below B a (((((((w.setCell ⟨b,0,none⟩ x0).setCell ⟨b,1,none⟩ x1).setCell ⟨b,2,none⟩ x2).setCell ⟨b,3,none⟩ x3).setCell ⟨b,4,none⟩ x4).setCell ⟨b,5,none⟩ x5).setCell ⟨b,6,none⟩ x6):=
 (Below.setCell (Below.setCell (Below.setCell (Below.setCell (Below.setCell (Below.setCell (Below.setCell h hb _) hb _) hb _) hb _) hb _) hb _) hb _)
theorem rE (l:List aY) (p:aY):aV (l++[p])=aV l++lr p:=by simp[aV]
structure Bu (w W2 wr : World) (b : Nat) (f : au) (v : Value) (k : Nat) : Prop where
 below:Below b W2 wr
 box:wr.heap[b]? =some (.cells (bI v f).toArray 42 (0,0))
 own:wr.ownsRow w.heap.size 85 2 v k (aV (f.parts.take k))
theorem sV (S:Nat->Prop) (f:au) (pv:Value) (w:World) (hp:aE S w pv f.parts) (hn2:f.parts.length<=1048576):Calls Tryz.prog 17 #[dC pv f] w fun e w'=> ∃pv2,e= .returned (dC pv2 f)/\w'.ownsRow w.heap.size 85 2 pv2 f.parts.length (aV f.parts)/\Below w.heap.size w w':=by
 obtain⟨a,cap,rfl,hc,hm,-⟩:=aP.shape hp dk.len;have HP:=aa hp;clear hp;obtain⟨n,hn⟩: ∃n,n=f.parts.length:=⟨_,rfl⟩;rw[<-hn]at HP hn2 ⊢;have HN:=aa hn;clear hn hc hm;unfold dC
 go_enter Tryz.func17,Tryz.ntmps17
 go_upto_region 2 with fail
 obtain⟨W2,hW2⟩: ∃W2,W2=((w.alloc (.cells #[.string f.path, .int .i64 f.kind, .int .i64 f.mode, .int .i64 f.time, .int .i64 f.size, .string f.link, .slice a n cap] 27)).alloc (.cells #[.string ⟨#[]⟩, .int .i64 0, .int .i64 0, .int .i64 0, .int .i64 0, .string ⟨#[]⟩, .slice none 0 0] 42)).alloc (.cells #[.string f.path, .int .i64 f.kind, .int .i64 f.mode, .int .i64 f.time, .int .i64 f.size, .string f.link, .slice none 0 0] 42):=⟨_,rfl⟩
 rw[<-hW2];have hzw:W2.heap.size=w.heap.size+3:=by rw[hW2]; simp
 have HBW:=aa (show Below w.heap.size w W2 by rw[hW2]; exact(((Below.refl _ _).alloc (Nat.le_refl _) _).alloc (by simp) _).alloc (by simp; omega) _);have HX:=aa (show W2.heap[w.heap.size]? =some (.cells #[.string f.path, .int .i64 f.kind, .int .i64 f.mode, .int .i64 f.time, .int .i64 f.size, .string f.link, .slice a n cap] 27 (0,0)) by
  rw[hW2,heap_alloc_old _ _ (by simp; omega),heap_alloc_old _ _ (by simp)]; exact heap_alloc_new w _)
 have HR:=aa (show W2.heap[w.heap.size+1]? =some (.cells #[.string ⟨#[]⟩, .int .i64 0, .int .i64 0, .int .i64 0, .int .i64 0, .string ⟨#[]⟩, .slice none 0 0] 42 (0,0)) by
  rw[hW2,heap_alloc_old _ _ (by simp)];have h:=heap_alloc_new (w.alloc (.cells #[.string f.path, .int .i64 f.kind, .int .i64 f.mode, .int .i64 f.time, .int .i64 f.size, .string f.link, .slice a n cap] 27)) (.cells #[.string ⟨#[]⟩, .int .i64 0, .int .i64 0, .int .i64 0, .int .i64 0, .string ⟨#[]⟩, .slice none 0 0] 42);rw[show(w.alloc (.cells #[.string f.path, .int .i64 f.kind, .int .i64 f.mode, .int .i64 f.time, .int .i64 f.size, .string f.link, .slice a n cap] 27)).heap.size=w.heap.size+1 by simp]at h; exact h)
 have HY:=aa (show W2.heap[w.heap.size+1+1]? =some (.cells (bI (.slice none 0 0) f).toArray 42 (0,0)) by
  rw[hW2];have h:=heap_alloc_new ((w.alloc (.cells #[.string f.path, .int .i64 f.kind, .int .i64 f.mode, .int .i64 f.time, .int .i64 f.size, .string f.link, .slice a n cap] 27)).alloc (.cells #[.string ⟨#[]⟩, .int .i64 0, .int .i64 0, .int .i64 0, .int .i64 0, .string ⟨#[]⟩, .slice none 0 0] 42)) (.cells #[.string f.path, .int .i64 f.kind, .int .i64 f.mode, .int .i64 f.time, .int .i64 f.size, .string f.link, .slice none 0 0] 42)
  rw[show((w.alloc (.cells #[.string f.path, .int .i64 f.kind, .int .i64 f.mode, .int .i64 f.time, .int .i64 f.size, .string f.link, .slice a n cap] 27)).alloc (.cells #[.string ⟨#[]⟩, .int .i64 0, .int .i64 0, .int .i64 0, .int .i64 0, .string ⟨#[]⟩, .slice none 0 0] 42)).heap.size=w.heap.size+1+1 by simp]at h; exact h)
 have HP2:=aa (HP.out.below HBW.out);have hzl:=hzw;clear hW2 hzw;go_wp2_with fail
 go_loopw [4] (fun i wr=> ∃(k:Nat) (v:Value),k<=n/\i= .int .i64 k/\Bu w W2 wr (w.heap.size+1+1) f v k) (fun i _=>n-(intOf i).toNat)
 case atStart=>exact⟨0, .slice none 0 0,Nat.zero_le _,rfl,⟨Below.refl _ _,HY.out,World.ownsRow_nil _ _ _ _⟩⟩
 case round=>
  obtain⟨k,v,hk,rfl,hfo⟩:=hrel;have HFO:=aa hfo;have p6:=(hfo.below.cell (p:=⟨w.heap.size,6,none⟩) (by show w.heap.size<w.heap.size+1+1; omega)).trans (af (k:=6) HX.out);have hzr:=hfo.below.size;simp only[List.getElem?_toArray,cj]at p6;clear hfo
  by_cases hlt:k<n
  ·obtain⟨p,hpk⟩: ∃p,f.parts[k]? =some p:=⟨_,List.getElem?_eq_getElem (show k<f.parts.length by rw[<-HN.out]; exact hlt)⟩;obtain⟨va,vc,rfl,-,-⟩:=aj HFO.out.own
   go_upto_region 5 with fail
   obtain⟨W5,hW5⟩: ∃W5:World,W5=wr.drew:=⟨_,rfl⟩;have HB5:=aa (show Below wr.heap.size wr W5 by rw[hW5]; exact(Below.refl _ _).drew);have HBr:=aa (show Below w.heap.size w wr from HBW.out.trans (HFO.out.below.mono (by omega)));obtain⟨pb,po,hpa,-,hpb,hpok,q0,q1⟩:=dN HP.out (HBr.out.trans (HB5.out.mono HBr.out.size)) hpk;subst hpa;have hb2:w.heap.size+1+1<wr.heap.size:=lt_of_block HFO.out.box
   have k6:=(HB5.out.cell (p:=⟨w.heap.size+1+1,6,none⟩) hb2).trans (af (k:=6) HFO.out.box);have p6':=(HB5.out.cell (p:=⟨w.heap.size,6,none⟩) (by show w.heap.size<wr.heap.size; omega)).trans p6;have e6:(bI (.slice va k vc) f).toArray[6]? =some (.slice va k vc):=rfl;rw[e6]at k6;have S5:=aa (And.intro k6 (And.intro p6' (And.intro q0 q1)));have HO5:=aa (aK HFO.out.own HB5.out)
   have HY5:=aa ((HB5.out.block _ hb2).trans HFO.out.box);have hz5:=HB5.out.size;have HPK:=aa hpk;clear e6 k6 p6 p6' q0 q1 hpk;refine dd (fun w'=>w'.cell? ⟨w.heap.size+1+1,6,none⟩=some (.slice va k vc)/\w'.cell? ⟨w.heap.size,6,none⟩=some (.slice (some ⟨pb,po,none⟩) n cap)/\w'.cell? ⟨pb,po+k*2,none⟩=some (.string p.sum)/\w'.cell? ⟨pb,po+k*2+1,none⟩=some (.int .i64 p.size)) (by kernel_rfl) (by kernel_rfl) ?_
   simp only[List.dropLast_cons_cons,List.dropLast_singleton,List.length_cons,List.length_nil,Nat.reduceAdd,Nat.reduceSub];rw[<-hW5];clear hW5;refine ag 0 rfl (by kernel_rfl) (by kernel_rfl) (by kernel_rfl) (fun _ _ _ h=>h) rfl S5.out (by rintro w' ⟨hw1,hw2,hw3,hw4⟩; go_simp; rfl) ?_;simp only[Act.put,aG,aH,aI];refine ag 1 rfl (by kernel_rfl) (by kernel_rfl) (by kernel_rfl) (fun _ _ _ h=>h) rfl S5.out (by rintro w' ⟨hw1,hw2,hw3,hw4⟩; go_simp; rfl) ?_
   simp only[Act.put,aG,aH,aI];refine ag 2 rfl (by kernel_rfl) (by kernel_rfl) (by kernel_rfl) (fun _ _ _ h=>h) rfl S5.out (by rintro w' ⟨hw1,hw2,hw3,hw4⟩; go_simp; rfl) ?_;simp only[Act.put,aG,aH,aI];refine ag 3 rfl (by kernel_rfl) (by kernel_rfl) (by kernel_rfl) (fun _ _ _ h=>h) rfl S5.out (by rintro w' ⟨hw1,hw2,hw3,hw4⟩; go_simp; rfl) ?_;simp only[Act.put,aG,aH,aI]
   refine ag 4 rfl (by kernel_rfl) (by kernel_rfl) (by kernel_rfl) (fun _ _ _ h=>h) rfl S5.out (by rintro w' ⟨hw1,hw2,hw3,hw4⟩; go_simp; rfl) ?_;simp only[Act.put,aG,aH,aI];refine ag 5 rfl (by kernel_rfl) (by kernel_rfl) (by kernel_rfl) (fun _ _ _ h=>h) rfl S5.out (by rintro w' ⟨hw1,hw2,hw3,hw4⟩; go_simp; rfl) ?_;simp only[Act.put,aG,aH,aI];refine ag 6 rfl (by kernel_rfl) (by kernel_rfl) (by kernel_rfl) (fun _ _ _ h=>h) rfl S5.out (by rintro w' ⟨hw1,hw2,hw3,hw4⟩; go_simp; rfl) ?_
   simp only[Act.put,aG,aH,aI];refine aR 7 rfl (by kernel_rfl) rfl (fun K hK=> ?_);go_wp2_with fail;have hal:=(Below.refl W5.heap.size W5).alloc (Nat.le_refl _) (.cells #[.string p.sum, .int .i64 p.size] 85);refine⟨⟨(hal.cell (p:=⟨w.heap.size+1+1,6,none⟩) (by show w.heap.size+1+1<W5.heap.size; omega)).trans S5.out.1,(hal.cell (p:=⟨w.heap.size,6,none⟩) (by show w.heap.size<W5.heap.size; omega)).trans S5.out.2.1,(hal.cell (p:=⟨pb,po+k*2,none⟩) (by show pb<W5.heap.size; omega)).trans S5.out.2.2.1,(hal.cell (p:=⟨pb,po+k*2+1,none⟩) (by show pb<W5.heap.size; omega)).trans S5.out.2.2.2⟩, ?_⟩
   refine aR 8 rfl (by kernel_rfl) rfl (fun K hK=> ?_);go_wp2_with (at_builtin; go_must (refine bJ Tryz.appParts22 rfl _ _ rfl w.heap.size (.slice va k vc) k (aV (f.parts.take k)) rfl W5 [.string p.sum, .int .i64 p.size] _ rfl rfl (by simp[Value.oneCell']) HO5.out (by omega) (by omega) ?_); intro vp wc hown3 hg3 _ hpl3; obtain⟨ea,ec,rfl,-,-⟩:=aj hown3);have HX5:=aa ((HB5.out.block _ (by omega)).trans ((HFO.out.below.block w.heap.size (by omega)).trans HX.out))
   have HR5:=aa ((HB5.out.block _ (by omega)).trans ((HFO.out.below.block (w.heap.size+1) (by omega)).trans HR.out));have n0:(Value.slice va k vc).ownBlock≠some w.heap.size:=fun e1=>by
    obtain⟨cs2,hc2⟩:=az HO5.out e1;exact absurd (aC HX5.out hc2) (by decide)
   have n1:(Value.slice va k vc).ownBlock≠some (w.heap.size+1):=fun e1=>by
    obtain⟨cs2,hc2⟩:=az HO5.out e1;exact absurd (aC HR5.out hc2) (by decide)
   have n2:(Value.slice va k vc).ownBlock≠some (w.heap.size+1+1):=fun e1=>by
    obtain⟨cs2,hc2⟩:=az HO5.out e1;exact absurd (aC HY5.out hc2) (by decide)
   have n3:(Value.slice va k vc).ownBlock≠some pb:=fun e1=>by
    have:=(HO5.out.lt pb e1).1;omega
   have wcell: ∀i j,i<W5.heap.size->(Value.slice va k vc).ownBlock≠some i->wc.cell? ⟨i,j,none⟩=W5.cell? ⟨i,j,none⟩:=fun i j hi hne=>World.cell?_of_block (hg3.block i hi (fun e1=>hne e1.symm))
   have HYc:=aa ((hg3.block _ (lt_of_block HY5.out) (fun e1=>n2 e1.symm)).trans HY5.out);have hzc:=hg3.size;have HBc:=aa (show Below (w.heap.size+1+1) W2 wc from(HFO.out.below.trans (HB5.out.mono (by omega))).grown hg3 (by omega) (fun i e1=>by
    have h1:=(HO5.out.lt i e1).1;have h2:i≠w.heap.size:=fun e2=>n0 (e2▸e1)
    have h3:i≠w.heap.size+1:=fun e2=>n1 (e2▸e1)
    omega))
   have HOc:=aa (show wc.ownsRow w.heap.size 85 2 (.slice ea (k+1) ec) (k+1) (aV (f.parts.take (k+1))) by
    rw[aS HPK.out,rE]; exact hown3)
   have SC:=aa (show wc.cell? ⟨w.heap.size+1+1,6,none⟩=some (.slice va k vc)/\wc.cell? ⟨w.heap.size,6,none⟩=some (.slice (some ⟨pb,po,none⟩) n cap)/\wc.cell? ⟨pb,po+k*2,none⟩=some (.string p.sum)/\wc.cell? ⟨pb,po+k*2+1,none⟩=some (.int .i64 p.size)from
    ⟨(wcell _ _ (by omega) n2).trans S5.out.1,(wcell _ _ (by omega) n0).trans S5.out.2.1,(wcell _ _ (by omega) n3).trans S5.out.2.2.1,(wcell _ _ (by omega) n3).trans S5.out.2.2.2⟩)
   have k6:=SC.out.1;have f6:wc.frozen? ⟨w.heap.size+1+1,6,none⟩=false:=aF (k:=6) HYc.out;clear hown3 hg3 hpl3 n0 n1 n2 n3 wcell hal;refine⟨SC.out, ?_⟩;refine ag 9 rfl (by kernel_rfl) (by kernel_rfl) (by kernel_rfl) (fun _ _ _ h=>h) rfl SC.out (by rintro w' ⟨hw1,hw2,hw3,hw4⟩; go_simp; rfl) ?_;simp only[Act.put,aG,aH,aI];refine bN (by kernel_rfl) ?_;refine dr rfl rfl (fun K hK=> ?_)
   go_wp2_with fail
   go_roundw
   case rel=>
    refine⟨k+1, .slice ea (k+1) ec,by omega,rfl,⟨HBc.out.setCell (by show w.heap.size+1+1<=w.heap.size+1+1; omega) _, ?_,bo HOc.out (fun i hi hv=> ?_)⟩⟩
    ·rw[heap_setCell_same _ _ _ _ _ _ HYc.out]; rfl
    ·refine heap_setCell_other _ _ _ _ (fun e1=> ?_);obtain⟨cs2,hc2⟩:=az HOc.out hv;rw[show i=w.heap.size+1+1 from e1]at hc2;exact absurd (aC HYc.out hc2) (by decide)
   case measure=>simp only[intOf,Int.toNat_natCast]; omega
  ·have hkn:k=n:=by omega
   subst hkn;obtain⟨va,vc,rfl,-,-⟩:=aj HFO.out.own;have HYr:=aa HFO.out.box;have HRr:=aa ((HFO.out.below.block (w.heap.size+1) (by omega)).trans HR.out);have y0:=af (k:=0) HYr.out;have y1:=af (k:=1) HYr.out;have y2:=af (k:=2) HYr.out;have y3:=af (k:=3) HYr.out;have y4:=af (k:=4) HYr.out;have y5:=af (k:=5) HYr.out;have y6:=af (k:=6) HYr.out
   simp only[bI,List.getElem?_toArray,cj]at y0 y1 y2 y3 y4 y5 y6;have r0:=af (k:=0) HRr.out;have r1:=af (k:=1) HRr.out;have r2:=af (k:=2) HRr.out;have r3:=af (k:=3) HRr.out;have r4:=af (k:=4) HRr.out;have r5:=af (k:=5) HRr.out;have r6:=af (k:=6) HRr.out;simp only[List.getElem?_toArray,cj]at r0 r1 r2 r3 r4 r5 r6;have f0:wr.frozen? ⟨w.heap.size+1,0,none⟩=false:=aF (k:=0) HRr.out
   have f1:wr.frozen? ⟨w.heap.size+1,1,none⟩=false:=aF (k:=1) HRr.out;have f2:wr.frozen? ⟨w.heap.size+1,2,none⟩=false:=aF (k:=2) HRr.out;have f3:wr.frozen? ⟨w.heap.size+1,3,none⟩=false:=aF (k:=3) HRr.out;have f4:wr.frozen? ⟨w.heap.size+1,4,none⟩=false:=aF (k:=4) HRr.out;have f5:wr.frozen? ⟨w.heap.size+1,5,none⟩=false:=aF (k:=5) HRr.out
   have f6:wr.frozen? ⟨w.heap.size+1,6,none⟩=false:=aF (k:=6) HRr.out;go_wp2_with fail;have hn1:(Value.slice va k vc).ownBlock≠some (w.heap.size+1):=fun e1=>by
    obtain⟨cs2,hc2⟩:=az HFO.out.own e1;exact absurd (aC HRr.out hc2) (by decide)
   have HFIN:=aa (bo HFO.out.own (fun i _ hv=>vr (b:=w.heap.size+1) (x0:= .string f.path) (x1:= .int .i64 f.kind) (x2:= .int .i64 f.mode) (x3:= .int .i64 f.time) (x4:= .int .i64 f.size) (x5:= .string f.link) (x6:= .slice va k vc) (fun e1=>hn1 (e1▸hv))));have HBF:=aa (HBW.out.trans (HFO.out.below.mono (show w.heap.size<=w.heap.size+1+1 by omega)));have htk:f.parts.take k=f.parts:=List.take_of_length_le (by rw[<-HN.out]; exact Nat.le_refl _)
   rw[htk]at HFIN;refine bodyPost_ret (results_cell_row rfl _ _ (w.heap.size+1) _ _ _ _ rfl (BA HRr.out) Tryz.underlying42 rfl (by kernel_rfl)) rfl ?_;exact⟨_,rfl,HFIN.out,sL HBF.out (by omega)⟩
structure bE (w : World) (base : Nat) (fv : Value) (fs : List au) : Prop where
 row: ∃zs:List jl,zs.map Prod.snd=fs/\w.ownsRow base 42 7 fv zs.length (cJ zs)/\ ∀z∈zs,w.ownsRow base 85 2 z.1 z.2.parts.length (aV z.2.parts)/\cS z.2/\ ∀p∈z.2.parts,di p
theorem bE.nil (w:World) (base:Nat):bE w base (.slice none 0 0) []:=⟨[],rfl,World.ownsRow_nil _ _ _ _,by simp⟩
theorem bE.at {w:World} {base:Nat} {fv:Value} {fs:List au} (h:bE w base fv fs):aM (fun k=>base<=k) w fv fs:=by
 obtain⟨zs,rfl,h2,h3⟩:=h.row;refine⟨cJ zs, ?_,iv fun z hz=>⟨?_,(h3 z hz).2.1⟩⟩
 ·rw[List.length_map];exact(ba h2).weak fun k hk=>hk.1
 ·exact⟨_,(ba (h3 z hz).1).weak fun k hk=>hk.1,eP (h3 z hz).2.2⟩
theorem bE.same {w w':World} {base:Nat} {fv:Value} {fs:List au} (h:bE w base fv fs) (hs: ∀k cs t,k<w.heap.size->base<=k->w.heap[k]? =some (.cells cs t (0,0))->((t=42/\fv.ownBlock=some k)\/t=85)->w'.heap[k]? =w.heap[k]?):bE w' base fv fs:=by
 obtain⟨zs,h1,h2,h3⟩:=h.row;refine⟨zs,h1,bo h2 (fun k hk hv=> ?_),fun z hz=>⟨bo (h3 z hz).1 (fun k hk hv=> ?_),(h3 z hz).2⟩⟩
 ·obtain⟨cs,hc⟩:=az h2 hv;exact hs k cs _ hk (h2.lt k hv).1 hc (.inl ⟨rfl,hv⟩)
 ·obtain⟨cs,hc⟩:=az (h3 z hz).1 hv;exact hs k cs _ hk ((h3 z hz).1.lt k hv).1 hc (.inr rfl)
theorem bE.below {w w':World} {base:Nat} {fv:Value} {fs:List au} (h:bE w base fv fs) (hb:Below w.heap.size w w'):bE w' base fv fs:=h.same fun k _ _ hk _ _ _=>hb.block k hk
theorem bE.le {w:World} {base B:Nat} {fv:Value} {fs:List au} (h:bE w base fv fs) (hb:B<=base):bE w B fv fs:=by
 obtain⟨zs,h1,h2,h3⟩:=h.row;exact⟨zs,h1,bz h2 hb,fun z hz=>⟨bz (h3 z hz).1 hb,(h3 z hz).2⟩⟩
theorem Tryz.appFiles22 :cB Tryz.prog 34 42 7 88:=cB.mk' (z:=kA) Tryz.underlying34 (by kernel_rfl) rfl (by decide) (by decide)
theorem yQ {w:World} (o p q:Obj):Below w.heap.size w (((w.alloc o).alloc p).alloc q)/\(((w.alloc o).alloc p).alloc q).heap.size=w.heap.size+3/\(((w.alloc o).alloc p).alloc q).heap[w.heap.size]? =some o/\(((w.alloc o).alloc p).alloc q).heap[w.heap.size+1]? =some p/\(((w.alloc o).alloc p).alloc q).heap[w.heap.size+1+1]? =some q:=by
 have e1:(w.alloc o).heap.size=w.heap.size+1:=by simp
 have e2:((w.alloc o).alloc p).heap.size=w.heap.size+1+1:=by simp
 refine⟨(((Below.refl _ _).alloc (Nat.le_refl _) _).alloc (by omega) _).alloc (by omega) _,by simp, ?_, ?_, ?_⟩
 ·rw[heap_alloc_old _ _ (by omega),heap_alloc_old _ _ (by omega)]; exact heap_alloc_new w _
 ·rw[heap_alloc_old _ _ (by omega),<-e1]; exact heap_alloc_new _ _
 ·rw[<-e2]; exact heap_alloc_new _ _
theorem Bn {w:World} {b:Nat} {a0 a1 x0 x1:Value} {t:TypeId} (h:w.heap[b]? =some (.cells #[a0,a1] t (0,0))):((w.setCell ⟨b,0,none⟩ x0).setCell ⟨b,1,none⟩ x1).heap[b]? =some (.cells #[x0,x1] t (0,0)):=by
 have h2:=heap_setCell_same _ b 1 _ _ x1 (heap_setCell_same _ b 0 _ _ x0 h)
 simpa using h2
structure Bv (w W2 wr : World) (b : Nat) (x : dn) (v : Value) (k : Nat) : Prop where
 below:Below b W2 wr
 box:wr.heap[b]? =some (.cells #[.int .i64 x.tm,v] 36 (0,0))
 own:bE wr w.heap.size v (x.files.take k)
theorem iz (S:Nat->Prop) (x:dn) (fv:Value) (w:World) (hx:aM S w fv x.files) (hlen:x.files.length<=1048576) (hpl: ∀f∈x.files,f.parts.length<=1048576) (hpo: ∀f∈x.files,∀p∈f.parts,di p):Calls Tryz.prog 14 #[dY fv x.tm] w fun e w'=> ∃fv2,e= .returned (dY fv2 x.tm)/\bE w' w.heap.size fv2 x.files/\Below w.heap.size w w':=by
 obtain⟨a,cap,rfl,hc,hm,-⟩:=aP.shape hx dB.len;have HX0:=aa hx;have HPL:=aa hpl;have HPO:=aa hpo;clear hx hpl hpo;obtain⟨n,hn⟩: ∃n,n=x.files.length:=⟨_,rfl⟩;rw[<-hn]at HX0 hlen ⊢;have HN:=aa hn;clear hn hc hm;unfold dY
 go_enter Tryz.func14,Tryz.ntmps14
 go_upto_region 2 with fail
 obtain⟨W2,hW2⟩: ∃W2,W2=((w.alloc (.cells #[.int .i64 x.tm, .slice a n cap] 24)).alloc (.cells #[.int .i64 0, .slice none 0 0] 36)).alloc (.cells #[.int .i64 x.tm, .slice none 0 0] 36):=⟨_,rfl⟩;rw[<-hW2];obtain⟨hb,hzl,hX,hR,hY⟩:=yQ (w:=w) (.cells #[.int .i64 x.tm, .slice a n cap] 24) (.cells #[.int .i64 0, .slice none 0 0] 36) (.cells #[.int .i64 x.tm, .slice none 0 0] 36)
 rw[<-hW2]at hb hzl hX hR hY;have HBW:=aa hb;have HX:=aa hX;have HR:=aa hR;have HY:=aa hY;clear hW2 hb hX hR hY;go_wp2_with fail
 go_loopw [4] (fun i wr=> ∃(k:Nat) (v:Value),k<=n/\i= .int .i64 k/\Bv w W2 wr (w.heap.size+1+1) x v k) (fun i _=>n-(intOf i).toNat)
 case atStart=>exact⟨0, .slice none 0 0,Nat.zero_le _,rfl,⟨Below.refl _ _,HY.out,bE.nil _ _⟩⟩
 case round=>
  obtain⟨k,v,hk,rfl,hfo⟩:=hrel;have HFO:=aa hfo;have p1:=(hfo.below.cell (p:=⟨w.heap.size,1,none⟩) (by show w.heap.size<w.heap.size+1+1; omega)).trans (af (k:=1) HX.out);have hzr:=hfo.below.size;simp only[List.getElem?_toArray,cj]at p1;clear hfo
  by_cases hlt:k<n
  ·obtain⟨f,hfk⟩: ∃f,x.files[k]? =some f:=⟨_,List.getElem?_eq_getElem (show k<x.files.length by rw[<-HN.out]; exact hlt)⟩;obtain⟨zs,hzs,hzo,hzp⟩:=HFO.out.own.row;have hzl2:zs.length=k:=by
    have h1:=congrArg List.length hzs;rw[List.length_map,List.length_take,<-HN.out]at h1; omega
   have HZS:=aa hzs;have HZP:=aa hzp;rw[hzl2]at hzo;obtain⟨va,vc,rfl,-,-⟩:=aj hzo;have HZO:=aa hzo;clear hzs hzp hzo
   go_upto_region 5 with fail
   obtain⟨W5,hW5⟩: ∃W5:World,W5=wr.drew:=⟨_,rfl⟩;have HB5:=aa (show Below wr.heap.size wr W5 by rw[hW5]; exact(Below.refl _ _).drew);have HBr:=aa (show Below w.heap.size w wr from HBW.out.trans (HFO.out.below.mono (by omega)));have HB05:=aa (HBr.out.trans (HB5.out.mono HBr.out.size));obtain⟨pb,po,pa,pc,hpa,hfok,hpp,hpb,-,hcl⟩:=cW HX0.out HB05.out hfk;subst hpa
   have HPP:=aa hpp;have hb2:w.heap.size+1+1<wr.heap.size:=lt_of_block HFO.out.box;have k1:=(HB5.out.cell (p:=⟨w.heap.size+1+1,1,none⟩) hb2).trans (af (k:=1) HFO.out.box);have p1':=(HB5.out.cell (p:=⟨w.heap.size,1,none⟩) (by show w.heap.size<wr.heap.size; omega)).trans p1;simp only[List.getElem?_toArray,cj]at k1;have S5:=aa (And.intro k1 (And.intro p1' hcl))
   have HO5:=aa (aK HZO.out HB5.out);have HY5:=aa ((HB5.out.block _ hb2).trans HFO.out.box);have hz5:=HB5.out.size;have HFK:=aa hfk;have HOK:=aa hfok;clear k1 p1 p1' hcl hfk hfok hpp;refine dd (fun w'=>w'.cell? ⟨w.heap.size+1+1,1,none⟩=some (.slice va k vc)/\w'.cell? ⟨w.heap.size,1,none⟩=some (.slice (some ⟨pb,po,none⟩) n cap)/\ ∀j,j<7->w'.cell? ⟨pb,po+k*7+j,none⟩=(bI (.slice pa f.parts.length pc) f)[j]?) (by kernel_rfl) (by kernel_rfl) ?_
   simp only[List.dropLast_cons_cons,List.dropLast_singleton,List.length_cons,List.length_nil,Nat.reduceAdd,Nat.reduceSub];rw[<-hW5];clear hW5;refine ag 0 rfl (by kernel_rfl) (by kernel_rfl) (by kernel_rfl) (fun _ _ _ h=>h) rfl S5.out (by rintro w' ⟨hw1,hw2,hw3⟩; go_simp; rfl) ?_;simp only[Act.put,aG,aH,aI];refine ag 1 rfl (by kernel_rfl) (by kernel_rfl) (by kernel_rfl) (fun _ _ _ h=>h) rfl S5.out (by rintro w' ⟨hw1,hw2,hw3⟩; go_simp; rfl) ?_
   simp only[Act.put,aG,aH,aI];refine ag 2 rfl (by kernel_rfl) (by kernel_rfl) (by kernel_rfl) (fun _ _ _ h=>h) rfl S5.out (by rintro w' ⟨hw1,hw2,hw3⟩; go_simp; rfl) ?_;simp only[Act.put,aG,aH,aI];refine ag 3 rfl (by kernel_rfl) (by kernel_rfl) (by kernel_rfl) (fun _ _ _ h=>h) rfl S5.out (by rintro w' ⟨hw1,hw2,hw3⟩; go_simp; rfl) ?_;simp only[Act.put,aG,aH,aI]
   refine ag 4 rfl (by kernel_rfl) (by kernel_rfl) (by kernel_rfl) (fun _ _ _ h=>h) rfl S5.out (by rintro w' ⟨hw1,hw2,hw3⟩; go_simp; rfl) ?_;simp only[Act.put,aG,aH,aI];refine ag 5 rfl (by kernel_rfl) (by kernel_rfl) (by kernel_rfl) (fun _ _ _ h=>h) rfl S5.out (by rintro w' ⟨hw1,hw2,hw3⟩; go_simp; rfl) ?_;simp only[Act.put,aG,aH,aI];refine ag 6 rfl (by kernel_rfl) (by kernel_rfl) (by kernel_rfl) (fun _ _ _ h=>h) rfl S5.out (by rintro w' ⟨hw1,hw2,hw3⟩; have o0:=hw3 0 (by omega); have o1:=hw3 1 (by omega); have o2:=hw3 2 (by omega); have o3:=hw3 3 (by omega); have o4:=hw3 4 (by omega); have o5:=hw3 5 (by omega); have o6:=hw3 6 (by omega); simp only[bI,cj,Nat.add_zero]at o0 o1 o2 o3 o4 o5 o6; clear hw3; go_simp; rfl) ?_
   simp only[Act.put,aG,aH,aI];refine aR 7 rfl (by kernel_rfl) rfl (fun K hK=> ?_);go_wp2_with (refine(sV _ f (.slice pa f.parts.length pc) _ (HPP.out) (HPL.out f (List.mem_of_getElem? HFK.out))).mono ?_; rintro e w6 ⟨pv2,rfl,ho6,hb6⟩; obtain⟨qa,qc,rfl,-,-⟩:=aj ho6; unfold dC; have HO6:=aa ho6; have HB6:=aa hb6; clear ho6 hb6);have hb6:=HB6.out;have hz6:=hb6.size
   have hb3:w.heap.size+1+1<W5.heap.size:=by omega
   have S6:=aa (show w6.cell? ⟨w.heap.size+1+1,1,none⟩=some (.slice va k vc)/\w6.cell? ⟨w.heap.size,1,none⟩=some (.slice (some ⟨pb,po,none⟩) n cap)/\ ∀j,j<7->w6.cell? ⟨pb,po+k*7+j,none⟩=(bI (.slice pa f.parts.length pc) f)[j]? from
    ⟨(hb6.cell (p:=⟨w.heap.size+1+1,1,none⟩) hb3).trans S5.out.1,(hb6.cell (p:=⟨w.heap.size,1,none⟩) (by show w.heap.size<W5.heap.size; omega)).trans S5.out.2.1,fun j hj=>(hb6.cell (p:=⟨pb,po+k*7+j,none⟩) (by show pb<W5.heap.size; omega)).trans (S5.out.2.2 j hj)⟩)
   clear hb6;refine⟨S6.out, ?_⟩;refine aR 8 rfl (by kernel_rfl) rfl (fun K hK=> ?_);go_wp2_with fail;have hal:=(Below.refl w6.heap.size w6).alloc (Nat.le_refl _) (.cells #[.string f.path, .int .i64 f.kind, .int .i64 f.mode, .int .i64 f.time, .int .i64 f.size, .string f.link, .slice qa f.parts.length qc] 42);refine⟨⟨(hal.cell (p:=⟨w.heap.size+1+1,1,none⟩) (by show w.heap.size+1+1<w6.heap.size; omega)).trans S6.out.1,(hal.cell (p:=⟨w.heap.size,1,none⟩) (by show w.heap.size<w6.heap.size; omega)).trans S6.out.2.1,fun j hj=>(hal.cell (p:=⟨pb,po+k*7+j,none⟩) (by show pb<w6.heap.size; omega)).trans (S6.out.2.2 j hj)⟩, ?_⟩
   refine aR 9 rfl (by kernel_rfl) rfl (fun K hK=> ?_);have HZ6:=aa (aK HO5.out HB6.out);go_wp2_with (at_builtin; go_must (refine bJ Tryz.appFiles22 rfl _ _ rfl w.heap.size (.slice va k vc) k (cJ zs) rfl w6 [.string f.path, .int .i64 f.kind, .int .i64 f.mode, .int .i64 f.time, .int .i64 f.size, .string f.link, .slice qa f.parts.length qc] _ rfl rfl (gq (f:=f)) HZ6.out (by omega) (by omega) ?_); intro vp wc hown3 hg3 _ hpl3; obtain⟨ea,ec,rfl,-,-⟩:=aj hown3)
   have HX6:=aa ((HB6.out.block _ (by omega)).trans ((HB5.out.block _ (by omega)).trans ((HFO.out.below.block w.heap.size (by omega)).trans HX.out)));have HR6:=aa ((HB6.out.block _ (by omega)).trans ((HB5.out.block _ (by omega)).trans ((HFO.out.below.block (w.heap.size+1) (by omega)).trans HR.out)));have HY6:=aa ((HB6.out.block _ hb3).trans HY5.out);have n0:(Value.slice va k vc).ownBlock≠some w.heap.size:=fun e1=>by
    obtain⟨cs2,hc2⟩:=az HZ6.out e1;exact absurd (aC HX6.out hc2) (by decide)
   have n1:(Value.slice va k vc).ownBlock≠some (w.heap.size+1):=fun e1=>by
    obtain⟨cs2,hc2⟩:=az HZ6.out e1;exact absurd (aC HR6.out hc2) (by decide)
   have n2:(Value.slice va k vc).ownBlock≠some (w.heap.size+1+1):=fun e1=>by
    obtain⟨cs2,hc2⟩:=az HZ6.out e1;exact absurd (aC HY6.out hc2) (by decide)
   have n3:(Value.slice va k vc).ownBlock≠some pb:=fun e1=>by
    have:=(HZ6.out.lt pb e1).1;omega
   have wcell: ∀i j,i<w6.heap.size->(Value.slice va k vc).ownBlock≠some i->wc.cell? ⟨i,j,none⟩=w6.cell? ⟨i,j,none⟩:=fun i j hi hne=>World.cell?_of_block (hg3.block i hi (fun e1=>hne e1.symm))
   have HYc:=aa ((hg3.block _ (lt_of_block HY6.out) (fun e1=>n2 e1.symm)).trans HY6.out);have hzc:=hg3.size;have HBc:=aa (show Below (w.heap.size+1+1) W2 wc from((HFO.out.below.trans (HB5.out.mono (by omega))).trans (HB6.out.mono (by omega))).grown hg3 (by omega) (fun i e1=>by
    have h1:=(HZ6.out.lt i e1).1;have h2:i≠w.heap.size:=fun e2=>n0 (e2▸e1)
    have h3:i≠w.heap.size+1:=fun e2=>n1 (e2▸e1)
    omega))
   have keep: ∀(u:Value) (m:Nat) (cs:List Value),w6.ownsRow w.heap.size 85 2 u m cs->wc.ownsRow w.heap.size 85 2 u m cs:=fun u m cs hu=>bo hu (fun i hi hv=>hg3.block i hi (fun e1=>by
    obtain⟨cs2,hc2⟩:=az hu hv;obtain⟨cs3,hc3⟩:=az HZ6.out e1.symm;exact absurd (aC hc2 hc3) (by decide)))
   have HOc:=aa (show bE wc w.heap.size (.slice ea (k+1) ec) (x.files.take (k+1))from by
    refine⟨zs++[(.slice qa f.parts.length qc,f)], ?_, ?_, ?_⟩
    ·rw[aS HFK.out,List.map_append,HZS.out]; rfl
    ·rw[List.length_append,List.length_singleton,hzl2,lh]; exact hown3
    ·intro z hz
     rcases List.mem_append.1 hz with hz | hz
     ·obtain⟨h1,h2⟩:=HZP.out z hz;exact⟨keep _ _ _ (aK (aK h1 HB5.out) HB6.out),h2⟩
     ·obtain rfl:=List.mem_singleton.1 hz;exact⟨keep _ _ _ (bz HO6.out (by omega)),HOK.out,HPO.out f (List.mem_of_getElem? HFK.out)⟩)
   have SC:=aa (show wc.cell? ⟨w.heap.size+1+1,1,none⟩=some (.slice va k vc)/\wc.cell? ⟨w.heap.size,1,none⟩=some (.slice (some ⟨pb,po,none⟩) n cap)/\ ∀j,j<7->wc.cell? ⟨pb,po+k*7+j,none⟩=(bI (.slice pa f.parts.length pc) f)[j]? from
    ⟨(wcell _ _ (by omega) n2).trans S6.out.1,(wcell _ _ (by omega) n0).trans S6.out.2.1,fun j hj=>(wcell _ _ (by omega) n3).trans (S6.out.2.2 j hj)⟩)
   have k1:=SC.out.1;have f1:wc.frozen? ⟨w.heap.size+1+1,1,none⟩=false:=aF (k:=1) HYc.out;clear hown3 hg3 hpl3 n0 n1 n2 n3 wcell hal keep;refine⟨SC.out, ?_⟩;refine ag 10 rfl (by kernel_rfl) (by kernel_rfl) (by kernel_rfl) (fun _ _ _ h=>h) rfl SC.out (by rintro w' ⟨hw1,hw2,hw3⟩; go_simp; rfl) ?_;simp only[Act.put,aG,aH,aI];refine bN (by kernel_rfl) ?_;refine dr rfl rfl (fun K hK=> ?_)
   go_wp2_with fail
   go_roundw
   case rel=>
    refine⟨k+1, .slice ea (k+1) ec,by omega,rfl,⟨HBc.out.setCell (by show w.heap.size+1+1<=w.heap.size+1+1; omega) _, ?_,HOc.out.same (fun i cs t hi hB hc ht=> ?_)⟩⟩
    ·rw[heap_setCell_same _ _ _ _ _ _ HYc.out]; rfl
    ·refine heap_setCell_other _ _ _ _ (fun e1=> ?_);rw[show i=w.heap.size+1+1 from e1]at hc;have h1:=aC HYc.out hc
     rcases ht with ht | ht
     ·rw[ht.1]at h1; exact absurd h1 (by decide)
     ·rw[ht]at h1; exact absurd h1 (by decide)
   case measure=>simp only[intOf,Int.toNat_natCast]; omega
  ·have hkn:k=n:=by omega
   subst hkn;obtain⟨va,vc,hv⟩: ∃va vc,v= .slice va k vc:=by
    obtain⟨zs,hzs,hz,-⟩:=HFO.out.own.row;obtain⟨va,vc,rfl,-,-⟩:=aj hz;have h1:=congrArg List.length hzs;rw[List.length_map,List.length_take,<-HN.out,Nat.min_self]at h1;rw[h1];exact⟨va,vc,rfl⟩
   subst hv;have HYr:=aa HFO.out.box;have HRr:=aa ((HFO.out.below.block (w.heap.size+1) (by omega)).trans HR.out);have y0:=af (k:=0) HYr.out;have y1:=af (k:=1) HYr.out;simp only[List.getElem?_toArray,cj]at y0 y1;have r0:=af (k:=0) HRr.out;have r1:=af (k:=1) HRr.out;simp only[List.getElem?_toArray,cj]at r0 r1;have f0:wr.frozen? ⟨w.heap.size+1,0,none⟩=false:=aF (k:=0) HRr.out
   have f1:wr.frozen? ⟨w.heap.size+1,1,none⟩=false:=aF (k:=1) HRr.out;go_wp2_with fail;have HFIN:=aa (show bE ((wr.setCell ⟨w.heap.size+1,0,none⟩ (.int .i64 x.tm)).setCell ⟨w.heap.size+1,1,none⟩ (.slice va k vc)) w.heap.size (.slice va k vc) (x.files.take k)from HFO.out.own.same (fun i cs t hi hB hc ht=>by
    have hne:i≠w.heap.size+1:=fun e1=>by
     rw[e1]at hc;have h1:=aC HRr.out hc
     rcases ht with ht | ht
     ·rw[ht.1]at h1; exact absurd h1 (by decide)
     ·rw[ht]at h1; exact absurd h1 (by decide)
    exact(Below.heap_setCell _ _ _ _ hne).trans (Below.heap_setCell _ _ _ _ hne)))
   have HBF:=aa (HBW.out.trans (HFO.out.below.mono (show w.heap.size<=w.heap.size+1+1 by omega)));have htk:x.files.take k=x.files:=List.take_of_length_le (by rw[<-HN.out]; exact Nat.le_refl _);rw[htk]at HFIN;refine bodyPost_ret (results_cell_row rfl _ _ (w.heap.size+1) _ _ _ _ rfl (Bn HRr.out) Tryz.underlying36 rfl (by kernel_rfl)) rfl ?_;exact⟨_,rfl,HFIN.out,(HBF.out.setCell (by show w.heap.size<=w.heap.size+1; omega) _).setCell (by show w.heap.size<=w.heap.size+1; omega) _⟩
end Go.Proofs.YtnjkpcalgoefhaaGreatDoor
namespace Go.Proofs.YtnjkpcalgoefhaaGreatDoor
open Go.RowKit Go.Maps
def dq :List bi->ByteArray->Nat->Int
 | [],_,_=> -1
 | e::L,p,i=>if e.path=p then(i:Int)else dq L p (i+1)
theorem qS {L:List bi} {p:ByteArray} {k:Nat} {e:bi} (h:L[k]? =some e):dq (L.drop k) p k=if e.path=p then(k:Int)else dq (L.drop (k+1)) p (k+1):=by
 obtain⟨hk,he⟩:=List.getElem?_eq_some_iff.1 h;rw[List.drop_eq_getElem_cons hk,dq,he]
theorem lj {p:ByteArray} : ∀(L:List bi) (i:Nat),(dD L p=none/\dq L p i= -1)\/ ∃j e,dD L p=some e/\L[j]? =some e/\dq L p i=((i+j:Nat):Int)
 | [],i=> .inl ⟨rfl,rfl⟩
 | e::L,i=>by
  by_cases h:e.path=p
  ·right
   refine⟨0,e, ?_,rfl, ?_⟩
   ·unfold dD; rw[List.find?_cons_of_pos (by simp[h])]
   ·rw[dq,if_pos h]; simp
  ·have hf:dD (e::L) p=dD L p:=by unfold dD; rw[List.find?_cons_of_neg (by simp[h])]
   rw[dq,if_neg h,hf]
   rcases lj L (i+1)with h1 | ⟨j,f,h1,h2,h3⟩
   ·exact .inl h1
   ·exact .inr ⟨j+1,f,h1,by simpa using h2,by rw[h3]; congr 1; omega⟩
theorem tD (S:Nat->Prop) (L:List bi) (v:Value) (p:ByteArray) (w:World) (hv:bG S w v L):
  Calls Tryz.prog 104 #[v, .string p] w fun e w'=>e= .returned (.int .i64 (dq L p 0))/\Below w.heap.size w w':=by
 have HV:=aa hv;obtain⟨a,cap,rfl,hc,hm,-⟩:=aP.shape hv jx.len;obtain⟨n,hn⟩: ∃n,n=L.length:=⟨_,rfl⟩;have HN:=aa hn;rw[<-hn]at HV hc ⊢;unfold maxLen at hm;clear hv hn
 go_enter Tryz.func104,Tryz.ntmps104
 go_wp2_with fail
 go_loopw [5,9] (fun _ i wr=> ∃k:Nat,k<=n/\i= .int .i64 k/\dq L p 0=dq (L.drop k) p k/\Below w.heap.size w wr) (fun _ i _=>n-(intOf i).toNat)
 case atStart=>exact⟨0,Nat.zero_le _,rfl,rfl,Below.refl _ _⟩
 case round=>
  obtain⟨k,hk,rfl,hfi,hbr⟩:=hrel;have HFI:=aa hfi;have HBR:=aa hbr
  by_cases hlt:k<n
  ·obtain⟨e,he⟩: ∃e,L[k]? =some e:=⟨L[k]'(by rw[<-HN.out]; exact hlt),by simp⟩;obtain⟨b,o,dv,rfl,-,hb,hd,-,-,q0,q1,q2,q3,q4,q5⟩:=gE (HV.out.below hbr) he;obtain⟨_,ad,cd,rfl,hcd,hmd,-⟩:=hd;have HAT:=aa (qS (p:=p) he);clear he hfi hbr
   by_cases hp:e.path=p
   ·have e1:(e.path.toList == p.toList)=true:=by rw[hp]; simp
    have HR:=aa (show dq L p 0=(k:Int) by rw[HFI.out,HAT.out,if_pos hp]);clear hp;go_wp2_with fail;go_ret;exact⟨bd HR.out.symm,ac HBR.out ((Below.refl _ _).alloc (Nat.le_refl _) _)⟩
   ·have e1:(e.path.toList == p.toList)=false:=by
     rw[beq_eq_false_iff_ne]; intro h; exact hp (fC (by rw[<-aX,<-aX]; exact h))
    have HR:=aa (show dq L p 0=dq (L.drop (k+1)) p (k+1) by rw[HFI.out,HAT.out,if_neg hp]);clear hp;go_wp2_with fail
    go_roundw
    case rel=>exact⟨k+1,by omega,by go_num,HR.out,ac HBR.out ((Below.refl _ _).alloc (Nat.le_refl _) _)⟩
    case measure=>simp[intOf]; omega
  ·have HR:=aa (show dq L p 0= -1 by rw[HFI.out,List.drop_of_length_le (by rw[<-HN.out]; omega)]; rfl);clear hfi hbr;go_wp2_with fail;go_ret;exact⟨bd HR.out.symm,HBR.out⟩
end Go.Proofs.YtnjkpcalgoefhaaGreatDoor
namespace Go.Proofs.YtnjkpcalgoefhaaGreatDoor
open Go.RowKit
theorem zV (l:List UInt8):(qd l).length<=4*l.length:=by
 have h1:=dP l;have: ∀rs:List Int,(rs.flatMap Lib.encodeRune).length<=4*rs.length:=by
  intro rs
  induction rs with
  | nil=>simp
  | cons r rs ih=>rw[List.flatMap_cons,List.length_append,List.length_cons]; have:=mC r; omega
 have h2:=this (aU l);unfold qd; omega
theorem qI (s:ByteArray) (pos:Nat):Lib.decodeL ((bl s).drop pos)=Utf8.decode s pos:=Lib.decodeL_drop s pos
theorem zw {s:ByteArray} {pos:Nat} (h:pos<s.size):(bl s).drop pos≠[]:=by
 intro e; have:=List.drop_eq_nil_iff.1 e; rw[<-am]at this; omega
theorem wU {s o:ByteArray} {pos:Nat} (hp:pos<s.size) (h:bl o++qd ((bl s).drop pos)=qd (bl s)):
  bl (o++Utf8.encode ((Utf8.decode s pos).1:Int))++qd ((bl s).drop (pos+(Utf8.decode s pos).2))=qd (bl s):=by
 rw[iT,<-h,rP _ (zw hp),qI,List.drop_drop,<-sU,uv,List.append_assoc]
theorem tE (s:ByteArray) (w:World) (hs:s.size<=16777216):
  Calls Tryz.prog 185 #[.string s] w fun e w'=>e= .returned (.bool (Lib.validD (bl s)))/\Below w.heap.size w w':=by
 go_enter Tryz.func185,Tryz.ntmps185
 go_wp2
 go_loopw [3] (fun v wr=> ∃(pos:Nat) (o:ByteArray),v= .string o/\wr=w.iter s pos/\o.size<=67108864/\bl o++qd ((bl s).drop pos)=qd (bl s)) (fun _ wr=>s.size-wr.iterPos w.heap.size)
 case atStart=>exact⟨0,⟨#[]⟩,rfl,rfl,by simp[ByteArray.size],by simp[bl]⟩
 case round=>
  obtain⟨pos,o,rfl,rfl,ho,hrel2⟩:=hrel;have HR:=aa hrel2;clear hrel2
  by_cases hp:pos<s.size
  ·have hnx: ∀ty,(Instr.next (.pointer (some ⟨w.heap.size,0,none⟩)) true ty).run Tryz.prog (w.iter s pos)=_:=fun ty=>run_next_any w s pos ty hp
   obtain⟨r,hr⟩: ∃r,r=(Utf8.decode s pos).1:=⟨_,rfl⟩;obtain⟨E,hE⟩: ∃E,E=Utf8.encode (r:Int):=⟨_,rfl⟩;have hcv: ∀w',(convert 21 9 (.int .i32 (r:Int))).run Tryz.prog w'= .ok (.string E) w':=fun w'=>by rw[hE]; exact run_convert_int_string w' _ _ .i32 _ (by rw[Tryz.underlying21]; rfl) Tryz.underlying9
   have hE4:E.size<=4:=by rw[hE]; exact encode_size_le _
   simp only[<-hr]at hnx;have HE:=aa hE;have HRR:=aa hr;clear hE hr
   go_wp2
   go_roundw
   case rel=>
    have hn:bl (o++E)++qd ((bl s).drop (pos+(Utf8.decode s pos).2))=qd (bl s):=by rw[HE.out,HRR.out]; exact wU hp HR.out
    refine⟨pos+(Utf8.decode s pos).2,o++E,rfl,rfl, ?_,hn⟩;have h1:=congrArg List.length hn;have h2:=zV (bl s);rw[List.length_append,<-am]at h1;rw[<-am]at h2;omega
   case measure=>
    rw[World.iterPos_iter,World.iterPos_iter];have:=Lib.width_pos s pos;omega
  ·have hnx: ∀ty,(Instr.next (.pointer (some ⟨w.heap.size,0,none⟩)) true ty).run Tryz.prog (w.iter s pos)=_:=fun ty=>run_next_end w s pos ty hp
   go_wp2
   go_ret;refine⟨ak ?_,(Below.refl _ _).alloc (Nat.le_refl _) _⟩;have h1:bl o=qd (bl s):=by
    rw[<-HR.out,List.drop_eq_nil_of_le (by rw[<-am]; omega),qe,List.append_nil]
   rw[aX,aX,h1];exact vT (bl s)
theorem rz {s:ByteArray} {j:Nat} (hj:j<s.size) (h:(s[j].toNat:Int)<32):ja (bl s)=false:=by
 refine rA hj ?_;rw[jD s j hj,<-dR s j hj]; omega
theorem rM (s:ByteArray) (w:World) (hs:s.size<=16777216):
  Calls Tryz.prog 163 #[.string s] w fun e w'=>e= .returned (.bool (ju (bl s)))/\Below w.heap.size w w':=by
 go_enter Tryz.func163,Tryz.ntmps163
 go_wp2
 go_loop [3] (fun i=> ∃k:Nat,k<=s.size/\i= .int .i64 k/\ ∀j,j<k->j<s.size->32<=(s.get! j).toNat) (fun i=>s.size-(intOf i).toNat)
 case atStart=>exact⟨0,Nat.zero_le _,rfl,fun j hj=>by omega⟩
 case round=>
  obtain⟨k,hk,rfl,hlow⟩:=hrel;have HL:=aa hlow;clear hlow
  by_cases hp:k<s.size
  ·go_wp2
   ·have hlt:(s[k].toNat:Int)<32:=by assumption
    go_ret;exact⟨ak (by simp[ju,rz hp hlt]),Below.refl _ _⟩
   ·have hge:(32:Int)<=(s[k].toNat:Int):=by assumption
    go_round
    case rel=>
     refine⟨k+1,by omega,by go_num,fun j hj hjs=> ?_⟩
     rcases Nat.lt_or_ge j k with h | h
     ·exact HL.out j h hjs
     ·obtain rfl:j=k:=by omega
      rw[jD s j hp,<-dR s j hp]; omega
    case measure=>simp[intOf]<;> omega
  ·go_wp2_with (go_at_call 185; refine(tE s _ hs).mono ?_; rintro e w' ⟨rfl,hb⟩);go_ret;refine⟨ak ?_,hb⟩;simp only[ju,uK (fun j hj=>HL.out j (by omega) hj),Bool.true_and]
def xe (c:UInt8) (s:ByteArray) (w:World) (e:Ending) (w':World):Prop:=
 ∃v xs,e= .returned v/\xs.map bl=ax c (bl s)/\bK (w.heap.size<= ·) w' v xs/\Below w.heap.size w w'
theorem qN {s:ByteArray} {c:UInt8} {ys:List ByteArray} {f k:Nat} (hk:k<s.size) (hf:f<=k) (h:ax c (bl s)=ys.map bl++ax c ((bl s).drop f)) (hn: ∀j,f<=j->j<k->(s.get! j)≠c) (hc:s[k]=c):
  ax c (bl s)=(ys++[s.extract f k]).map bl++ax c ((bl s).drop (k+1)):=by
 have hk2:k<(bl s).length:=by rw[<-am]; exact hk
 have e:(bl s).drop f=bl (s.extract f k)++c::(bl s).drop (k+1):=by
  rw[gB,<-hc,dR s k hk,List.getElem_cons_drop,List.drop_take];have h2:=List.take_append_drop (k-f) ((bl s).drop f);rw[List.drop_drop,show f+(k-f)=k by omega]at h2;exact h2.symm
 have hm:c∉bl (s.extract f k):=by
  intro hm;obtain⟨j,hj,ej⟩:=List.getElem_of_mem hm;simp only[gB]at hj ej;rw[List.length_drop,List.length_take]at hj;rw[List.getElem_drop,List.getElem_take]at ej;exact hn (f+j) (by omega) (by omega) (by rw[jD s _ (by omega)]; exact ej)
 rw[h,e,eI _ _ _ hm]; simp
theorem qM {s:ByteArray} {c:UInt8} {ys:List ByteArray} {f:Nat} (hf:f<=s.size) (h:ax c (bl s)=ys.map bl++ax c ((bl s).drop f)) (hn: ∀j,f<=j->j<s.size->(s.get! j)≠c):
  ax c (bl s)=(ys++[s.extract f s.size]).map bl:=by
 have e:(bl s).drop f=bl (s.extract f s.size):=by rw[gB,am,List.take_length]
 have hm:c∉(bl s).drop f:=by
  intro hm;obtain⟨j,hj,ej⟩:=List.getElem_of_mem hm;rw[List.length_drop,<-am]at hj;rw[List.getElem_drop]at ej;exact hn (f+j) (by omega) (by omega) (by rw[jD s _ (by omega)]; exact ej)
 rw[h,dz _ _ hm,e]; simp
theorem gJ (s:ByteArray) (w:World) (hs:s.size<=16777216):Calls Tryz.prog 105 #[.string s] w (xe 47 s w):=by
 go_enter Tryz.func105,Tryz.ntmps105
 go_wp2_with fail
 go_loopw [3,4,5] (fun v fr i wr=> ∃(k f:Nat) (ys:List ByteArray),k<=s.size+1/\f<=k/\ys.length<=k/\i= .int .i64 k/\fr= .int .i64 f/\wr.ownsRow w.heap.size 9 1 v ys.length (ys.map Value.string)/\Below w.heap.size w wr/\
   (k<=s.size->ax 47 (bl s)=ys.map bl++ax 47 ((bl s).drop f)/\ ∀j,f<=j->j<k->(s.get! j)≠47)/\(k=s.size+1->ax 47 (bl s)=ys.map bl)) (fun _ _ i _=>s.size+1-(intOf i).toNat)
 case atStart=>exact⟨0,0,[],Nat.zero_le _,Nat.le_refl _,Nat.le_refl _,rfl,rfl,World.ownsRow_nil _ _ _ _,Below.refl _ _,fun _=>⟨by simp,fun j _ hj=>by omega⟩,fun h=>by omega⟩
 case round=>
  obtain⟨k,f,ys,hk,hf,hy,rfl,rfl,hown,hb,hr1,hr2⟩:=hrel;have HO:=aa hown;have HB:=aa hb;have HR1:=aa hr1;have HR2:=aa hr2;have hsz:w.heap.size<=wr.heap.size:=hb.size;clear hown hb hr1 hr2
  by_cases hle:k<=s.size
  ·by_cases hlt:k<s.size
   ·have e1:((k:Int) == (s.size:Int))=false:=by rw[beq_eq_false_iff_ne]; omega
    by_cases hc:s[k]=47
    ·have e2:((s[k].toNat:Int) == (47:UInt8).toNat)=true:=by rw[hc]; rfl
     have e2':((s[k].toNat:Int) == 47)=true:=e2;have HCC:=aa hc;clear hc e2;go_wp2_with (at_builtin; go_must (refine eR Tryz.appStrings rfl _ _ rfl w.heap.size u3 ys.length (ys.map Value.string) rfl wr [.string (s.extract f k)] _ rfl rfl (by simp; rfl) HO.out (by omega) hsz ?_); intro v' w1 hown1 hgrow1 _);have HO1:=aa hown1;have HG1:=aa hgrow1;clear hown1 hgrow1;go_wp2_with fail
     go_roundw
     case rel=>
      refine⟨k+1,k+1,ys++[s.extract f k],by omega,Nat.le_refl _,by simp; omega,by go_num,by go_num, ?_,aZ HB.out HO.out HG1.out (Nat.le_refl _) hsz,fun _=>⟨qN hlt hf (HR1.out hle).1 (HR1.out hle).2 HCC.out,fun j h1 h2=>by omega⟩,fun h=>by omega⟩;have:=HO1.out; simpa using this
     case measure=>simp[intOf]<;> omega
    ·have e2':((s[k].toNat:Int) == 47)=false:=by
      rw[beq_eq_false_iff_ne]; intro e; apply hc; apply UInt8.toNat_inj.1; have:s[k].toNat=47:=by omega
      rw[this]; rfl
     have HCC:=aa hc;clear hc;go_wp2_with fail
     go_roundw
     case rel=>
      refine⟨k+1,f,ys,by omega,by omega,by omega,by go_num,rfl,HO.out,HB.out,fun _=>⟨(HR1.out hle).1,fun j h1 h2=> ?_⟩,fun h=>by omega⟩
      rcases Nat.lt_or_ge j k with h | h
      ·exact(HR1.out hle).2 j h1 h
      ·obtain rfl:j=k:=by omega
       rw[jD s j hlt,<-dR s j hlt]; exact HCC.out
     case measure=>simp[intOf]<;> omega
   ·obtain rfl:k=s.size:=by omega
    have e1:((s.size:Int) == (s.size:Int))=true:=by simp
    go_wp2_with (at_builtin; go_must (refine eR Tryz.appStrings rfl _ _ rfl w.heap.size u3 ys.length (ys.map Value.string) rfl wr [.string (s.extract f s.size)] _ rfl rfl (by simp; rfl) HO.out (by omega) hsz ?_); intro v' w1 hown1 hgrow1 _);have HO1:=aa hown1;have HG1:=aa hgrow1;clear hown1 hgrow1;go_wp2_with fail
    go_roundw
    case rel=>
     refine⟨s.size+1,s.size+1,ys++[s.extract f s.size],by omega,Nat.le_refl _,by simp; omega,by go_num,by go_num, ?_,aZ HB.out HO.out HG1.out (Nat.le_refl _) hsz,fun h=>by omega,fun _=>qM hf (HR1.out hle).1 (HR1.out hle).2⟩;have:=HO1.out; simpa using this
    case measure=>simp[intOf]<;> omega
  ·obtain⟨a,cap,rfl,hn,hm⟩:=aj HO.out;go_wp2_with fail;go_ret;exact⟨_,ys,rfl,(HR2.out (by omega)).symm,(ba HO.out).weak (fun k hk=>hk.1),HB.out⟩
theorem nC {xs:List ByteArray} {k:Nat} {x:ByteArray} (hx:xs[k]? =some x):cA ((xs.take (k+1)).map bl)=if k=0 then bl x else cA ((xs.take k).map bl)++[47]++bl x:=by
 have hk:=(List.getElem?_eq_some_iff.1 hx).1;have e:(xs.take (k+1)).map bl=(xs.take k).map bl++[bl x]:=by rw[List.take_add_one,hx]; simp
 rw[e,lB]
 by_cases h:k=0
 ·subst h; simp
 ·have h2:(xs.take k).map bl≠[]:=by
   intro e; have:=congrArg List.length e; simp only[List.length_map,List.length_take,List.length_nil]at this; omega
  rw[if_neg h,if_neg h2]
theorem nH (xs:List ByteArray) (m:Nat) (h: ∀x∈xs,x.size<=m) (k:Nat):(cA ((xs.take k).map bl)).length<=xs.length*(m+1):=by
 have h1:=ub ((xs.take k).map bl) m (fun p hp=>by
  obtain⟨y,hy,rfl⟩:=List.mem_map.1 hp;have:=h y (List.mem_of_mem_take hy);rw[<-am]; exact this)
 have h2:((xs.take k).map bl).length<=xs.length:=by simp; omega
 exact Nat.le_trans h1 (Nat.mul_le_mul_right _ h2)
theorem rN (xs:List ByteArray) (S:Nat->Prop) (v:Value) (w:World) (hv:bK S w v xs) (hn:xs.length<=65536) (hsz: ∀x∈xs,x.size<=65536):
  Calls Tryz.prog 106 #[v] w fun e w'=>e= .returned (.string ⟨(cA (xs.map bl)).toArray⟩)/\w=w':=by
 obtain⟨a,cap,rfl,hc,hcm,hcell⟩:=hv.shape;have HC:=aa hcell;have HS:=aa hsz;clear hv hcell hsz;unfold maxLen at hcm
 go_enter Tryz.func106,Tryz.ntmps106
 go_wp2_with fail
 go_loop [3,8] (fun o i=> ∃(k:Nat) (t:ByteArray),k<=xs.length/\i= .int .i64 k/\o= .string t/\bl t=cA ((xs.take k).map bl)) (fun _ i=>xs.length-(intOf i).toNat)
 case atStart=>exact⟨0,⟨#[]⟩,Nat.zero_le _,rfl,rfl,by simp[bl,cA,Lib.join_nil]⟩
 case round=>
  obtain⟨k,t,hk,rfl,rfl,ht⟩:=hrel;have hts:t.size<=4295032832:=by
   rw[am,ht];have:=nH xs 65536 HS.out k;have h2:xs.length*(65536+1)<=65536*(65536+1):=Nat.mul_le_mul_right _ hn;omega
  have HT:=aa ht;clear ht
  by_cases hlt:k<xs.length
  ·obtain⟨x,hx⟩: ∃x,xs[k]? =some x:=⟨xs[k],by simp[hlt]⟩;obtain⟨b,o,rfl,_,hcl⟩:=HC.out k x hx;have hxs:=HS.out x (List.mem_of_getElem? hx);have HX:=aa hx;clear hx
   by_cases h0:k=0
   ·have e0:decide ((0:Int)<(k:Int))=false:=by simp[h0]
    have hle: ¬(0:Int)<(k:Int):=by omega
    have H0:=aa h0;clear h0;go_wp2_with fail
    go_round
    case rel=>
     refine⟨k+1,t++x,by omega,by go_num,rfl, ?_⟩;rw[nC HX.out,if_pos H0.out,iT,HT.out,H0.out]; simp[cA,Lib.join_nil]
    case measure=>simp[intOf]; omega
   ·have h1:(0:Int)<(k:Int):=by omega
    have h1':0<k:=by omega
    have H0:=aa h0;clear h0;go_wp2_with fail
    go_round
    case rel=>
     refine⟨k+1,(t++⟨#[47]⟩)++x,by omega,by go_num,rfl, ?_⟩;rw[nC HX.out,if_neg H0.out,iT,iT,HT.out]; rfl
    case measure=>simp[intOf]; omega
  ·go_wp2_with fail;go_ret;refine⟨?_,rfl⟩;have:cA (xs.map bl)=bl t:=by rw[HT.out,List.take_of_length_le (by omega)]
   rw[this,lp]; rfl
theorem ux {xs:List ByteArray} {s:ByteArray} (hx:xs.map bl=ax 47 (bl s)):((xs.length:Int) == 1)= !(bl s).contains 47:=by
 rw[<-qB,<-hx,List.length_map,Bool.eq_iff_iff,beq_iff_eq,beq_iff_eq]; omega
theorem gW (s:ByteArray) (w:World) (hs:s.size<=16777216):
  Calls Tryz.prog 132 #[.string s] w fun e w'=>e= .returned (.bool (er (bl s)))/\Below w.heap.size w w':=by
 go_enter Tryz.func132,Tryz.ntmps132
 go_wp2_with (first
  | (go_at_call 163; refine(rM s _ hs).mono ?_; rintro e w1 ⟨rfl,hb1⟩)
  | (go_at_call 105; refine(gJ s _ hs).mono ?_; rintro e w2 ⟨v2,xs2,rfl,hx2,hv2,hb2⟩; obtain⟨a2,c2,rfl,-,-,-⟩:=hv2.shape; have HX2:=aa hx2; clear hx2 hv2))
 all_goals (go_ret; refine⟨ak ?_,by first | exact Below.refl _ _ | exact ac hb1 hb2 | exact hb1⟩)
 all_goals (rw[Bool.eq_iff_iff]; simp only[aX]at *)
 all_goals (first | (have hq:=ux HX2.out; simp_all [er,am]; done) | (simp_all [er,am]; done) | (simp_all [er,am]; omega) | (have hq:=ux HX2.out; simp_all [er,am]; intro _; omega))
theorem rO (s:ByteArray) (w:World) (hs:s.size<=16777216):
  Calls Tryz.prog 103 #[.string s] w fun e w'=>e= .returned (.bool (bv (bl s)))/\Below w.heap.size w w':=by
 go_enter Tryz.func103,Tryz.ntmps103
 go_wp2_with fail;refine(gJ s w hs).mono ?_;rintro e w1 ⟨v,xs,rfl,hx,hv,hb1⟩;obtain⟨a,cap,rfl,hc,hcm,hcell⟩:=hv.shape;have hxl:xs.length<=16777217:=by
  have h1:(ax 47 (bl s)).length=xs.length:=by rw[<-hx]; simp
  have h2:=dh 47 (bl s);rw[<-am]at h2;omega
 have HX:=aa hx;have HC:=aa hcell;have HB1:=aa hb1;clear hx hcell hb1 hv;unfold maxLen at hcm;go_wp2_with fail
 go_loopw [10] (fun i wr=> ∃k:Nat,k<=xs.length/\i= .int .i64 k/\Below w1.heap.size w1 wr/\ ∀(j:Nat) x,j<k->xs[j]? =some x->er (bl x)=true) (fun i _=>xs.length-(intOf i).toNat)
 case atStart=>exact⟨0,Nat.zero_le _,rfl,Below.refl _ _,fun j x hj=>by omega⟩
 case round=>
  obtain⟨k,hk,rfl,hb,hall⟩:=hrel;have HA:=aa hall;have HB:=aa hb;clear hall hb
  by_cases hlt:k<xs.length
  ·obtain⟨x,hx⟩: ∃x,xs[k]? =some x:=⟨xs[k],by simp[hlt]⟩;obtain⟨b,o,rfl,_,hcl⟩:=HC.out k x hx;have hcell:wr.cell? ⟨b,o+k,none⟩=some (.string x):=(HB.out.cell (p:=⟨b,o+k,none⟩) (ay hcl)).trans hcl;have HK:=aa hx;have hxs:x.size<=16777216:=by have:=jb HX.out hx; omega
   clear hx hcl
   cases hc:er (bl x)
   ·have HCc:=aa hc;clear hc;go_wp2_with (go_at_call 132; refine(gW x wr hxs).mono ?_; rintro e w' ⟨rfl,hb2⟩; rw[HCc.out]);go_ret;exact⟨ak (pk HX.out HK.out HCc.out).symm,ac (ac HB1.out HB.out) hb2⟩
   ·have HCc:=aa hc;clear hc;go_wp2_with (go_at_call 132; refine(gW x wr hxs).mono ?_; rintro e w' ⟨rfl,hb2⟩; rw[HCc.out])
    go_roundw
    case rel=>
     refine⟨k+1,by omega,by go_num,ac HB.out hb2,fun j x' hj hx'=> ?_⟩
     rcases Nat.lt_or_ge j k with h | h
     ·exact HA.out j x' h hx'
     ·obtain rfl:j=k:=by omega
      have:=HK.out.symm.trans hx'
      cases this
      exact HCc.out
    case measure=>simp[intOf]; omega
  ·go_wp2_with fail
   all_goals (go_ret; refine⟨ak ?_,ac HB1.out HB.out⟩)
   all_goals (
    have ha:(ax 47 (bl s)).all er=true:=by
     rw[<-HX.out,List.all_map,List.all_eq_true];intro x hm;obtain⟨j,hj,rfl⟩:=List.getElem_of_mem hm;exact HA.out j _ (by omega) (by simp)
    have hl:(ax 47 (bl s)).length=xs.length:=by rw[<-HX.out]; simp
    rw[bv,ha,hl,Bool.and_true,<-am,Bool.eq_iff_iff]
    simp_all<;> omega)
open Go.RowKit Go.Maps
theorem tX {S:Nat->Prop} {w:World} {a:Option Addr} {n c:Nat} {xs:List ByteArray} (h:bK S w (.slice a n c) xs):bK S w (.slice a (n-1) c) xs.dropLast:=by
 obtain⟨hl,a',cap,he,hn,hm,h0⟩:=h;simp only[Value.slice.injEq]at he;obtain⟨rfl,rfl,rfl⟩:=he;refine⟨by simp,a,c,by rw[List.length_dropLast],by rw[List.length_dropLast]; omega,hm, ?_⟩
 rcases h0 with h0 | ⟨b,o,ha,hb,hc⟩
 ·left; rw[List.length_dropLast]; omega
 ·right
  refine⟨b,o,ha,hb,fun j u hj=>hc j u ?_⟩;rw[List.getElem?_map,List.getElem?_dropLast]at hj;rw[List.getElem?_map]
  split at hj
  ·exact hj
  ·simp at hj
theorem ng (s:ByteArray) (w:World) (hs:s.size<=65000):
  Calls Tryz.prog 69 #[.string s] w fun e w'=>e= .returned (.string ⟨(aL (bl s)).toArray⟩)/\Below w.heap.size w w':=by
 go_enter Tryz.func69,Tryz.ntmps69
 go_wp2_with (go_at_call 105; refine(gJ s _ (by omega)).mono ?_; rintro e w1 ⟨v,xs,rfl,hx,hv,hb⟩; have HX:=aa hx; have HB:=aa hb; obtain⟨a,c,rfl,hc,hm,-⟩:=hv.shape; have HV:=aa hv; have hn1:1<=xs.length:=(by rw[<-List.length_map (f:=bl),hx]; exact jJ 47 _); have hn2:xs.length<=65001:=(by rw[<-List.length_map (f:=bl),hx]; have:=dh 47 (bl s); rw[<-am]at this; omega); clear hx hv hb; unfold maxLen at hm)
 refine(rN xs.dropLast _ _ w1 (tX HV.out) (by rw[List.length_dropLast]; omega) (fun x hx=> ?_)).mono ?_
 ·have h1:bl x∈ax 47 (bl s):=by rw[<-HX.out]; exact List.mem_map.2 ⟨x,List.dropLast_subset _ hx,rfl⟩
  have h2:=fk 47 (bl s) _ h1;rw[<-am,<-am]at h2;omega
 ·rintro e w2 ⟨rfl,rfl⟩;go_wp2_with fail;go_ret;refine⟨?_,HB.out⟩;unfold aL;rw[<-HX.out,<-List.map_dropLast]
  rfl
end Go.Proofs.YtnjkpcalgoefhaaGreatDoor
