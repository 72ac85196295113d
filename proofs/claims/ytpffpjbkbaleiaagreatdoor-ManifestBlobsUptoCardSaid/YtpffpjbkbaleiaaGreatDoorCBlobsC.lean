/- Texts of this proof, one after the other: R3B, HmacC, EncA, RNumP, RNum, EncB, EncC, RdrC, EncD, Codec, CompP, CodecB, SealA, R3C, RollP, ChkP, RollA, RollB, MarkA. -/
import Derived.Test.YtpffpjbkbaleiaaGreatDoorCBlobsB
set_option maxRecDepth 100000
set_option maxHeartbeats 8000000
namespace Go.Proofs.YtpffpjbkbaleiaaGreatDoor
open Go Go.RowKit
theorem nG (w:World) (n:Nat):Below w.heap.size w (w.drewN n):=⟨rfl,rfl,rfl,ak _,fun _ _=>rfl⟩
theorem Pe (a b c d e f g h:Int):Tryz.prog.built 216 [(0, .int .u32 a),(1, .int .u32 b),(2, .int .u32 c),(3, .int .u32 d),(4, .int .u32 e),(5, .int .u32 f),(6, .int .u32 g),(7, .int .u32 h)]=some #[.int .u32 a, .int .u32 b, .int .u32 c, .int .u32 d, .int .u32 e, .int .u32 f, .int .u32 g, .int .u32 h]:=by kernel_rfl
theorem Ir (v u:V8):AG v u=AG u v:=by unfold AG tQ; simp only[lN]
structure ln (vb : Nat) (W wq : World) (r : V8) : Prop where
 box:wq.heap[vb]? =some (.cells (r.list.map eU).toArray 216 (0,0))
 grown:W.grownBy wq (some vb)
theorem ln.next {vb:Nat} {W wq w':World} {r:V8} (h:ln vb W wq r) (hb:Below wq.heap.size wq w'):ln vb W w' r:=
 ⟨(hb.block vb (aw h.box)).trans h.box,⟨hb.os.trans h.grown.os,hb.tape.trans h.grown.tape,hb.output.trans h.grown.output,ay h.grown.size hb.size,fun k hk hne=>(hb.block k (aP hk h.grown.size)).trans (h.grown.block k hk hne)⟩⟩
theorem ln.get {vb:Nat} {W wq:World} {r:V8} (h:ln vb W wq r) {j x:Nat} (hj:r.list[j]? =some x):wq.cell? ⟨vb,j,none⟩=some (.int .u32 (x:Int)):=by
 rw[bq wq _ j _ _ _ h.box,ai,bn,hj]; rfl
theorem ln.put {vb:Nat} {W wq:World} {r:V8} (h:ln vb W wq r) {r':V8} {c:Array Value} (hc:c=(r'.list.map eU).toArray):ln vb W (wq.setRow vb c) r':=
 ⟨by rw[dW _ _ _ _ _ _ h.box,hc],⟨h.grown.os,h.grown.tape,h.grown.output,by rw[size_setRow]; exact h.grown.size,fun k hk hne=>(setRow_other _ _ _ _ (fun e=>hne (by rw[e]))).trans (h.grown.block k hk hne)⟩⟩
theorem ln.keep {vb:Nat} {W wq:World} {r:V8} (h:ln vb W wq r) {b:Nat} {o:Obj} (hb:W.heap[b]? =some o) (hne:b≠vb):wq.heap[b]? =some o:=
 (h.grown.block b (aw hb) (fun e=>hne (bC e))).trans hb
theorem El (v:V8) (bk o cap:Nat) (bs:List UInt8) (w:World) (hv:v.Ok) (hl:bs.length=64) (_hcap:64<=cap) (_hcapm:cap<=maxLen) (hbs: ∀j b,bs[j]? =some b->w.cell? ⟨bk,o+j,none⟩=some (u8W b)):
  Calls Tryz.prog 216 #[.agg (v.list.map eU).toArray, .slice (some ⟨bk,o,none⟩) 64 cap] w fun e w'=>e= .returned (.agg ((rN v bs).list.map eU).toArray)/\Below w.heap.size w w':=by
 have HS:=am hbs;obtain⟨W0,hD⟩: ∃W0:World,W0=(w.alloc (.cells (v.list.map eU).toArray 216)).alloc (.cells (List.replicate 8 (eU 0)).toArray 216):=⟨_,rfl⟩;have HD:=am (show Below w.heap.size w W0 by rw[hD]; exact(eK).alloc (by simp) _);have HH:=am (show W0.heap[w.heap.size]? =some (.cells (v.list.map eU).toArray 216 (0,0)) by rw[hD]; exact(cN _ _ _ (by simp)).trans (aF w _))
 have HT:=am (show W0.heap[w.heap.size+1]? =some (.cells (List.replicate 8 (eU 0)).toArray 216 (0,0)) by rw[hD]; have:=aF (w.alloc (.cells (v.list.map eU).toArray 216)) (.cells (List.replicate 8 (eU 0)).toArray 216); simpa using this);clear hbs
 go_enter Tryz.func216,Tryz.ntmps216
 go_upto_region 1 with(fail)
 change Code.wp _ _ _ _ ((w.alloc (.cells (v.list.map eU).toArray 216)).alloc (.cells (List.replicate 8 (eU 0)).toArray 216))
 rw[<-hD];clear hD;go_wp2_with fail;refine(yh _).mono ?_;rintro e w1 ⟨rfl,ho⟩;have HE:=am (ar HD.o ho);have HI:=am (dX ho HH.o);have HU:=am (dX ho HT.o);clear ho
 go_upto_region 2 with(first | (refine dr rfl 252 _ _ rfl w1.heap.size nf rfl rfl _ _ (aF w1 _) (by kernel_rfl) (by kernel_rfl) (by kernel_rfl) ?_) | fail)
 obtain⟨W2,hO⟩: ∃W2:World,W2=(w1.alloc (.cells (List.replicate 64 (eU 0)).toArray 252)).setRow w1.heap.size nf:=⟨_,rfl⟩
 change Code.wp _ _ _ _ ((w1.alloc (.cells (List.replicate 64 (eU 0)).toArray 252)).setRow w1.heap.size nf)
 have hU:=am (show Below w1.heap.size w1 W2 by rw[hO]; exact eq (eK) (ak _) _);have Hi:=am (show W2.heap[w1.heap.size]? =some (.cells nf 252 (0,0)) by rw[hO]; exact dW _ _ _ _ _ _ (aF w1 _));have hL:=am (ar HE.o hU.o);have Hg:=am (dX hU.o HI.o);have Hl:=am (dX hU.o HU.o);rw[<-hO];clear hO
 go_upto_region 3 with(first | (refine iG rfl 252 _ rfl [] (by kernel_rfl) (List.replicate 64 (eU 0)).toArray (by kernel_rfl) ?_) | (refine dr rfl 252 _ _ rfl W2.heap.size (List.replicate 64 (eU 0)).toArray rfl rfl _ _ (aF W2 _) (by kernel_rfl) (by kernel_rfl) (by kernel_rfl) ?_) | fail)
 obtain⟨W3,hP⟩: ∃W3:World,W3=(W2.alloc (.cells (List.replicate 64 (eU 0)).toArray 252)).setRow W2.heap.size (List.replicate 64 (eU 0)).toArray:=⟨_,rfl⟩
 change Code.wp _ _ _ _ ((W2.alloc (.cells (List.replicate 64 (eU 0)).toArray 252)).setRow W2.heap.size (List.replicate 64 (eU 0)).toArray)
 have Hd:=am (show kg W2 bs 0 W3 from⟨by rw[hP,dW _ _ _ _ _ _ (aF W2 _)]; rfl,by rw[hP]; exact eq (eK) (ak _) _⟩);rw[<-hP];clear hP;go_wp2_with fail
 go_loopw [7] (fun i wr=> ∃t:Nat,t<=16/\i= .int .i64 (t:Int)/\kg W2 bs t wr) (fun i _=>16-(intOf i).toNat)
 case atStart=>exact⟨0,by omega,rfl,Hd.o⟩
 case round=>
  obtain⟨t,ht,rfl,hs⟩:=hrel;have HA:=am hs;have hz:=hs.below.size;have hA:=am (hL.o.trans (hs.below.mono hL.o.size));clear hs
  by_cases H2:t<16
  ·obtain⟨q,hq⟩: ∃q,q=4*t:=⟨_,rfl⟩;have HQ:=am hq;have yp:IntKind.i64.wrap (4*(t:Int))=(q:Int):=by rw[bE]; omega
   obtain⟨r1,Hw⟩: ∃r,r=q+1:=⟨_,rfl⟩;obtain⟨r2,Hx⟩: ∃r,r=q+2:=⟨_,rfl⟩;obtain⟨r3,Hy⟩: ∃r,r=q+3:=⟨_,rfl⟩;have H7:(q:Int)<64:=by omega
   have H8:(r1:Int)<64:=by omega
   have H9:(r2:Int)<64:=by omega
   have ya:(r3:Int)<64:=by omega
   have hJ:(t:Int)<64:=by omega
   have yc:IntKind.i64.wrap ((q:Int)+1)=(r1:Int):=by rw[bE]; omega
   have yl:IntKind.i64.wrap ((q:Int)+2)=(r2:Int):=by rw[bE]; omega
   have yn:IntKind.i64.wrap ((q:Int)+3)=(r3:Int):=by rw[bE]; omega
   obtain⟨b0,h3⟩: ∃b,b=bs.getD q 0:=⟨_,rfl⟩;obtain⟨b1,ho⟩: ∃b,b=bs.getD r1 0:=⟨_,rfl⟩;obtain⟨b2,h4⟩: ∃b,b=bs.getD r2 0:=⟨_,rfl⟩;obtain⟨b3,h7⟩: ∃b,b=bs.getD r3 0:=⟨_,rfl⟩;have q0:=HS.o q (bs.getD q 0) (Cy (by omega));have q1:=HS.o r1 (bs.getD r1 0) (Cy (by omega));have q2:=HS.o r2 (bs.getD r2 0) (Cy (by omega));have q3:=HS.o r3 (bs.getD r3 0) (Cy (by omega))
   have HW:=am (show Av bs t=Ea b0 b1 b2 b3 by rw[h3,ho,h4,h7,Hw,Hx,Hy,hq]; rfl);rw[<-h3]at q0;rw[<-ho]at q1;rw[<-h4]at q2;rw[<-h7]at q3;have hQ:=block_lt_of_cell q0;simp only[u8W]at q0 q1 q2 q3;have c0:=(hA.o.cell (p:=⟨bk,o+q,none⟩) hQ).trans q0;have c1:=(hA.o.cell (p:=⟨bk,o+r1,none⟩) hQ).trans q1;have c2:=(hA.o.cell (p:=⟨bk,o+r2,none⟩) hQ).trans q2
   have c3:=(hA.o.cell (p:=⟨bk,o+r3,none⟩) hQ).trans q3;have ch:=HA.o.here (by omega);have cf:=HA.o.free t;clear q0 q1 q2 q3 h3 ho h4 h7 hq Hw Hx Hy;go_wp2_with fail;refine bF [some 35,none] (by kernel_rfl) (by kernel_rfl) (by kernel_rfl) ?_;simp only[dJ,aR,aX,bz,bQ]
   repeat (first | (refine bZ rfl ?_; simp only[Act.put,aa,ag,ab]) | (refine cK rfl (fun K hK=> ?_); go_simp; refine hK _ ?_; clear hK K))
   refine cJ ?_;refine ee rfl (fun K hK=> ?_);go_wp2_with fail
   go_roundw
   case rel=>
    rw[xY,<-HW.o];exact⟨t+1,by omega,by simp,(HA.o.put (by omega) (Ii bs H2)).drew⟩
   case measure=>simp[intOf]; omega
  ·obtain rfl:t=16:=by omega
   obtain⟨W4,H4⟩: ∃x,x=wr:=⟨_,rfl⟩;subst H4;have He:=HA;clear HA hA hz;rw[show((16:Nat):Int)=(16:Int)from rfl];go_wp2_with fail
   go_loopw [8,9,10] (fun i x1 x2 wr=> ∃t:Nat,16<=t/\t<=64/\i= .int .i64 (t:Int)/\kg W2 bs t wr) (fun i _ _ _=>64-(intOf i).toNat)
   case atStart=>exact⟨16,by omega,by omega,rfl,He.o⟩
   case round=>
    obtain⟨t,H3,ht,rfl,hs⟩:=hrel;have HA:=am hs;have hz:=hs.below.size;clear hs
    by_cases H5:t<64
    ·obtain⟨j2,Ht⟩: ∃j,j=t-2:=⟨_,rfl⟩;obtain⟨j15,hF⟩: ∃j,j=t-15:=⟨_,rfl⟩;obtain⟨j7,Hu⟩: ∃j,j=t-7:=⟨_,rfl⟩;obtain⟨j16,hG⟩: ∃j,j=t-16:=⟨_,rfl⟩;have c2:=HA.o.get (j:=j2) (by omega);have c15:=HA.o.get (j:=j15) (by omega);have c7:=HA.o.get (j:=j7) (by omega);have c16:=HA.o.get (j:=j16) (by omega);have e2:IntKind.i64.wrap ((t:Int)-2)=(j2:Int):=by rw[bE]; omega
     have e15:IntKind.i64.wrap ((t:Int)-15)=(j15:Int):=by rw[bE]; omega
     have e7:IntKind.i64.wrap ((t:Int)-7)=(j7:Int):=by rw[bE]; omega
     have e16:IntKind.i64.wrap ((t:Int)-16)=(j16:Int):=by rw[bE]; omega
     have l2:(j2:Int)<64:=by omega
     have l15:(j15:Int)<64:=by omega
     have l7:(j7:Int)<64:=by omega
     have l16:(j16:Int)<64:=by omega
     have ch:=HA.o.here (by omega);have cf:=HA.o.free t;have HJ:=am (show j2=t-2/\j15=t-15/\j7=t-7/\j16=t-16 from⟨Ht,hF,Hu,hG⟩);clear Ht hF Hu hG;obtain⟨x2,hS⟩: ∃x,x=(sF bs t).getD j2 0:=⟨_,rfl⟩;obtain⟨x15,hf⟩: ∃x,x=(sF bs t).getD j15 0:=⟨_,rfl⟩;obtain⟨x7,Hc⟩: ∃x,x=(sF bs t).getD j7 0:=⟨_,rfl⟩;obtain⟨x16,hu⟩: ∃x,x=(sF bs t).getD j16 0:=⟨_,rfl⟩
     rw[<-hS]at c2;rw[<-hf]at c15;rw[<-Hc]at c7;rw[<-hu]at c16;have o2:x2<4294967296:=by rw[hS]; exact(Bu bs t).get j2
     have o15:x15<4294967296:=by rw[hf]; exact(Bu bs t).get j15
     have HN:=am (show qB (sF bs t)=(((Kq x2+x7)%4294967296+Ko x15)%4294967296+x16)%4294967296 by
      unfold qB;rw[oG,hS,hf,Hc,hu,HJ.o.1,HJ.o.2.1,HJ.o.2.2.1,HJ.o.2.2.2])
     clear hS hf Hc hu;go_wp2_with fail
     go_quiet ((go_at_call 218; refine Calls.quiet_of (pn _ _ _ o15 (by decide))))
     rw[show xD x15 7=gB x15 25 from rfl,show xD x15 18=gB x15 14 from rfl,Ah o15];obtain⟨W5,hn⟩: ∃W5:World,W5=wr.drewN nq:=⟨_,rfl⟩;rw[<-hn];have hg:=am (show kg W2 bs t W5 by rw[hn]; exact HA.o.next (nG wr nq));have d2:W5.cell? ⟨W2.heap.size,j2,none⟩=some (.int .u32 (x2:Int)):=by rw[hn]; exact c2
     have d7:W5.cell? ⟨W2.heap.size,j7,none⟩=some (.int .u32 (x7:Int)):=by rw[hn]; exact c7
     have d16:W5.cell? ⟨W2.heap.size,j16,none⟩=some (.int .u32 (x16:Int)):=by rw[hn]; exact c16
     have ch:=hg.o.here (by omega);have cf:=hg.o.free t;clear hn c15 c2 c7 c16;go_wp2_with fail
     go_quiet ((go_at_call 218; refine Calls.quiet_of (pn _ _ _ o2 (by decide))))
     rw[show xD x2 17=gB x2 15 from rfl,show xD x2 19=gB x2 13 from rfl,Ai o2];obtain⟨W6,he⟩: ∃W6:World,W6=W5.drewN nq:=⟨_,rfl⟩;rw[<-he];have hT:=am (show kg W2 bs t W6 by rw[he]; exact hg.o.next (nG W5 nq));have f7:W6.cell? ⟨W2.heap.size,j7,none⟩=some (.int .u32 (x7:Int)):=by rw[he]; exact d7
     have f16:W6.cell? ⟨W2.heap.size,j16,none⟩=some (.int .u32 (x16:Int)):=by rw[he]; exact d16
     clear ch cf;have ch:=hT.o.here (by omega);have cf:=hT.o.free t;have hJ:(t:Int)<64:=by omega
     clear he d2 d7 d16;go_wp2_with fail;refine bF [some 15,none] (by kernel_rfl) (by kernel_rfl) (by kernel_rfl) ?_;simp only[dJ,aR,aX,bz,bQ]
     repeat (first | (refine bZ rfl ?_; simp only[Act.put,aa,ag,ab]) | (refine cK rfl (fun K hK=> ?_); go_simp; refine hK _ ?_; clear hK K))
     refine cJ ?_;refine ee rfl (fun K hK=> ?_);go_wp2_with fail
     go_roundw
     case rel=>
      have HV:((((Kq x2:Nat):Int)+(x7:Int)+((Ko x15:Nat):Int)+(x16:Int))%4294967296)=((qB (sF bs t):Nat):Int):=by rw[HN.o]; omega
      rw[HV];exact⟨t+1,by omega,by omega,by simp,(hT.o.put (by omega) (DY bs H3)).drew⟩
     case measure=>simp[intOf]; omega
    ·obtain rfl:t=64:=by omega
     obtain⟨W5,hn⟩: ∃x,x=wr:=⟨_,rfl⟩;subst hn;have hg:=HA;have hM:=am (hL.o.trans (HA.o.below.mono hL.o.size));have hN:=am ((HA.o.below.block _ (aw Hg.o)).trans Hg.o);have hV:=am ((HA.o.below.block _ (aw Hl.o)).trans Hl.o);have Hj:=am ((HA.o.below.block _ (aw Hi.o)).trans Hi.o);have HY:=am (ml hN.o);have HL:=am (show(Tryz.prog.info? 216).map (·.size)=some (v.list.map eU).length by kernel_rfl)
     have HC:=am (show(v.list.map eU).toArray.all (·.oneCell')=true from dU (fun x hx=>by obtain⟨y,-,rfl⟩:=aS.1 hx; rfl));clear HA hz He Hd;rw[show((64:Nat):Int)=(64:Int)from rfl]
     go_upto_region 14 with(first | (refine dP rfl 216 _ rfl w.heap.size 0 rfl (v.list.map eU) _ HY.o fD rfl HL.o ?_) | (refine dr rfl 216 _ _ rfl W5.heap.size (v.list.map eU).toArray rfl rfl _ _ (aF W5 _) (by kernel_rfl) (by kernel_rfl) HC.o ?_) | fail)
     obtain⟨W6,he⟩: ∃W6:World,W6=(W5.alloc (.cells (List.replicate 8 (eU 0)).toArray 216)).setRow W5.heap.size (v.list.map eU).toArray:=⟨_,rfl⟩
     change Code.wp _ _ _ _ ((W5.alloc (.cells (List.replicate 8 (eU 0)).toArray 216)).setRow W5.heap.size (v.list.map eU).toArray)
     have hw:=am (show Below W5.heap.size W5 W6 by rw[he]; exact eq (eK) (ak _) _);have Hp:=am (show W6.heap[W5.heap.size]? =some (.cells (v.list.map eU).toArray 216 (0,0)) by rw[he]; exact dW _ _ _ _ _ _ (aF W5 _));rw[<-he];clear he;have hB:=am (show ln W5.heap.size W6 W6 v from⟨Hp.o,⟨rfl,rfl,rfl,ak _,fun _ _ _=>rfl⟩⟩)
     obtain⟨vb,Hb⟩: ∃vb,W5.heap.size=vb:=⟨_,rfl⟩;have hp:=am Hb;rw[Hb]at hB Hp ⊢;clear Hb;go_wp2_with fail
     go_loopw [12,13,14,15,16,17,18,19,20] (fun i y1 y2 y3 y4 y5 y6 y7 y8 wr=> ∃(t:Nat) (r:V8),t<=64/\i= .int .i64 (t:Int)/\r=rTo bs v t/\ln vb W6 wr r) (fun i _ _ _ _ _ _ _ _ _=>64-(intOf i).toNat)
     case atStart=>exact⟨0,v,by omega,rfl,rfl,hB.o⟩
     case round=>
      obtain⟨t,r,ht,rfl,hr,Hz⟩:=hrel;have Hn:=am hr;have ha:=am Hz;have hh:=am (show r.Ok by rw[hr]; exact Fl bs t hv);clear hr Hz
      by_cases hZ:t<64
      ·have v0:=ha.o.get (j:=0) (x:=r.a) rfl;have v1:=ha.o.get (j:=1) (x:=r.b) rfl;have v2:=ha.o.get (j:=2) (x:=r.c) rfl;have v4:=ha.o.get (j:=4) (x:=r.e) rfl;have v5:=ha.o.get (j:=5) (x:=r.f) rfl;have v6:=ha.o.get (j:=6) (x:=r.g) rfl;go_wp2_with fail
       go_quiet (fail)
       obtain⟨W7,hE⟩: ∃W7:World,W7=wr.drewN nq:=⟨_,rfl⟩;rw[<-hE];have hc:=am (show ln vb W6 W7 r by rw[hE]; exact ha.o.next (nG wr nq));obtain⟨k,hk⟩: ∃k,k=kc.getD t 0:=⟨_,rfl⟩;obtain⟨x,hx⟩: ∃x,x=(wsP bs).getD t 0:=⟨_,rfl⟩;have Hk:=am (aE hk hx);have v7:=hc.o.get (j:=7) (x:=r.h) rfl;have v3:=hc.o.get (j:=3) (x:=r.d) rfl
       have ck:W7.cell? ⟨w1.heap.size,t,none⟩=some (.int .u32 (k:Int)):=by
        rw[bq W7 _ t _ _ _ (hc.o.keep (dX hw.o Hj.o) (by have:=aw Hj.o; have:=hp.o; omega))];unfold nf;rw[ai,bn,getD_some (by rw[Ba]; exact hZ),<-hk]; rfl
       have cx:W7.cell? ⟨W2.heap.size,t,none⟩=some (.int .u32 (x:Int)):=by
        rw[bq W7 _ t _ _ _ (hc.o.keep (dX hw.o hg.o.box) (by have:=aw hg.o.box; have:=hp.o; omega)),<-bq W5 _ t _ _ _ hg.o.box,hg.o.get hZ,Bt,<-hx]
       have hJ:(t:Int)<64:=by omega
       clear hE hk hx v0 v1 v2 v4 v5 v6;go_wp2_with fail
       go_quiet ((go_at_call 218; refine Calls.quiet_of (pn _ _ _ hh.o.e (by decide))))
       rw[show xD r.e 6=gB r.e 26 from rfl,show xD r.e 11=gB r.e 21 from rfl,show xD r.e 25=gB r.e 7 from rfl,Ib hh.o,Gp hh.o,
        show((((r.h:Int)+((s1P r:Nat):Int)+((chP r:Nat):Int)+(k:Int))%4294967296+(x:Int))%4294967296)=((Nt r k x:Nat):Int) by rw[FL]; omega]
       obtain⟨t1,h9⟩: ∃t1,t1=Nt r k x:=⟨_,rfl⟩;rw[<-h9];have Ho:=am h9;obtain⟨W8,h0⟩: ∃W8:World,W8=W7.drewN nq:=⟨_,rfl⟩;rw[<-h0];have hX:=am (show ln vb W6 W8 r by rw[h0]; exact hc.o.next (nG W7 nq));clear h0 v7 v3 ck cx h9;go_wp2_with fail;refine(pn _ _ _ hh.o.a (by decide)).mono ?_;rintro e W9 ⟨rfl,m9,Hv⟩;have hY:=am (show ln vb W6 W9 r by rw[Hv]; exact hX.o.next (nG W8 m9))
       clear Hv;go_wp2_with fail;refine(pn _ _ _ hh.o.a (by decide)).mono ?_;rintro e Hr ⟨rfl,m10,hH⟩;have hC:=am (show ln vb W6 Hr r by rw[hH]; exact hY.o.next (nG W9 m10));clear hH;go_wp2_with fail;refine(pn _ _ _ hh.o.a (by decide)).mono ?_;rintro e H1 ⟨rfl,m11,hI⟩;have hb:=am (show ln vb W6 H1 r by rw[hI]; exact hC.o.next (nG Hr m11))
       clear hI;have v3:=hb.o.get (j:=3) (x:=r.d) rfl
       go_upto_region 20 with(fail)
       rw[show xD r.a 2=gB r.a 30 from rfl,show xD r.a 13=gB r.a 19 from rfl,show xD r.a 22=gB r.a 10 from rfl,Ia hh.o,GK hh.o,
        show((((s0P r:Nat):Int)+((mjP r:Nat):Int))%4294967296)=((t2P r:Nat):Int) by rw[MX]; omega]
       obtain⟨t2,Ha⟩: ∃t2,t2=t2P r:=⟨_,rfl⟩;rw[<-Ha];have H0:=am Ha;clear Ha;go_wp2_with (refine iG rfl 216 _ rfl [(0, .int .u32 (((t1:Int)+(t2:Int))%4294967296)),(1, .int .u32 (r.a:Int)),(2, .int .u32 (r.b:Int)),(3, .int .u32 (r.c:Int)),(4, .int .u32 (((r.d:Int)+(t1:Int))%4294967296)),(5, .int .u32 (r.e:Int)),(6, .int .u32 (r.f:Int)),(7, .int .u32 (r.g:Int))] (by kernel_rfl) _ (Pe _ _ _ _ _ _ _ _) ?_; go_must (refine dr rfl 216 _ _ rfl vb #[.int .u32 (((t1:Int)+(t2:Int))%4294967296), .int .u32 (r.a:Int), .int .u32 (r.b:Int), .int .u32 (r.c:Int), .int .u32 (((r.d:Int)+(t1:Int))%4294967296), .int .u32 (r.e:Int), .int .u32 (r.f:Int), .int .u32 (r.g:Int)] (by kernel_rfl) (by kernel_rfl) _ _ hb.o.box (by kernel_rfl) (by kernel_rfl) (by kernel_rfl) ?_))
       go_roundw
       case rel=>
        refine⟨t+1,Fq r k x,by omega,by simp, ?_,hb.o.put ?_⟩
        ·rw[Dr bs v hZ,Hn.o,Hk.o.1,Hk.o.2]
        ·rw[show(((t1:Int)+(t2:Int))%4294967296)=(((Nt r k x+t2P r)%4294967296:Nat):Int) by rw[Ho.o,H0.o]; omega,show(((r.d:Int)+(t1:Int))%4294967296)=(((r.d+Nt r k x)%4294967296:Nat):Int) by rw[Ho.o]; omega]
         rfl
       case measure=>simp[intOf]; omega
      ·obtain rfl:t=64:=by omega
       obtain⟨W7,hE⟩: ∃x,x=wr:=⟨_,rfl⟩;subst hE;have HP:=am (show ly vb r v [] 216 W7 W7 0 from ly.start (by rw[bY]; exact ha.o.box) (au _ _));have HK:=am (ha.o.keep (dX hw.o hN.o) (by have:=aw hN.o; have:=hp.o; omega));have HX:=am (ha.o.keep (dX hw.o hV.o) (by have:=aw hV.o; have:=hp.o; omega));rw[show((64:Nat):Int)=(64:Int)from rfl]
       go_wp2_with fail
       go_loopw [21] (fun i wq=> ∃j:Nat,j<=8/\i= .int .i64 (j:Int)/\ly vb r v [] 216 W7 wq j) (fun i _=>8-(intOf i).toNat)
       case atStart=>exact⟨0,by omega,rfl,HP.o⟩
       case round=>
        obtain⟨j,hj,rfl,hm⟩:=hrel;have HM:=am hm;clear hm
        by_cases h8:j<8
        ·have cs:=HM.o.here h8;have cf:=HM.o.free j;have cv:wr.cell? ⟨w.heap.size,j,none⟩=some (.int .u32 ((v.list.getD j 0:Nat):Int)):=(bq wr _ _ _ _ _ (HM.o.keep HK.o (by have:=aw hN.o; have:=hp.o; omega))).trans (by rw[ai]; exact OU v h8);obtain⟨x,hx⟩: ∃x,x=r.list.getD j 0:=⟨_,rfl⟩;obtain⟨y,hy⟩: ∃y,y=v.list.getD j 0:=⟨_,rfl⟩
         rw[<-hx]at cs;rw[<-hy]at cv;have Hq:=am (aE hx hy);clear hx hy;have H6:(j:Int)<8:=by omega
         go_wp2_with fail;refine bF [some 8,none] (by kernel_rfl) (by kernel_rfl) (by kernel_rfl) ?_;simp only[dJ,aR,aX,bz,bQ]
         repeat (first | (refine bZ rfl ?_; simp only[Act.put,aa,ag,ab]) | (refine cK rfl (fun K hK=> ?_); go_simp; refine hK _ ?_; clear hK K))
         refine cJ ?_;refine ee rfl (fun K hK=> ?_);go_wp2_with fail
         go_roundw
         case rel=>
          refine⟨j+1,by omega,by simp, ?_⟩;exact(HM.o.put h8 (by rw[<-Hq.o.1,<-Hq.o.2]; unfold eU tQ; simp)).drew
         case measure=>simp[intOf]; omega
        ·obtain rfl:j=8:=by omega
         have Hs:wr.heap[vb]? =some (.cells (((rN v bs).list.map eU)).toArray 216 (0,0)):=by
          have h1:=HM.o.box;rw[bY,show Jy r v 8=(AG r v).list from rfl,Ir,Hn.o,<-Dp]at h1;exact h1
         have Hf:=am Hs;have Hm:=am (HM.o.keep HX.o (by have:=aw hV.o; have:=hp.o; omega));obtain⟨cs8,hd⟩: ∃c,c=(rN v bs).list.map eU:=⟨_,rfl⟩;rw[<-hd]at Hf;have HG:=am hd;have hR:cs8.length=8:=by rw[hd]; rfl
         have hW:=am (ml Hf.o);have HO:=am (show(Tryz.prog.info? 216).map (·.size)=some cs8.length by rw[hR]; kernel_rfl);have Hh:=am (show(Tryz.prog.info? 216).map (·.size)=some cs8.toArray.size by rw[bR,hR]; kernel_rfl);have HZ:=am (show(List.replicate 8 (eU 0)).toArray.size=cs8.toArray.size by rw[bR,bR,hR]; rfl)
         have HR:=am (show cs8.toArray.all (·.oneCell')=true from dU (fun x hx=>by rw[hd]at hx; obtain⟨y,-,rfl⟩:=aS.1 hx; rfl));have HF:=am (show Below w.heap.size w wr from(hM.o.trans (hw.o.mono hM.o.size)).trans ((show Below w.heap.size W6 wr from by
          have h1:=ha.o.grown;have h2:=HM.o.grown;have yb:w.heap.size<=vb:=by rw[<-hp.o]; exact hM.o.size
          have HB:w.heap.size<=W6.heap.size:=ay hM.o.size hw.o.size;exact⟨h2.os.trans h1.os,h2.tape.trans h1.tape,h2.output.trans h1.output,ay h1.size h2.size,fun k hk=>(h2.block k (aP hk (ay HB h1.size)) (fun e=>by cases e; omega)).trans (h1.block k (aP hk HB) (fun e=>by cases e; omega))⟩)))
         clear Hs hd hR;go_wp2_with (first | (refine dP rfl 216 _ rfl vb 0 rfl cs8 _ hW.o fD rfl HO.o ?_) | (refine dr rfl 216 _ _ rfl (w.heap.size+1) cs8.toArray rfl rfl _ _ Hm.o Hh.o HZ.o HR.o ?_) | fail);refine cM (results_cell_row rfl _ _ (w.heap.size+1) _ _ _ _ rfl (dW wr _ _ _ _ _ Hm.o) fD rfl Hh.o) rfl ?_
         exact⟨by rw[HG.o],eq HF.o (by omega) _⟩
structure AB (w : World) : Prop where
 init:oH w
 kons:lU w
 pads:KS w
 ilt:2<w.heap.size
 klt:5<w.heap.size
 plt:0<w.heap.size
theorem AB.below {w w':World} (h:AB w) (hb:Below w.heap.size w w'):AB w':=
 ⟨h.init.below hb h.ilt,h.kons.below hb h.klt,⟨(hb.cell (p:=⟨0,0,none⟩) h.plt).trans h.pads.1,(hb.cell (p:=⟨0,1,none⟩) h.plt).trans h.pads.2⟩,aP h.ilt hb.size,aP h.klt hb.size,aP h.plt hb.size⟩
theorem yk (mb:Nat) (key data xs:List UInt8) (xv:Value) (w:World) (h:uF w mb key data) (hx:bH (· ≠mb) w xv xs) (hlen:64+data.length+xs.length<1152921504606846976) (hE:AB w) (hne:mb≠5):
  Calls Tryz.prog 147 #[.pointer (some ⟨mb,0,none⟩),xv] w fun e w'=>e= .returned (.tuple #[])/\uF w' mb key (data++xs)/\w.grownBy w' (some mb):=by
 have HH:=am h;have HX:=am hx;have HE:=am hE;clear h hx hE
 go_enter Tryz.func147,Tryz.ntmps147
 go_wp2_with fail;refine(lJ mb 225 _ _ xs xv w HH.o HX.o (by rw[an]; unfold gy; rw[aB,jm]; omega) HE.o.kons HE.o.klt hne).mono ?_;rintro e w1 ⟨rfl,h1,h2⟩;have H1:=am h1;have H2:=am h2;clear h1 h2;go_wp2_with fail
 go_end0
 refine⟨rfl, ?_,H2.o⟩;unfold uF;rw[<-bi];exact H1.o
theorem Px (k d:List UInt8):yH k d=pV (mR [⟨(gy (iN k) 92).toArray⟩,⟨(pV (gy (iN k) 54++d)).toArray⟩]):=by
 unfold mR yH;rw[bu,bu,List.flatMap_nil,bY,jD,jD]
 rfl
theorem Js {w:World} {mb:Nat} {key data:List UInt8} (h:uF w mb key data): ∃C:List Value,w.heap[mb]? =some (.cells C.toArray 225 (0,0))/\ ∀w',w'.heap[mb]? =some (.cells C.toArray 225 (0,0))->bH (fun _=>True) w' (.slice (some ⟨mb,73,none⟩) 64 64) (gy (iN key) 92):=by
 obtain⟨buf,h1,h2,h3⟩:=h;refine⟨_,h3,fun w' hw=> ?_⟩;have hl:(gy (iN key) 92).length=64:=by unfold gy; rw[aB,jm]
 refine⟨by simp,_,_,by rw[hl],by omega,by unfold maxLen; omega, .inr ⟨mb,73,rfl,trivial,fun j x hj=> ?_⟩⟩;rw[bq w' _ _ _ _ _ hw,ai,bG (by rw[mu _ h1]; omega),mu _ h1,show 73+j-73=j by omega];exact hj
theorem CE (mb:Nat) (key data:List UInt8) (w:World) (h:uF w mb key data) (hlen:64+data.length<288230376151711744) (hE:AB w):
  Calls Tryz.prog 148 #[.pointer (some ⟨mb,0,none⟩)] w fun e w'=>e= .returned (.string ⟨(yH key data).toArray⟩)/\Below w.heap.size w w':=by
 obtain⟨C,hC,hd⟩:=Js h;have HH:=am h;have HE:=am hE;have HC:=am hC;have hh:=am hd;have hH:=aw hC;clear h hE hC hd
 go_enter Tryz.func148,Tryz.ntmps148
 go_wp2_with fail;refine ez (fun w'=>w'.heap[mb]? =some (.cells C.toArray 225 (0,0))) (by kernel_rfl) ?_;obtain⟨V,hV⟩: ∃V:World,V=w.drew:=⟨_,rfl⟩;rw[<-hV];have hg:=am (show Below w.heap.size w V by rw[hV]; exact(au _ _).drew);have ha:V.heap[mb]? =some (.cells C.toArray 225 (0,0)):=by rw[hV]; exact HC.o
 have hF:=am (show od V mb 225 ((gy (iN key) 92).map aY) (gy (iN key) 54++data) by rw[hV]; exact HH.o);clear hV
 iterate 5 (refine cA rfl (by kernel_rfl) (fun _ _ _ h=>h) rfl ha (by intro w' hu; go_simp; rfl) ?_; simp only[Act.put,aa,ag,ab])
 have hA: ∀w':World,w'.heap[mb]? =some (.cells C.toArray 225 (0,0))->(convert 29 9 (.slice (some ⟨mb,73,none⟩) 64 64)).run Tryz.prog w'= .ok (.string ⟨(gy (iN key) 92).toArray⟩) w':=fun w' hw=>Lu (hh.o w' hw)
 refine cA rfl (by kernel_rfl) (fun _ _ _ h=>h) rfl ha (by intro w' hu; have hG:=hA w' hu; go_simp; rfl) ?_;simp only[Act.put,aa,ag,ab];clear hA
 iterate 4 (refine cA rfl (by kernel_rfl) (fun _ _ _ h=>h) rfl ha (by intro w' hu; go_simp; rfl) ?_; simp only[Act.put,aa,ag,ab])
 refine cn 10 rfl (fun K hK=> ?_);go_wp2_with fail;refine(xI mb 225 _ _ V hF.o (by rw[an]; unfold gy; rw[aB,jm]; omega) (HE.o.below hg.o).kons (HE.o.below hg.o).klt).mono ?_;rintro e w1 ⟨rfl,hn⟩;have hB:=am (ar hg.o hn);have hl:w1.heap[mb]? =some (.cells C.toArray 225 (0,0)):=dX hn ha;clear hn ha;go_wp2_with fail
 refine⟨hl, ?_⟩;refine cn 11 rfl (fun K hK=> ?_);obtain⟨so,hr⟩: ∃so:ByteArray,so=⟨(gy (iN key) 92).toArray⟩:=⟨_,rfl⟩;obtain⟨si,hq⟩: ∃si:ByteArray,si=⟨(pV (gy (iN key) 54++data)).toArray⟩:=⟨_,rfl⟩;have hy:=am hr;have hx:=am hq;rw[<-hr,<-hq];clear hr hq;go_wp2_with fail;obtain⟨w2,hf⟩: ∃w2,w2=w1.alloc (.cells #[.string so, .string si] 9):=⟨_,rfl⟩
 rw[<-hf];have ho:Below w1.heap.size w1 w2:=by rw[hf]; exact eK
 have hv:=am (ar hB.o ho);have hm:w2.heap[mb]? =some (.cells C.toArray 225 (0,0)):=dX ho hl;have hk:=am (show lz (fun _=>True) w2 (.slice (some ⟨w1.heap.size,0,none⟩) 2 2) [so,si]from⟨by simp,_,_,rfl,by simp,by unfold maxLen; omega, .inr ⟨_,_,rfl,trivial,fun j x hj=>by
  rw[hf,bq _ _ _ _ _ _ (aF w1 _),bS]; simpa using hj⟩⟩)
 clear hf ho hl;refine⟨hm, ?_⟩;refine cn 12 rfl (fun K hK=> ?_);go_wp2_with fail;have he:=HE.o.below hv.o;have hc:so.size=64:=by rw[hy.o,bh,jD]; unfold gy; rw[aB,jm]
 have hb:si.size=32:=by rw[hx.o,bh,jD,tG]
 refine(DG (fun _=>True) [so,si] _ w2 hk.o (fun s hs=>by
  simp only[aZ,dq,or_false]at hs;unfold maxLen
  rcases hs with rfl | rfl<;> omega) (by simp) (by unfold mR; rw[bu,bu,List.flatMap_nil,bY,an,<-bh,<-bh,hc,hb]; decide) he.init he.kons he.klt).mono ?_
 rintro e w3 ⟨rfl,hp⟩;have hD:=am (ar hv.o hp);have hz:w3.heap[mb]? =some (.cells C.toArray 225 (0,0)):=dX hp hm;rw[hy.o,hx.o,<-Px];clear hp hm he hc hb;go_wp2_with fail;refine⟨hz, ?_⟩;refine cn 13 rfl (fun K hK=> ?_);go_wp2_with fail;refine⟨hz, ?_⟩;refine cE (by kernel_rfl) ?_;go_wp2_with fail;go_ret;exact⟨rfl,hD.o⟩
theorem uT (S:Nat->Prop) (key:ByteArray) (xs:List UInt8) (xv:Value) (w:World) (hk:key.size<=64) (hx:bH S w xv xs) (hlen:xs.length<281474976710656) (hE:AB w):
  Calls Tryz.prog 116 #[.string key,xv] w fun e w'=>e= .returned (.string ⟨(yH (bl key) xs).toArray⟩)/\Below w.heap.size w w':=by
 have HX:=am hx;have HE:=am hE;clear hx hE
 go_enter Tryz.func116,Tryz.ntmps116
 go_wp2_with fail;refine(CD key w hk HE.o.init HE.o.kons HE.o.pads HE.o.klt HE.o.plt HE.o.ilt).mono ?_;rintro e w1 ⟨mb,rfl,hh,hm,hb⟩;have HM:=am hm;have HB:=am hb;clear hm hb;go_wp2_with fail;refine(yk mb (bl key) [] xs xv w1 HM.o ?_ (by simp; omega) (HE.o.below HB.o) (by have:=HE.o.klt; omega)).mono ?_
 ·have h2:=cC.mono (T:=fun k=>k≠mb) HX.o (fun k hk _=>by show k≠mb; omega) (by omega);exact cC.below h2 (by omega) HB.o
 ·rintro e w2 ⟨rfl,ha,he⟩;rw[aJ]at ha;have hg:=am ha;have hc:=am (HB.o.grown he HB.o.size (fun k hk=>by cases hk; omega));clear ha he;go_wp2_with fail;refine(CE mb (bl key) xs w2 hg.o (by omega) (HE.o.below hc.o)).mono ?_;rintro e w3 ⟨rfl,hd⟩;have hf:=am (ar hc.o hd);clear hd;go_wp2_with fail;go_ret;exact⟨rfl,hf.o⟩
end Go.Proofs.YtpffpjbkbaleiaaGreatDoor
namespace Go.Proofs.YtpffpjbkbaleiaaGreatDoor
open Go.RowKit
def jJ :Nat->Nat->List UInt8
 | 0,n=>[UInt8.ofNat n]
 | f+1,n=>if 127<n then UInt8.ofNat (n%128+128)::jJ f (n/128)else [UInt8.ofNat n]
def bD (n:Nat):List UInt8:=jJ 10 n
theorem Dh : ∀(f n:Nat),(jJ f n).length<=f+1
 | 0,_=>by simp[jJ]
 | f+1,n=>by
  rw[jJ]
  split
  ·have:=Dh f (n/128); simp; omega
  ·simp
theorem dt (n:Nat):(bD n).length<=11:=Dh 10 n
def KL (bs:List UInt8) (w:World) (e:Ending) (w':World):Prop:= ∃v,e= .returned v/\bH (w.heap.size<= ·) w' v bs/\Below w.heap.size w w'
theorem lZ {n:Nat} (h:n<256):aY (UInt8.ofNat n)= .int .u8 (n:Int):=by
 unfold aY; rw[dR (by exact h)]
theorem oX (b:UInt8): ∀u∈[aY b],u.oneCell'=true:=by simp[aY,Value.oneCell']
theorem ms (n:Nat) (w:World) (hn:n<18446744073709551616):Calls Tryz.prog 103 #[.int .u64 (n:Int)] w (KL (bD n) w):=by
 have HO:=am (dg (e:=5) (size:=1) (base:=w.heap.size) w #[] 0 (ak _) (aW _) (by simp));have HB:=am ((au w.heap.size w).alloc (ak _) (.cells #[] 5))
 go_enter Tryz.func103,Tryz.ntmps103
 go_wp2_with fail
 go_loopw [0,3] (fun x o wr=> ∃(f m:Nat) (acc:List UInt8),x= .int .u64 (m:Int)/\m<18446744073709551616/\m<2^(7*f)/\acc++jJ f m=bD n/\wr.ownsRow w.heap.size 5 1 o acc.length (acc.map aY)/\acc.length<=20/\Below w.heap.size w wr) (fun x _ _=>(intOf x).toNat)
 case atStart=>exact⟨10,n,[],rfl,hn,iV hn (by decide),rfl,HO.o,by simp,HB.o⟩
 case round=>
  obtain⟨f,m,acc,rfl,hm,hs,he,hd,hw,hb⟩:=hrel;have HE:=am he;have hf:=am hd;have hq:=am hb;have hr:=am hs;have hg:=hb.size;obtain⟨ao,co,rfl,h1,h2⟩:=aH hd;clear he hd hb hs HO HB
  by_cases hp:127<m
  ·have hv:Value.int .u8 ((m:Int)%128+128)=aY (UInt8.ofNat (m%128+128)):=by rw[lZ (by omega)]; simp
   have HV:=am hv;obtain⟨f,rfl⟩: ∃g,f=g+1:=⟨f-1,by
    cases f with
    | zero=>have:=hr.o; simp at this; omega
    | succ g=>rfl⟩
   have hj:=am (show(acc++[UInt8.ofNat (m%128+128)])++jJ f (m/128)=bD n by rw[<-HE.o,jJ,if_pos hp]; simp);have hl:=am (show m/128<2^(7*f) by
    have h3:=hr.o;rw[show 7*(f+1)=7*f+7 by omega,gj]at h3;exact eS (by omega))
   have hu:acc.length<=10:=by
    have h4:=dt n;rw[<-HE.o,an,jJ,if_pos hp,aD]at h4;omega
   clear hv;go_wp2_with (at_builtin; go_must (refine iL Tryz.appBytes rfl _ _ rfl w.heap.size (.slice ao acc.length co) acc.length (acc.map aY) rfl wr [.int .u8 ((m:Int)%128+128)] _ rfl rfl (by rw[HV.o]; exact oX _) hf.o (by omega) hg ?_); intro v' wc hc ha _; have hh:=am (bX hq.o hf.o ha (ak _) hg); have ho:=am (show wc.ownsRow w.heap.size 5 1 v' (acc++[UInt8.ofNat (m%128+128)]).length ((acc++[UInt8.ofNat (m%128+128)]).map aY) by rw[an,aN,cB,eE,<-HV.o]; exact hc); obtain⟨ae,ce,rfl,-,-⟩:=aH hc; clear hc ha)
   go_roundw
   case rel=>exact⟨f,m/128,acc++[UInt8.ofNat (m%128+128)],by simp,by omega,hl.o,hj.o,ho.o,by simp; omega,hh.o⟩
   case measure=>simp[intOf]; omega
  ·have hv:Value.int .u8 (m:Int)=aY (UInt8.ofNat m):=by rw[lZ (by omega)]
   have HV:=am hv;have hj:=am (show acc++[UInt8.ofNat m]=bD n by
    rw[<-HE.o]
    cases f with
    | zero=>rfl
    | succ f=>rw[jJ,if_neg hp])
   clear hv;go_wp2_with (at_builtin; go_must (refine iL Tryz.appBytes rfl _ _ rfl w.heap.size (.slice ao acc.length co) acc.length (acc.map aY) rfl wr [.int .u8 (m:Int)] _ rfl rfl (by rw[HV.o]; exact oX _) hf.o (by omega) hg ?_); intro v' wc hc ha _; have hh:=am (bX hq.o hf.o ha (ak _) hg); have ho:=am (show wc.ownsRow w.heap.size 5 1 v' (acc++[UInt8.ofNat m]).length ((acc++[UInt8.ofNat m]).map aY) by rw[an,aN,cB,eE,<-HV.o]; exact hc); obtain⟨ae,ce,rfl,-,-⟩:=aH hc; clear hc ha)
   go_ret;rw[<-hj.o];exact⟨_,rfl,(cL ho.o).weak (fun k hk=>hk.1),hh.o⟩
def kY :List UInt8->Nat
 | []=>0
 | b::l=>b.toNat%128+128*kY l
def uC (l:List UInt8):Nat:=kY l%18446744073709551616
def yz (data:List UInt8) (off:Nat):Nat->Nat->Except Int (Nat×Nat)
 | 0,_=> .error 3
 | f+1,k=>match data[off+k]? with
  | none=> .error 3
  | some b=>if 128<=b.toNat then yz data off f (k+1)
   else if bD (uC ((data.drop off).take (k+1)))=(data.drop off).take (k+1)then .ok (uC ((data.drop off).take (k+1)),off+k+1)else .error 3
theorem Bs : ∀l:List UInt8,kY l<2^(7*l.length)
 | []=>by simp[kY]
 | b::l=>by
  have:=Bs l;rw[kY,aD,show 7*(l.length+1)=7*l.length+7 by omega,gj];omega
theorem uB : ∀(l:List UInt8) (b:UInt8),kY (l++[b])=kY l+b.toNat%128*2^(7*l.length)
 | [],b=>by simp[kY]
 | c::l,b=>by
  rw[aK,kY,uB l b,kY,aD,show 7*(l.length+1)=7*l.length+7 by omega,gj,Nat.mul_add];have:128*(b.toNat%128*2^(7*l.length))=b.toNat%128*(2^(7*l.length)*2^7):=by
   rw[Nat.mul_left_comm,Nat.mul_comm 128]
  omega
theorem xT : ∀(f n:Nat),n<2^(7*(f+1))->kY (jJ f n)=n
 | 0,n,h=>by
  have h1:n<128:=h;rw[jJ,kY,kY,dR (by show n<256; omega)]; omega
 | f+1,n,h=>by
  rw[jJ]
  split
  ·rw[kY,xT f (n/128) (by
    rw[show 7*(f+1+1)=7*(f+1)+7 by omega,gj]at h;exact eS (by omega)),dR (by show _<256; omega)]
   omega
  ·rw[kY,kY,dR (by show n<256; omega)]; omega
theorem CT : ∀(f n:Nat) (c:UInt8) (l:List UInt8),0<n->n<2^(7*(f+1))->jJ f n=l++[c]->c.toNat≠0
 | 0,n,c,l,h0,h,he=>by
  have h1:n<128:=h;rw[jJ]at he;have:c=UInt8.ofNat n:=by
   have:=congrArg List.getLast? he
   simpa using this.symm
  rw[this,dR (by show n<256; omega)]; omega
 | f+1,n,c,l,h0,h,he=>by
  rw[jJ]at he
  split at he
  ·cases l with
   | nil=>
    simp only[aJ,gK]at he;have:=congrArg List.length he.2;have h3:(jJ f (n/128)).length≠0:=by cases f<;> (rw[jJ]; try split)<;> simp
    simp at this; exact absurd (by simp[this]) h3
   | cons d l=>
    simp only[aK,gK]at he;exact CT f (n/128) c l (by omega) (by
     rw[show 7*(f+1+1)=7*(f+1)+7 by omega,gj]at h;exact eS (by omega)) he.2
  ·have:c=UInt8.ofNat n:=by
    have:=congrArg List.getLast? he
    simpa using this.symm
   rw[this,dR (by show n<256; omega)]; omega
theorem GP : ∀(f:Nat) (l:List UInt8) (c:UInt8),(∀b∈l,128<=b.toNat)->c.toNat<128->(l≠[]->c.toNat≠0)->l.length<=f->jJ f (kY (l++[c]))=l++[c]
 | f,[],c,_,h2,_,_=>by
  have hv:kY ([]++[c])=c.toNat:=by simp[kY]; omega
  rw[hv];have hc:UInt8.ofNat c.toNat=c:=UInt8.ofNat_toNat
  cases f with
  | zero=>rw[jJ,hc]; rfl
  | succ f=>rw[jJ,if_neg (by omega),hc]; rfl
 | 0,b::l,c,_,_,_,h4=>by simp at h4
 | f+1,b::l,c,h1,h2,h3,h4=>by
  have hb:=h1 b (by simp);have ha:=b.toNat_lt;have hr:=GP f l c (fun x hx=>h1 x (by simp[hx])) h2 (fun _=>h3 (by simp)) (by simpa using h4);have hp:0<kY (l++[c]):=by
   rw[uB];have hc:=h3 (by simp);have:0<c.toNat%128*2^(7*l.length):=Nat.mul_pos (by omega) (Nat.two_pow_pos _);omega
  rw[aK,jJ,kY,if_pos (by omega),show(b.toNat%128+128*kY (l++[c]))/128=kY (l++[c]) by omega,hr,
   show(b.toNat%128+128*kY (l++[c]))%128+128=b.toNat by omega,UInt8.ofNat_toNat]
theorem Mr (m x k:Nat) (h:m<2^k):m ||| (x*2^k)=m+x*2^k:=by
 rw[Nat.or_comm,Nat.mul_comm,<-Nat.two_pow_add_eq_or_of_lt h,lN]
theorem Mp (m:Nat) (b:UInt8) (k:Nat) (hk:k<=9) (h:m<2^(7*k)):yy m b k=(m+b.toNat%128*2^(7*k))%18446744073709551616:=by
 unfold yy;have hb:b.toNat%128<128:=by omega
 generalize b.toNat%128=x at hb
 by_cases h9:k=9
 ·subst h9;have e:x*2^(7*9)%18446744073709551616=x%2*2^(7*9):=by
   simp only[Nat.reduceMul,Nat.reducePow]; omega
  rw[e,Mr _ _ _ h];simp only[Nat.reduceMul,Nat.reducePow]at *;omega
 ·have hp:2^(7*k)*128<=18446744073709551616:=by
   rw[show(128:Nat)=2^7 from rfl,show(18446744073709551616:Nat)=2^64 from rfl,<-gj];exact gL (by omega) (by omega)
  have hx:x*2^(7*k)+2^(7*k)<=2^(7*k)*128:=by
   rw[Nat.mul_comm (2^(7*k)),<-Nat.succ_mul]; exact cY _ (by omega)
  rw[et (by omega),Mr _ _ _ h,et (by omega)]
theorem Dk (data:List UInt8) (off:Nat): ∀(f k:Nat),k+f=10->(∀b∈(data.drop off).take k,128<=b.toNat)->off+k<=data.length->
  oM data f k (off+k) (kY ((data.drop off).take k))=yz data off f k
 | 0,_,_,_,_=>rfl
 | f+1,k,hk,hp,hle=>by
  rw[oM,yz]
  cases hd:data[off+k]? with
  | none=>rfl
  | some b=>
   have hb8:=b.toNat_lt;have hlt:off+k<data.length:=(aG.1 hd).1;have hlen:((data.drop off).take k).length=k:=by simp; omega
   have hh:(data.drop off).take (k+1)=(data.drop off).take k++[b]:=by
    rw[ci,fA,hd]; rfl
   have hm:=Bs ((data.drop off).take k);rw[hlen]at hm;have hs:=uB ((data.drop off).take k) b;rw[hlen,<-hh]at hs;have hn:=Mp _ b k (by omega) hm;rw[<-hs]at hn;simp only
   by_cases ha:128<=b.toNat
   ·rw[if_pos ha,if_pos ha]
    by_cases hf:f=0
    ·subst hf; rfl
    ·have hl:kY ((data.drop off).take (k+1))<18446744073709551616:=by
      have:=Bs ((data.drop off).take (k+1));refine aP this ?_;rw[show(18446744073709551616:Nat)=2^64 from rfl];exact gL (by omega) (by simp; omega)
     rw[hn,et hl];have:=Dk data off f (k+1) (by omega) (by
      intro x hx;rw[hh,aT]at hx
      rcases hx with hx | hx
      ·exact hp x hx
      ·simp at hx; subst hx; exact ha) (by omega)
     exact this
   ·rw[if_neg ha,if_neg ha,hn];have hg:uC ((data.drop off).take (k+1))=kY ((data.drop off).take (k+1))%18446744073709551616:=rfl;have hr:uC ((data.drop off).take (k+1))<2^(7*(10+1)):=by rw[hg]; exact iV (cU _ (by decide)) (by decide)
    by_cases hb:oL b k=true
    ·rw[if_pos hb,if_neg];intro he;have h1:=xT 10 _ hr;rw[show jJ 10 _=_ from he]at h1;simp only[oL,gJ,aI,aL]at hb
     rcases hb with⟨h2,h3⟩ | ⟨h2,h3⟩
     ·have ho:0<kY ((data.drop off).take (k+1))%18446744073709551616:=by
       rcases eO (kY ((data.drop off).take (k+1))%18446744073709551616)with h0 | h0
       ·exfalso
        rw[hg,h0]at he;have:=congrArg List.length he;simp[bD,jJ]at this;omega
       ·exact h0
      exact CT 10 _ b ((data.drop off).take k) (by rw[hg]; exact ho) hr (by rw[<-hh]; exact he) h3
     ·subst h2;rw[hs]at h1;have h5:uC ((data.drop off).take (9+1))<18446744073709551616:=by rw[hg]; exact cU _ (by decide)
      rw[<-h1]at h5;simp only[Nat.reduceMul,Nat.reducePow]at h5;omega
    ·rw[if_neg hb];have hc:oL b k=false:=by simpa using hb
     simp only[oL,fI,Bool.and_eq_false_iff,eQ]at hc;have hq:kY ((data.drop off).take (k+1))<18446744073709551616:=by
      rw[hs]
      by_cases h9:k=9
      ·subst h9;have: ¬1<b.toNat:=hc.2.elim (fun h=>absurd rfl h) id;simp only[Nat.reduceMul,Nat.reducePow]at hm ⊢;omega
      ·have hp:2^(7*k)*128<=18446744073709551616:=by
        rw[show(128:Nat)=2^7 from rfl,show(18446744073709551616:Nat)=2^64 from rfl,<-gj];exact gL (by omega) (by omega)
       have hx:b.toNat%128*2^(7*k)+2^(7*k)<=2^(7*k)*128:=by
        rw[Nat.mul_comm (2^(7*k)),<-Nat.succ_mul]; exact cY _ (by omega)
       omega
     have hu:uC ((data.drop off).take (k+1))=kY ((data.drop off).take (k+1)):=by rw[hg,et hq]
     have hj:bD (uC ((data.drop off).take (k+1)))=(data.drop off).take (k+1):=by
      rw[hu,hh];refine GP 10 _ b hp (by omega) ?_ (by omega);intro hv;have:0<k:=by
       rcases eO k with h0 | h0
       ·subst h0; simp at hv
       ·exact h0
      rcases hc.1 with h | h
      ·exact absurd this h
      ·exact h
     rw[if_pos hj,et hq,hu]
theorem Mn (data:List UInt8) (off:Nat) (h:off<=data.length):oa data off=yz data off 10 0:=by
 have:=Dk data off 10 0 rfl (by simp) (by omega)
 simpa [kY,oa]using this
theorem Lo {S:Nat->Prop} {w w':World} {a:Option Addr} {n cap:Nat} {l:List UInt8} (hv:bH S w (.slice a n cap) l) (hb:Below w.heap.size w w') {k:Nat} {x:UInt8} (hx:l[k]? =some x): ∃b o,a=some ⟨b,o,none⟩/\w'.cell? ⟨b,o+k,none⟩=some (.int .u8 (x.toNat:Int)):=by
 obtain⟨hl,a',cap',ha,_,_,h0⟩:=hv
 cases ha
 rcases h0 with h0 | ⟨b,o,rfl,_,hc⟩
 ·simp[List.eq_nil_of_length_eq_zero h0]at hx
 ·have h1:=hc k (aY x) (by simp[hx]);exact⟨b,o,rfl,(hb.cell (cF h1)).trans h1⟩
theorem Om {data:List UInt8} {off f k:Nat} {b:UInt8} (h:data[off+k]? =some b) (h1: ¬128<=b.toNat) (h2:bD (uC ((data.drop off).take (k+1)))=(data.drop off).take (k+1)):yz data off (f+1) k= .ok (uC ((data.drop off).take (k+1)),off+(k+1)):=by
 rw[yz,h]; simp only[if_neg h1,if_pos h2]; rfl
theorem JH {data:List UInt8} {off f k:Nat} {b:UInt8} (h:data[off+k]? =some b) (h1:128<=b.toNat):yz data off (f+1) k=yz data off f (k+1):=by
 rw[yz,h]; simp only[if_pos h1]
structure jB where
 kind:Int
 u:Nat
 n:Int
 b:Bool
 s:ByteArray
 most:Int
def sw (x:jB):List Value:=[.int .i64 x.kind, .int .u64 (x.u:Int), .int .i64 x.n, .bool x.b, .string x.s, .int .i64 x.most]
structure yg (x : jB) : Prop where
 u:x.u<18446744073709551616
 n: -9223372036854775808<=x.n/\x.n<=9223372036854775807
 s:x.s.size<=65536
 k:x.kind≠2
def NG (c:List Value) (x:jB):Prop:=c=sw x/\yg x
theorem NG.len (c:List Value) (x:jB) (h:NG c x):c.length=6:=by rw[h.1]; rfl
def yO (S:Nat->Prop) (w:World) (v:Value) (l:List jB):Prop:=cP S w 6 NG v l
theorem Pv {S:Nat->Prop} {w w':World} {a:Option Addr} {n cap:Nat} {l:List jB} (hv:yO S w (.slice a n cap) l) (hb:Below w.heap.size w w') {k:Nat} {x:jB} (hr:l[k]? =some x):
  ∃b o,a=some ⟨b,o,none⟩/\yg x/\ ∀j,j<6->w'.cell? ⟨b,o+k*6+j,none⟩=(sw x)[j]? :=by
 obtain⟨a',cap',he,_,_,hx⟩:=cP.shape hv NG.len
 cases he
 obtain⟨b,o,c,rfl,hS,⟨rfl,hd⟩,_,ha⟩:=hx k x hr;have q0:=ha 0 (by omega);have hc:b<w.heap.size:=cF (a:=⟨b,o+(k*6+0),none⟩) (v:= .int .i64 x.kind) q0;refine⟨b,o,rfl,hd,fun j hj=> ?_⟩;rw[dd];exact(hb.cell (p:=⟨b,o+(k*6+j),none⟩) hc).trans (ha j hj)
def lw (x:jB):Except Int (List UInt8):=
 if x.kind=1 then .ok (bD x.u)
 else if x.kind=3 then .ok [if x.b then 1 else 0]
 else if x.kind=4\/x.kind=5 then .ok (bD x.s.size++bl x.s)
 else if x.kind=6 then(if x.s.size=32 then .ok (bl x.s)else .error 1)
 else if x.kind=7 then(if x.n<0 then .error 1 else .ok (bD x.n.toNat))
 else .ok []
def fy :List jB->Except Int (List UInt8)
 | []=> .ok []
 | x::l=>match lw x with
  | .error e=> .error e
  | .ok a=>match fy l with
   | .error e=> .error e
   | .ok b=> .ok (a++b)
theorem rT {x:jB} {e:Int} : ∀ {l:List jB} {k:Nat} {a:List UInt8},fy (l.take k)= .ok a->l[k]? =some x->lw x= .error e->fy l= .error e
 | [],k,a,_,h2,_=>by simp at h2
 | y::l,0,a,_,h2,h3=>by
  simp at h2; subst h2;simp only[fy,h3]
 | y::l,k+1,a,h1,h2,h3=>by
  rw[aR,fy]at h1
  cases hy:lw y with
  | error e=>rw[hy]at h1; simp at h1
  | ok b=>
   rw[hy]at h1;simp only at h1
   cases hk:fy (l.take k)with
   | error e=>rw[hk]at h1; simp at h1
   | ok c=>
    have:=rT hk (by simpa using h2) h3;simp only[fy,hy,this]
theorem jk {x:jB} {b:List UInt8} : ∀ {l:List jB} {a:List UInt8},fy l= .ok a->lw x= .ok b->fy (l++[x])= .ok (a++b)
 | [],a,h1,h2=>by
  simp only[fy,dp]at h1;subst h1;simp[fy,h2]
 | y::l,a,h1,h2=>by
  rw[fy]at h1
  cases hy:lw y with
  | error e=>rw[hy]at h1; simp at h1
  | ok c=>
   rw[hy]at h1;simp only at h1
   cases hk:fy l with
   | error e=>rw[hk]at h1; simp at h1
   | ok d=>
    rw[hk]at h1;simp only[dp]at h1;subst h1;simp only[aK,fy,hy,jk hk h2,bi]
def yj (l:List jB):Except Int (List UInt8):=match fy l with
 | .error e=> .error e
 | .ok out=>if 1048576<out.length then .error 2 else .ok out
def OW (res:Except Int (List UInt8)) (w:World) (e:Ending) (w':World):Prop:=Below w.heap.size w w'/\match res with
 | .error x=>e= .returned (.tuple #[.slice none 0 0, .int .i64 x])/\x≠0
 | .ok bs=> ∃v,e= .returned (.tuple #[v, .int .i64 0])/\bH (w.heap.size<= ·) w' v bs
def Eg (res:Except Int (List UInt8)) (w:World) (e:Ending) (w':World):Prop:=Below w.heap.size w w'/\match res with
 | .error x=>e= .returned (.tuple #[.slice none 0 0, .int .i64 x])/\x≠0
 | .ok bs=> ∃v,e= .returned (.tuple #[v, .int .i64 0])/\w'.ownsRow w.heap.size 5 1 v bs.length (bs.map aY)
theorem Eg.res {res:Except Int (List UInt8)} {w w':World} {e:Ending} (h:Eg res w e w'):OW res w e w':=by
 refine⟨h.1, ?_⟩;have h2:=h.2
 cases res with
 | error x=>exact h2
 | ok bs=>
  obtain⟨v,h3,h4⟩:=h2;exact⟨v,h3,(cL h4).weak (fun k hk=>hk.1)⟩
theorem DN (s:ByteArray):Lib.strCells s=(bl s).map aY:=rfl
theorem kZ {ops:Array Oper} {rest:List Oper} {o:Oper} {a:Act} {Q:Exit->Act->World->Prop} {w:World} (hgd:o.guard=none) (sl x:Operand)
  (ho:o.op= .call {callee:= .builtin .append,args:= #[sl,x],argTypes:= #[29,9]}) (base:Nat) (v:Value) (acc:List UInt8) (hs:a.eval sl=v) (hown:w.ownsRow base 5 1 v acc.length (acc.map aY)) (s:ByteArray) (hx:a.eval x= .string s)
  (hn:acc.length+s.size<1099511627775) (hbase:base<=w.heap.size)
  (h: ∀v' w',w'.ownsRow base 5 1 v' (acc.length+s.size) (acc.map aY++(bl s).map aY)->w.grownBy w' v.ownBlock->wpList Tryz.prog ops Q rest (a.put o.dst v') w'):wpList Tryz.prog ops Q (o::rest) a w:=by
 obtain⟨ht,⟨i,z,ha,he,hb,hc,hf⟩,hd,hg⟩:=Tryz.appBytes;have hz:i.zero=some (.int .u8 0):=by
  have:(Tryz.prog.info? 5).map (fun i=>i.zero)=some (some (.int .u8 0)):=by kernel_rfl
  rw[ha]at this;exact bC this
 refine Lib.wpList_append_own_string w hgd sl x 29 9 ho base 5 i ht dQ ha hz hb hc v acc.length _ hs hown s hx (by unfold maxLen; omega) (by omega) hbase fun v' w' h1 h2 _=>h v' w' ?_ h2
 rw[<-DN];exact h1
theorem su {w:World} {base:Nat} {e:TypeId} {sz:Nat} {v:Value} {n:Nat} {xs:List Value} {k:Nat} (h:w.ownsRow base e sz v n xs) (hk:v.ownBlock=some k): ∃cs,w.heap[k]? =some (.cells cs e (0,0)):=by
 obtain⟨_,h2⟩:=h
 rcases h2 with⟨rfl,rfl⟩ | ⟨g,cap,cur,rfl,_,hh,_⟩
 ·cases hk
 ·have:g=k:=by simpa [Value.ownBlock]using hk
  subst this;exact⟨cur,hh⟩
theorem EC (S:Nat->Prop) (v:Value) (l:List jB) (w:World) (hv:yO S w v l) (hlen:l.length<=1000000):Calls Tryz.prog 57 #[v] w (Eg (yj l) w):=by
 obtain⟨a,cap,rfl,hc,hm,-⟩:=cP.shape hv NG.len;unfold maxLen at hm;have HV:=am hv;have Hb:=am (dg (e:=5) (size:=1) (base:=w.heap.size) w #[] 0 (ak _) (aW _) (by simp));have h9:=am ((au w.heap.size w).alloc (ak _) (.cells #[] 5));clear hv
 go_enter Tryz.func57,Tryz.ntmps57
 go_wp2_with fail
 go_loopw [4,5] (fun o i wr=> ∃(k:Nat) (acc:List UInt8),k<=l.length/\i= .int .i64 k/\fy (l.take k)= .ok acc/\wr.ownsRow w.heap.size 5 1 o acc.length (acc.map aY)/\acc.length<=k*65556/\Below w.heap.size w wr) (fun _ i _=>l.length-(intOf i).toNat)
 case atStart=>exact⟨0,[],aW _,rfl,rfl,Hb.o,by simp,h9.o⟩
 case round=>
  obtain⟨k,acc,hk,rfl,hS,hN,Hg,hb⟩:=hrel;have HE:=am hS;have HO:=am hN;have HB:=am hb;obtain⟨ao,co,rfl,Hl,Hm⟩:=aH hN;clear hS hN hb Hb h9
  by_cases Hh:k<l.length
  ·obtain⟨x,hx⟩: ∃x,l[k]? =some x:=⟨l[k],by simp[Hh]⟩;obtain⟨b0,o,rfl,hU,hJ⟩:=Pv HV.o HB.o hx;have HG:=am hx;have hE:=am (dL hx);have Hk:=hU.u;have Hj:=hU.s;have hX:=hU.k;obtain⟨h0,h8⟩:=hU.n;have q0:=hJ 0 (by omega);have q1:=hJ 1 (by omega);have q2:=hJ 2 (by omega);have q3:=hJ 3 (by omega);have q4:=hJ 4 (by omega);have q5:=hJ 5 (by omega)
   simp only[sw,ah,aj,cT]at q0 q1 q2 q3 q4 q5;obtain⟨kd,u,n,b,s,mo⟩:=x;simp only at Hk Hj hX h0 h8 q0 q1 q2 q3 q4 q5;clear hx hJ hU;have hP:=am ((au wr.heap.size wr).alloc (ak _) (.cells #[.int .i64 kd, .int .u64 (u:Int), .int .i64 n, .bool b, .string s, .int .i64 mo] 96));have hr:=am (jv HO.o hP.o)
   have hn:=am (ar HB.o hP.o)
   by_cases h1:kd=1
   ·subst h1;have HX:=am (show lw ⟨1,u,n,b,s,mo⟩= .ok (bD u)from rfl);have hl:=am (show acc.length+(bD u).length<=(k+1)*65556 by have:=dt u; omega);have He:=dt u;go_wp2_with fail;refine(ms u _ (by omega)).mono ?_;rintro e w1 ⟨nv,rfl,hB,hh⟩;have hH:=am hB;have hs:=am (ar hn.o hh);have hy:=am (jv hr.o hh)
    have he:=hs.o.size;obtain⟨_,na,nc,rfl,hL,hM,-⟩:=hB;clear hh q0 q1 q2 q3 q4 q5;go_wp2_with (at_builtin; go_must (refine eh Tryz.appBytes rfl _ _ rfl w.heap.size (.slice ao acc.length co) acc.length (acc.map aY) rfl hy.o _ (bD u).length ((bD u).map aY) rfl hH.o (fj _) (by omega) he ?_); intro v' wc hd ha; have hg:=am hd; have ho:=am (bX hs.o hy.o ha (ak _) he); obtain⟨ae,ce,rfl,-,-⟩:=aH hd; clear hd ha)
    go_roundw
    case rel=>exact⟨k+1,acc++(bD u),by omega,by go_num,by rw[hE.o]; exact jk HE.o HX.o,by rw[an,aN]; exact hg.o,by rw[an]; exact hl.o,ho.o⟩
    case measure=>simp[intOf]; omega
   ·by_cases h3:kd=3
    ·subst h3;have he:=hn.o.size
     cases b
     ·have HX:=am (show lw ⟨3,u,n,false,s,mo⟩= .ok [0]from rfl);have hl:=am (show acc.length+([0]:List UInt8).length<=(k+1)*65556 by simp; omega);obtain⟨W,hW⟩: ∃W:World,W=wr.alloc (.cells #[.int .i64 3, .int .u64 (u:Int), .int .i64 n, .bool false, .string s, .int .i64 mo] 96):=⟨_,rfl⟩;rw[<-hW]at hr hn he;clear hP
      go_upto_region 14 with(fail)
      rw[<-hW];clear hW q0 q1 q2 q3 q4 q5;go_wp2_with (at_builtin; go_must (refine iL Tryz.appBytes rfl _ _ rfl w.heap.size (.slice ao acc.length co) acc.length (acc.map aY) rfl W [.int .u8 0] _ rfl rfl (oX 0) hr.o (by omega) he ?_); intro v' wc hd ha _; have hg:=am (show wc.ownsRow w.heap.size 5 1 v' (acc.length+([0]:List UInt8).length) (acc.map aY++([0]:List UInt8).map aY)from hd); have ho:=am (bX hn.o hr.o ha (ak _) he); obtain⟨ae,ce,rfl,-,-⟩:=aH hd; clear hd ha)
      go_roundw
      case rel=>exact⟨k+1,acc++([0]:List UInt8),by omega,by go_num,by rw[hE.o]; exact jk HE.o HX.o,by rw[an,aN]; exact hg.o,by rw[an]; exact hl.o,ho.o⟩
      case measure=>simp[intOf]; omega
     ·have HX:=am (show lw ⟨3,u,n,true,s,mo⟩= .ok [1]from rfl);have hl:=am (show acc.length+([1]:List UInt8).length<=(k+1)*65556 by simp; omega);obtain⟨W,hW⟩: ∃W:World,W=wr.alloc (.cells #[.int .i64 3, .int .u64 (u:Int), .int .i64 n, .bool true, .string s, .int .i64 mo] 96):=⟨_,rfl⟩;rw[<-hW]at hr hn he;clear hP
      go_upto_region 13 with(fail)
      rw[<-hW];clear hW q0 q1 q2 q3 q4 q5;go_wp2_with (at_builtin; go_must (refine iL Tryz.appBytes rfl _ _ rfl w.heap.size (.slice ao acc.length co) acc.length (acc.map aY) rfl W [.int .u8 1] _ rfl rfl (oX 1) hr.o (by omega) he ?_); intro v' wc hd ha _; have hg:=am (show wc.ownsRow w.heap.size 5 1 v' (acc.length+([1]:List UInt8).length) (acc.map aY++([1]:List UInt8).map aY)from hd); have ho:=am (bX hn.o hr.o ha (ak _) he); obtain⟨ae,ce,rfl,-,-⟩:=aH hd; clear hd ha)
      go_roundw
      case rel=>exact⟨k+1,acc++([1]:List UInt8),by omega,by go_num,by rw[hE.o]; exact jk HE.o HX.o,by rw[an,aN]; exact hg.o,by rw[an]; exact hl.o,ho.o⟩
      case measure=>simp[intOf]; omega
    ·by_cases h4:kd=4\/kd=5
     ·have HX:=am (show lw ⟨kd,u,n,b,s,mo⟩= .ok (bD s.size++bl s) by simp only[lw,if_neg h1,if_neg h3,if_pos h4]);have hl:=am (show acc.length+(bD s.size++bl s).length<=(k+1)*65556 by have:=dt s.size; rw[an,<-bh]; omega);have hQ:=am (aF wr (.cells #[.int .i64 kd, .int .u64 (u:Int), .int .i64 n, .bool b, .string s, .int .i64 mo] 96))
      have He:=dt s.size;obtain⟨W,hW⟩: ∃W:World,W=wr.alloc (.cells #[.int .i64 kd, .int .u64 (u:Int), .int .i64 n, .bool b, .string s, .int .i64 mo] 96):=⟨_,rfl⟩;rw[<-hW]at hr hn hQ;clear h1 h3 hX hP
      rcases h4 with rfl | rfl
      ·go_upto_region 17 with(fail)
       rw[<-hW];clear hW q0 q1 q2 q3 q4 q5;refine ez (fun w'=>w'.cell? ⟨wr.heap.size,4,none⟩=some (.string s)) (by kernel_rfl) ?_;obtain⟨W2,hI⟩: ∃W2:World,W2=W.drew:=⟨_,rfl⟩;rw[<-hI];have hC:Below W.heap.size W W2:=by rw[hI]; exact(au _ _).drew
       have hY:=am (ar hn.o hC);have hZ:=am (jv hr.o hC);have hw:=am (dX hC hQ.o);clear hI hC hQ;have c0:=bL (k:=4) hw.o;simp only[ai,aj,ah]at c0
       iterate 5 (refine cA rfl (by kernel_rfl) (fun _ _ _ h=>h) rfl (by go_simp) (by intro w' hO; go_simp; rfl) ?_; simp only[Act.put,aa,ag,ab])
       refine bN 7 rfl (by kernel_rfl) (by kernel_rfl) (by kernel_rfl) (fun _ _ _ h=>h) rfl (by go_simp) (by intro w' hO; go_simp; rfl) ?_;simp only[Act.put,aa,ag,ab];refine bN 8 rfl (by kernel_rfl) (by kernel_rfl) (by kernel_rfl) (fun _ _ _ h=>h) rfl (by go_simp) (by intro w' hO; go_simp; rfl) ?_;simp only[Act.put,aa,ag,ab]
       refine cn 5 rfl (fun K hK=> ?_);go_wp2_with (go_at_call 103; refine(ms s.size _ (by omega)).mono ?_; rintro e w1 ⟨nv,rfl,hB,hh⟩);have hH:=am hB;have hs:=am (ar hY.o hh);have hy:=am (jv hZ.o hh);have hp:=am (dX hh hw.o);have he:=hs.o.size;obtain⟨_,na,nc,rfl,hL,hM,-⟩:=hB;have c1:=bL (k:=4) hp.o;simp only[ai,aj,ah]at c1
       clear hh c0;refine⟨c1, ?_⟩;refine cn 6 rfl (fun K hK=> ?_);go_wp2_with (at_builtin; go_must (refine eh Tryz.appBytes rfl _ _ rfl w.heap.size (.slice ao acc.length co) acc.length (acc.map aY) rfl hy.o _ (bD s.size).length ((bD s.size).map aY) rfl hH.o (fj _) (by omega) he ?_); intro v' wc hd ha);have hf:=am ((ha.block wr.heap.size (aw hp.o) (fun e=>by have:=(HO.o.lt _ e.symm).2; omega)).trans hp.o)
       have hu:=am (bX hs.o hy.o ha (ak _) he);have hq:=am (show wc.ownsRow w.heap.size 5 1 v' (acc++bD s.size).length ((acc++bD s.size).map aY) by rw[an,aN]; exact hd);have hz:=hu.o.size;obtain⟨ae,ce,rfl,-,-⟩:=aH hd;have c2:=bL (k:=4) hf.o;simp only[ai,aj,ah]at c2
       have hj:(acc++bD s.size).length=acc.length+(bD s.size).length:=an;clear hd ha c1;refine⟨c2, ?_⟩;refine cn 9 rfl (fun K hK=> ?_);have hA:(acc++bD s.size).length+s.size<1099511627775:=by omega
       have hV:Value.slice ae (acc.length+(bD s.size).length) ce= .slice ae (acc++bD s.size).length ce:=by rw[hj]
       have Hf:=am hV;have hG:=am hA;clear hj hA hV;go_wp2_with (at_builtin; go_must (refine kZ rfl _ _ rfl w.heap.size (.slice ae (acc.length+(bD s.size).length) ce) (acc++bD s.size) rfl hq.o s rfl hG.o hz ?_); intro v' wd hd ha);have hF:=am ((ha.block wr.heap.size (aw hf.o) (fun e=>by
        have h1:=hq.o;have h2:=(su h1 e.symm);obtain⟨cs,h2⟩:=h2;have:=hf.o.symm.trans h2;simp at this)).trans hf.o)
       have ho:=am (bX hu.o hq.o ha (ak _) hz);have hg:=am (show wd.ownsRow w.heap.size 5 1 v' (acc.length+(bD s.size++bl s).length) (acc.map aY++(bD s.size++bl s).map aY) by
        have h1:=hd;rw[an,bh,dd,<-an,aN,bi,<-aN]at h1;exact h1)
       obtain⟨nb,hT⟩: ∃nb,nb=bD s.size++bl s:=⟨_,rfl⟩;rw[<-hT]at hg HX hl;clear hT;obtain⟨af,cf,rfl,-,-⟩:=aH hg.o;have c3:=bL (k:=4) hF.o;simp only[ai,aj,ah]at c3;clear hd ha c2;refine⟨c3, ?_⟩;refine cA rfl (by kernel_rfl) (fun _ _ _ h=>h) rfl (by go_simp) (by intro w' hO; go_simp; rfl) ?_
       simp only[Act.put,aa,ag,ab];refine cE (by kernel_rfl) ?_;go_wp2_with fail
       go_roundw
       case rel=>exact⟨k+1,acc++nb,by omega,by go_num,by rw[hE.o]; exact jk HE.o HX.o,by rw[an,aN]; exact hg.o,by rw[an]; exact hl.o,ho.o⟩
       case measure=>simp[intOf]; omega
      ·go_upto_region 17 with(fail)
       rw[<-hW];clear hW q0 q1 q2 q3 q4 q5;refine ez (fun w'=>w'.cell? ⟨wr.heap.size,4,none⟩=some (.string s)) (by kernel_rfl) ?_;obtain⟨W2,hI⟩: ∃W2:World,W2=W.drew:=⟨_,rfl⟩;rw[<-hI];have hC:Below W.heap.size W W2:=by rw[hI]; exact(au _ _).drew
       have hY:=am (ar hn.o hC);have hZ:=am (jv hr.o hC);have hw:=am (dX hC hQ.o);clear hI hC hQ;have c0:=bL (k:=4) hw.o;simp only[ai,aj,ah]at c0
       iterate 5 (refine cA rfl (by kernel_rfl) (fun _ _ _ h=>h) rfl (by go_simp) (by intro w' hO; go_simp; rfl) ?_; simp only[Act.put,aa,ag,ab])
       refine bN 7 rfl (by kernel_rfl) (by kernel_rfl) (by kernel_rfl) (fun _ _ _ h=>h) rfl (by go_simp) (by intro w' hO; go_simp; rfl) ?_;simp only[Act.put,aa,ag,ab];refine bN 8 rfl (by kernel_rfl) (by kernel_rfl) (by kernel_rfl) (fun _ _ _ h=>h) rfl (by go_simp) (by intro w' hO; go_simp; rfl) ?_;simp only[Act.put,aa,ag,ab]
       refine cn 5 rfl (fun K hK=> ?_);go_wp2_with (go_at_call 103; refine(ms s.size _ (by omega)).mono ?_; rintro e w1 ⟨nv,rfl,hB,hh⟩);have hH:=am hB;have hs:=am (ar hY.o hh);have hy:=am (jv hZ.o hh);have hp:=am (dX hh hw.o);have he:=hs.o.size;obtain⟨_,na,nc,rfl,hL,hM,-⟩:=hB;have c1:=bL (k:=4) hp.o;simp only[ai,aj,ah]at c1
       clear hh c0;refine⟨c1, ?_⟩;refine cn 6 rfl (fun K hK=> ?_);go_wp2_with (at_builtin; go_must (refine eh Tryz.appBytes rfl _ _ rfl w.heap.size (.slice ao acc.length co) acc.length (acc.map aY) rfl hy.o _ (bD s.size).length ((bD s.size).map aY) rfl hH.o (fj _) (by omega) he ?_); intro v' wc hd ha);have hf:=am ((ha.block wr.heap.size (aw hp.o) (fun e=>by have:=(HO.o.lt _ e.symm).2; omega)).trans hp.o)
       have hu:=am (bX hs.o hy.o ha (ak _) he);have hq:=am (show wc.ownsRow w.heap.size 5 1 v' (acc++bD s.size).length ((acc++bD s.size).map aY) by rw[an,aN]; exact hd);have hz:=hu.o.size;obtain⟨ae,ce,rfl,-,-⟩:=aH hd;have c2:=bL (k:=4) hf.o;simp only[ai,aj,ah]at c2
       have hj:(acc++bD s.size).length=acc.length+(bD s.size).length:=an;clear hd ha c1;refine⟨c2, ?_⟩;refine cn 9 rfl (fun K hK=> ?_);have hA:(acc++bD s.size).length+s.size<1099511627775:=by omega
       have hV:Value.slice ae (acc.length+(bD s.size).length) ce= .slice ae (acc++bD s.size).length ce:=by rw[hj]
       have Hf:=am hV;have hG:=am hA;clear hj hA hV;go_wp2_with (at_builtin; go_must (refine kZ rfl _ _ rfl w.heap.size (.slice ae (acc.length+(bD s.size).length) ce) (acc++bD s.size) rfl hq.o s rfl hG.o hz ?_); intro v' wd hd ha);have hF:=am ((ha.block wr.heap.size (aw hf.o) (fun e=>by
        have h1:=hq.o;have h2:=(su h1 e.symm);obtain⟨cs,h2⟩:=h2;have:=hf.o.symm.trans h2;simp at this)).trans hf.o)
       have ho:=am (bX hu.o hq.o ha (ak _) hz);have hg:=am (show wd.ownsRow w.heap.size 5 1 v' (acc.length+(bD s.size++bl s).length) (acc.map aY++(bD s.size++bl s).map aY) by
        have h1:=hd;rw[an,bh,dd,<-an,aN,bi,<-aN]at h1;exact h1)
       obtain⟨nb,hT⟩: ∃nb,nb=bD s.size++bl s:=⟨_,rfl⟩;rw[<-hT]at hg HX hl;clear hT;obtain⟨af,cf,rfl,-,-⟩:=aH hg.o;have c3:=bL (k:=4) hF.o;simp only[ai,aj,ah]at c3;clear hd ha c2;refine⟨c3, ?_⟩;refine cA rfl (by kernel_rfl) (fun _ _ _ h=>h) rfl (by go_simp) (by intro w' hO; go_simp; rfl) ?_
       simp only[Act.put,aa,ag,ab];refine cE (by kernel_rfl) ?_;go_wp2_with fail
       go_roundw
       case rel=>exact⟨k+1,acc++nb,by omega,by go_num,by rw[hE.o]; exact jk HE.o HX.o,by rw[an,aN]; exact hg.o,by rw[an]; exact hl.o,ho.o⟩
       case measure=>simp[intOf]; omega
     ·by_cases h6:kd=6
      ·subst h6
       by_cases hD:s.size=32
       ·have HX:=am (show lw ⟨6,u,n,b,s,mo⟩= .ok (bl s) by simp[lw,hD]);have hl:=am (show acc.length+(bl s).length<=(k+1)*65556 by rw[<-bh]; omega);have e1:((s.size:Int) != 32)=false:=by simp; omega
        have he:=hn.o.size;clear hD;go_wp2_with (at_builtin; go_must (refine kZ rfl _ _ rfl w.heap.size (.slice ao acc.length co) acc rfl hr.o s rfl (by omega) he ?_); intro v' wc hd ha; have hg:=am (show wc.ownsRow w.heap.size 5 1 v' (acc.length+(bl s).length) (acc.map aY++(bl s).map aY) by rw[<-bh]; exact hd); have ho:=am (bX hn.o hr.o ha (ak _) he); obtain⟨ae,ce,rfl,-,-⟩:=aH hd; clear hd ha)
        go_roundw
        case rel=>exact⟨k+1,acc++(bl s),by omega,by go_num,by rw[hE.o]; exact jk HE.o HX.o,by rw[an,aN]; exact hg.o,by rw[an]; exact hl.o,ho.o⟩
        case measure=>simp[intOf]; omega
       ·have HX:=am (rT HE.o HG.o (show lw ⟨6,u,n,b,s,mo⟩= .error 1 by simp[lw,hD]));have e1:((s.size:Int) != 32)=true:=by simp; omega
        clear hD;go_wp2_with fail
        go_ret2
        exact⟨hn.o,by unfold yj; rw[HX.o]; exact⟨rfl,by decide⟩⟩
      ·by_cases h7:kd=7
       ·subst h7
        by_cases Hi:n<0
        ·have HX:=am (rT HE.o HG.o (show lw ⟨7,u,n,b,s,mo⟩= .error 1 by simp[lw,Hi]));go_wp2_with fail
         go_ret2
         exact⟨hn.o,by unfold yj; rw[HX.o]; exact⟨rfl,by decide⟩⟩
        ·obtain⟨m,rfl⟩: ∃m:Nat,n=(m:Int):=⟨n.toNat,by omega⟩;have HX:=am (show lw ⟨7,u,(m:Int),b,s,mo⟩= .ok (bD m) by simp[lw]);have hl:=am (show acc.length+(bD m).length<=(k+1)*65556 by have:=dt m; omega);have He:=dt m;go_wp2_with fail;refine(ms m _ (by omega)).mono ?_;rintro e w1 ⟨nv,rfl,hB,hh⟩;have hH:=am hB
         have hs:=am (ar hn.o hh);have hy:=am (jv hr.o hh);have he:=hs.o.size;obtain⟨_,na,nc,rfl,hL,hM,-⟩:=hB;clear hh q0 q1 q2 q3 q4 q5;go_wp2_with (at_builtin; go_must (refine eh Tryz.appBytes rfl _ _ rfl w.heap.size (.slice ao acc.length co) acc.length (acc.map aY) rfl hy.o _ (bD m).length ((bD m).map aY) rfl hH.o (fj _) (by omega) he ?_); intro v' wc hd ha; have hg:=am hd; have ho:=am (bX hs.o hy.o ha (ak _) he); obtain⟨ae,ce,rfl,-,-⟩:=aH hd; clear hd ha)
         go_roundw
         case rel=>exact⟨k+1,acc++(bD m),by omega,by go_num,by rw[hE.o]; exact jk HE.o HX.o,by rw[an,aN]; exact hg.o,by rw[an]; exact hl.o,ho.o⟩
         case measure=>simp[intOf]; omega
       ·have HX:=am (show lw ⟨kd,u,n,b,s,mo⟩= .ok [] by simp only[lw,if_neg h1,if_neg h3,if_neg h4,if_neg h6,if_neg h7]);have hl:=am (show acc.length+([]:List UInt8).length<=(k+1)*65556 from ay Hg (cY _ (Nat.le_succ k)));have Hc: ¬kd=4:=fun e=>h4 (.inl e)
        have Hd: ¬kd=5:=fun e=>h4 (.inr e)
        have e1:(kd == 1)=false:=by simpa using h1
        have e2:(kd == 2)=false:=by simpa using hX
        have e3:(kd == 3)=false:=by simpa using h3
        have e4:(kd == 4)=false:=by simpa using Hc
        have e5:(kd == 5)=false:=by simpa using Hd
        have e6:(kd == 6)=false:=by simpa using h6
        have e7:(kd == 7)=false:=by simpa using h7
        have hg:=am (show World.ownsRow (wr.alloc (.cells #[.int .i64 kd, .int .u64 (u:Int), .int .i64 n, .bool b, .string s, .int .i64 mo] 96)) w.heap.size 5 1 (.slice ao acc.length co) (acc.length+([]:List UInt8).length) (acc.map aY++([]:List UInt8).map aY) by simpa using hr.o);have ho:=hn;clear h1 h3 h4 h6 h7 hX Hc Hd;go_wp2_with fail
        go_roundw
        case rel=>exact⟨k+1,acc++([]:List UInt8),by omega,by go_num,by rw[hE.o]; exact jk HE.o HX.o,by rw[an,aN]; exact hg.o,by rw[an]; exact hl.o,ho.o⟩
        case measure=>simp[intOf]; omega
  ·obtain rfl:k=l.length:=by omega
   have Ha:=am (show fy l= .ok acc by have:=HE.o; rwa [bB (ak _)]at this)
   by_cases hR:1048576<acc.length
   ·have HX:=am (show yj l= .error 2 by unfold yj; rw[Ha.o]; simp only[if_pos hR]);go_wp2_with fail
    go_ret2
    exact⟨HB.o,by rw[HX.o]; exact⟨rfl,by decide⟩⟩
   ·have HX:=am (show yj l= .ok acc by unfold yj; rw[Ha.o]; simp only[if_neg hR]);go_wp2_with fail
    go_ret2
    exact⟨HB.o,by rw[HX.o]; exact⟨_,rfl,HO.o⟩⟩
def rvV (x:jB):Value:= .agg #[.int .i64 x.kind, .int .u64 (x.u:Int), .int .i64 x.n, .bool x.b, .string x.s, .int .i64 x.most]
def iP (n:Int):jB:=⟨1,(n%18446744073709551616).toNat,0,false,⟨#[]⟩,0⟩
def FJ (s:ByteArray):jB:=⟨6,0,0,false,s,0⟩
def nV (s:ByteArray):jB:=⟨5,0,0,false,s,0⟩
def jN (n:Nat):jB:=⟨7,0,(n:Int),false,⟨#[]⟩,0⟩
def eA (r:cy):List jB:=[FJ r.name,iP r.gen,iP r.size]
theorem oA (n:Int):yg (iP n):=⟨by simp only[iP]; omega,by simp[iP],by simp only[iP]; decide,by simp[iP]⟩
theorem OL {s:ByteArray} (h:s.size<=65536):yg (FJ s):=⟨by simp[FJ],by simp[FJ],h,by simp[FJ]⟩
theorem tJ {s:ByteArray} (h:s.size<=65536):yg (nV s):=⟨by simp[nV],by simp[nV],h,by simp[nV]⟩
theorem yZ {n:Nat} (h:n<=1000000):yg (jN n):=⟨by simp[jN],by simp only[jN]; omega,by simp only[jN]; decide,by simp[jN]⟩
theorem pT {r:cy} (h:r.name.size<=65536): ∀x∈eA r,yg x:=by
 intro x hx;simp only[eA,aZ,dq,or_false]at hx
 rcases hx with rfl | rfl | rfl
 ·exact OL h
 ·exact oA _
 ·exact oA _
theorem Bq : ∀ {l:List jB},(∀x∈l,yg x)->eR NG (l.flatMap sw) l
 | [],_=>rfl
 | x::l,h=>⟨sw x,l.flatMap sw,rfl,⟨rfl,h x (by simp)⟩,Bq (fun y hy=>h y (by simp[hy]))⟩
theorem wrap_u64 (n:Int):IntKind.u64.wrap n=((n%18446744073709551616).toNat:Int):=by rw[cQ]; omega
theorem lD (n:Int) (w:World):Calls Tryz.prog 55 #[.int .i64 n] w fun e w'=>e= .returned (rvV (iP n))/\Below w.heap.size w w':=by
 have hw:=wrap_u64 n;obtain⟨m,hm⟩: ∃m:Nat,m=(n%18446744073709551616).toNat:=⟨_,rfl⟩;have ha:iP n=⟨1,m,0,false,⟨#[]⟩,0⟩:=by rw[hm]; rfl
 rw[<-hm]at hw;have HN:=am ha;clear hm ha
 go_enter Tryz.func55,Tryz.ntmps55
 go_wp2_with fail;exact cM (v:= .agg #[.int .i64 1, .int .u64 (m:Int), .int .i64 0, .bool false, .string ⟨#[]⟩, .int .i64 0]) (by simp[results,Tryz.results55,go_sem]) rfl ⟨by rw[HN.o]; rfl,eK⟩
def Pa (l:List jB) (w:World) (e:Ending) (w':World):Prop:= ∃v,e= .returned v/\yO (w.heap.size<= ·) w' v l/\Below w.heap.size w w'
theorem qj (r:cy) (w:World) (hs:r.name.size<=65536):Calls Tryz.prog 56 #[ef r] w (Pa (eA r) w):=by
 have HB:=am ((au w.heap.size w).alloc (ak _) (.cells #[.string r.name, .int .i64 r.gen, .int .i64 r.size] 26));have ho:=am (aF w (.cells #[.string r.name, .int .i64 r.gen, .int .i64 r.size] 26));have hr:=am (pT hs);unfold ef;clear hs
 go_enter Tryz.func56,Tryz.ntmps56
 go_wp2_with fail;refine ez (fun w'=>w'.cell? ⟨w.heap.size,0,none⟩=some (.string r.name)/\w'.cell? ⟨w.heap.size,1,none⟩=some (.int .i64 r.gen)/\w'.cell? ⟨w.heap.size,2,none⟩=some (.int .i64 r.size)) (by kernel_rfl) ?_;obtain⟨W,hW⟩: ∃W:World,W=(w.alloc (.cells #[.string r.name, .int .i64 r.gen, .int .i64 r.size] 26)).drew:=⟨_,rfl⟩;rw[<-hW];have hp:=am (show Below w.heap.size w W by rw[hW]; exact HB.o.drew)
 have he:=am (show W.heap[w.heap.size]? =some (.cells #[.string r.name, .int .i64 r.gen, .int .i64 r.size] 26 (0,0)) by rw[hW]; exact ho.o);clear hW HB ho;obtain⟨c0,c1,c2,_⟩:=aU he.o
 iterate 5 (refine cA rfl (by kernel_rfl) (fun _ _ _ h=>h) rfl (by go_simp) (by rintro w' ⟨hl,hm,hb⟩; go_simp; rfl) ?_; simp only[Act.put,aa,ag,ab])
 refine bN 6 rfl (by kernel_rfl) (by kernel_rfl) (by kernel_rfl) (fun _ _ _ h=>h) rfl (by go_simp) (by rintro w' ⟨hl,hm,hb⟩; go_simp; rfl) ?_;simp only[Act.put,aa,ag,ab];refine bN 7 rfl (by kernel_rfl) (by kernel_rfl) (by kernel_rfl) (fun _ _ _ h=>h) rfl (by go_simp) (by rintro w' ⟨hl,hm,hb⟩; go_simp; rfl) ?_
 simp only[Act.put,aa,ag,ab];refine cn 5 rfl (fun K hK=> ?_);go_wp2_with (go_at_call 55; refine(lD r.gen _).mono ?_; rintro e w1 ⟨rfl,hh⟩);have hq:=am (ar hp.o hh);have hf:=am (dX hh he.o);clear hh c0 c1 c2;obtain⟨c0,c1,c2,_⟩:=aU hf.o;refine⟨⟨c0,c1,c2⟩, ?_⟩;refine cn 8 rfl (fun K hK=> ?_)
 go_wp2_with (go_at_call 55; refine(lD r.size _).mono ?_; rintro e w2 ⟨rfl,hj⟩);have hn:=am (ar hq.o hj);have hg:=am (dX hj hf.o);clear hj c0 c1 c2;obtain⟨c0,c1,c2,_⟩:=aU hg.o;refine⟨⟨c0,c1,c2⟩, ?_⟩;refine cn 9 rfl (fun K hK=> ?_);unfold rvV;go_wp2_with fail;have hd:=aw hg.o;have ha:(#[Value.int .i64 6, .int .u64 0, .int .i64 0, .bool false, .string r.name, .int .i64 0, .int .i64 (iP r.gen).kind, .int .u64 (iP r.gen).u, .int .i64 (iP r.gen).n, .bool (iP r.gen).b, .string (iP r.gen).s, .int .i64 (iP r.gen).most, .int .i64 (iP r.size).kind, .int .u64 (iP r.size).u, .int .i64 (iP r.size).n, .bool (iP r.size).b, .string (iP r.size).s, .int .i64 (iP r.size).most]:Array Value)=((eA r).flatMap sw).toArray:=rfl
 rw[ha];obtain⟨w3,hb⟩: ∃w3:World,w3=w2.alloc (.cells ((eA r).flatMap sw).toArray 96):=⟨_,rfl⟩;have hc:=am (show Below w2.heap.size w2 w3 by rw[hb]; exact eK);have HR:=am (show yO (w.heap.size<= ·) w3 (.slice (some ⟨w2.heap.size,0,none⟩) 3 3) (eA r) by
  have h1:=cL (dg (base:=w2.heap.size) (e:=96) (size:=6) w2 ((eA r).flatMap sw).toArray 3 (ak _) (by unfold maxLen; omega) rfl);rw[hb];exact⟨_,h1.weak (fun k hk=>ay hn.o.size hk.1),Bq hr.o⟩)
 rw[<-hb];clear hb ha;refine⟨⟨(hc.o.cell hd).trans c0,(hc.o.cell hd).trans c1,(hc.o.cell hd).trans c2⟩, ?_⟩;refine cA rfl (by kernel_rfl) (fun _ _ _ h=>h) rfl ⟨(hc.o.cell hd).trans c0,(hc.o.cell hd).trans c1,(hc.o.cell hd).trans c2⟩ (by rintro w' ⟨hl,hm,hb⟩; go_simp; rfl) ?_;simp only[Act.put,aa,ag,ab]
 refine cE (by kernel_rfl) ?_;go_wp2_with fail;go_ret;exact⟨_,rfl,HR.o,ar hn.o hc.o⟩
theorem set3 {w:World} {b:Nat} {a0 a1 a2 x0 x1 x2:Value} {t:TypeId} (h:w.heap[b]? =some (.cells #[a0,a1,a2] t (0,0))):
  (((w.setCell ⟨b,0,none⟩ x0).setCell ⟨b,1,none⟩ x1).setCell ⟨b,2,none⟩ x2).heap[b]? =some (.cells #[x0,x1,x2] t (0,0)):=jb (jb (jb h x0) x1) x2
def gd (it:cg):List jB:=
 [nV it.name,iP it.kind,iP it.mode,iP it.time]++
  (if it.kind=1 then jN it.chunks.length::it.chunks.flatMap eA else if it.kind=2 then eA it.node else [nV it.link])
def lK (l:List cg) (k:Nat):List jB:=jN l.length::(l.take k).flatMap gd
def iB (l:List cg):List jB:=jN l.length::l.flatMap gd
theorem vl {l:List cg} {k:Nat} {it:cg} (h:l[k]? =some it):lK l (k+1)=lK l k++gd it:=by
 unfold lK;obtain⟨hk,rfl⟩:=aG.1 h;rw[List.take_succ_eq_append_getElem hk,bP]; simp
theorem FR (l:List cg):lK l l.length=iB l:=by unfold lK iB; rw[bB (ak _)]
theorem KC (l:List cg) (k:Nat):(lK l k).length<=(iB l).length:=by
 unfold lK iB;have h:l.flatMap gd=(l.take k).flatMap gd++(l.drop k).flatMap gd:=by rw[<-bP,du]
 rw[h];simp
structure vz (it : cg) : Prop where
 nm:it.name.size<=65536
 lk:it.link.size<=65536
 nd:it.node.name.size<=65536
 ch: ∀c∈it.chunks,c.name.size<=65536
def tq (l:List cg):List UInt8:=match yj (iB l)with
 | .error _=>[]
 | .ok b=>b
structure AD (w : World) (xb : Nat) (cs : Array Value) (wq : World) (lv : Value) (vals : List jB) : Prop where
 row:wq.ownsRow w.heap.size 96 6 lv vals.length (vals.flatMap sw)
 box:wq.heap[xb]? =some (.cells cs 28 (0,0))
 below:Below w.heap.size w wq
section
variable {w wq w' : World} {xb : Nat} {cs : Array Value} {lv v' : Value} {vals news : List jB}
theorem AD.next (h:AD w xb cs wq lv vals) (hb:Below wq.heap.size wq w'):AD w xb cs w' lv vals:=
 ⟨jv h.row hb,(hb.block xb (aw h.box)).trans h.box,ar h.below hb⟩
theorem AD.app (h:AD w xb cs wq lv vals) (ho:w'.ownsRow w.heap.size 96 6 v' (vals.length+news.length) (vals.flatMap sw++news.flatMap sw)) (hg:wq.grownBy w' lv.ownBlock):AD w xb cs w' v' (vals++news):=by
 refine⟨by rw[an,bP]; exact ho,(hg.block xb (aw h.box) (fun e=> ?_)).trans h.box,bX h.below h.row hg (ak _) h.below.size⟩;obtain⟨c,hc⟩:=su h.row e.symm;have:=h.box.symm.trans hc;simp at this
end
theorem Tryz.appVals :kf Tryz.prog 97 96 6 56:=kf.mk' (z:= .agg #[.int .i64 0, .int .u64 0, .int .i64 0, .bool false, .string ⟨#[]⟩, .int .i64 0]) Tryz.underlying97 (by kernel_rfl) rfl (by decide) (by decide)
theorem tD {l:List jB} : ∀u∈l.flatMap sw,u.oneCell'=true:=by
 intro u hu;obtain⟨x,_,hx⟩:=dz.1 hu;simp only[sw,aZ,dq,or_false]at hx
 rcases hx with rfl | rfl | rfl | rfl | rfl | rfl<;> rfl
theorem ew.lts {S:Nat->Prop} {w:World} {v:Value} {l:List cg} (h:ew S w v l):ew (· <w.heap.size) w v l:=by
 obtain⟨cells,hr,ha⟩:=h;exact⟨cells,hr.mono (fun k hk hS=>hk) (by omega),ha.mono (fun c x _ ⟨cv,h1,⟨cells,h2,h3⟩,h4⟩=>⟨cv,h1,⟨cells,h2.mono (fun k hk _=>hk) (by omega),h3⟩,h4⟩)⟩
theorem oD : ∀(l:List cy),(l.flatMap eA).length=3*l.length
 | []=>rfl
 | x::l=>by rw[bu,an,oD l,aD]; simp[eA]; omega
def GA (it:cg):List jB:=[nV it.name,iP it.kind,iP it.mode,iP it.time]
theorem uU {it:cg} (h:it.kind=1):gd it=GA it++(jN it.chunks.length::it.chunks.flatMap eA):=by unfold gd GA; rw[if_pos h]
theorem EM {it:cg} (h:it.kind=2):gd it=GA it++eA it.node:=by unfold gd GA; rw[if_neg (by omega),if_pos h]
theorem CG {it:cg} (h1: ¬it.kind=1) (h2: ¬it.kind=2):gd it=GA it++[nV it.link]:=by unfold gd GA; rw[if_neg h1,if_neg h2]
theorem NZ (it:cg):(GA it).length=4:=rfl
theorem Jh {it:cg} (h:vz it) (hc:it.chunks.length<=1000000): ∀x∈gd it,yg x:=by
 intro x hx;unfold gd at hx
 rcases aT.1 hx with hx | hx
 ·simp only[aZ,dq,or_false]at hx
  rcases hx with rfl | rfl | rfl | rfl
  ·exact tJ h.nm
  ·exact oA _
  ·exact oA _
  ·exact oA _
 ·split at hx
  ·rcases aZ.1 hx with rfl | hx
   ·exact yZ hc
   ·obtain⟨c,ha,hb⟩:=dz.1 hx;exact pT (h.ch c ha) x hb
  ·split at hx
   ·exact pT h.nd x hx
   ·simp only[aM]at hx; subst hx; exact tJ h.lk
theorem Dg {l:List cg} (hs: ∀it∈l,vz it) (hl:l.length<=1000000) (hn:(iB l).length<=1000000): ∀x∈iB l,yg x:=by
 intro x hx;unfold iB at hx
 rcases aZ.1 hx with rfl | hx
 ·exact yZ hl
 ·obtain⟨it,h1,h2⟩:=dz.1 hx
  by_cases hk:it.kind=1
  ·refine Jh (hs it h1) ?_ x h2;have h3:(gd it).length<=(l.flatMap gd).length:=by
    obtain⟨a,b,rfl⟩:=iq h1;rw[bP,bu,an,an]; omega
   have h4:it.chunks.length<=(gd it).length:=by rw[uU hk,an,aD,oD]; omega
   unfold iB at hn;rw[aD]at hn;omega
  ·unfold gd at h2;rw[if_neg hk]at h2
   rcases aT.1 h2 with hx | hx
   ·simp only[aZ,dq,or_false]at hx
    rcases hx with rfl | rfl | rfl | rfl
    ·exact tJ (hs it h1).nm
    ·exact oA _
    ·exact oA _
    ·exact oA _
   ·split at hx
    ·exact pT (hs it h1).nd x hx
    ·simp only[aM]at hx; subst hx; exact tJ (hs it h1).lk
theorem GZ {S:Nat->Prop} {w:World} {v:Value} {l:List jB} (h:yO S w v l):cC S w 6 v l.length (l.flatMap sw):=by
 obtain⟨cells,h1,h2⟩:=h;have: ∀(l:List jB) (cells:List Value),eR NG cells l->cells=l.flatMap sw:=by
  intro l
  induction l with
  | nil=>intro cells h; exact h
  | cons x l ih=>
   rintro cells ⟨c,rest,rfl,⟨rfl,_⟩,hr⟩;rw[ih rest hr]; rfl
 rw[<-this l cells h2]; exact h1
def lA (v4:List jB) (cs:List cy) (j:Nat):List jB:=v4++(jN cs.length::(cs.take j).flatMap eA)
theorem Ct {v4:List jB} {cs:List cy} {j:Nat} {c:cy} (h:cs[j]? =some c):lA v4 cs (j+1)=lA v4 cs j++eA c:=by
 unfold lA;rw[dL h,bP]; simp
theorem ED (v4:List jB) (cs:List cy):lA v4 cs cs.length=v4++(jN cs.length::cs.flatMap eA):=by unfold lA; rw[bB (ak _)]
theorem IY (v4:List jB) (cs:List cy) (j:Nat):(lA v4 cs j).length<=(v4++(jN cs.length::cs.flatMap eA)).length:=by
 unfold lA;rw[an,an,aD,aD,oD,oD,bm];omega
def Gd (l:List cg) (w:World) (e:Ending) (w':World):Prop:= ∃v,e= .returned v/\w'.ownsRow w.heap.size 5 1 v (tq l).length ((tq l).map aY)/\Below w.heap.size w w'
theorem JI {w:World} {base base' size n:Nat} {e:TypeId} {v:Value} {xs:List Value} (h:w.ownsRow base e size v n xs) (hb:base'<=base):w.ownsRow base' e size v n xs:=
 ⟨h.1,h.2.imp id (fun⟨g,cap,cur,e1,h1,h2⟩=>⟨g,cap,cur,e1,ay hb h1,h2⟩)⟩
theorem Fc (S:Nat->Prop) (v:Value) (l:List cg) (w:World) (hv:ew S w v l) (hs: ∀it∈l,vz it) (hl:(iB l).length<=1000000) (hll:l.length<=1000000):Calls Tryz.prog 17 #[v] w (Gd l w):=by
 obtain⟨a,cap,rfl,hc,hm,-⟩:=cP.shape hv kO.len;unfold maxLen at hm;have HV:=am hv.lts;have HS:=am hs;have HL:=am hl;have Hg:=am (dg (e:=96) (size:=6) (base:=w.heap.size) w #[.int .i64 7, .int .u64 0, .int .i64 (l.length:Int), .bool false, .string ⟨#[]⟩, .int .i64 0] 1 (ak _) (by unfold maxLen; omega) rfl);have Hc:=am ((au w.heap.size w).alloc (ak _) (.cells #[.int .i64 7, .int .u64 0, .int .i64 (l.length:Int), .bool false, .string ⟨#[]⟩, .int .i64 0] 96))
 clear hv hs hl
 go_enter Tryz.func17,Tryz.ntmps17
 go_wp2_with fail
 go_loopw [3,4] (fun lv i wr=> ∃(k:Nat),k<=l.length/\i= .int .i64 k/\wr.ownsRow w.heap.size 96 6 lv (lK l k).length ((lK l k).flatMap sw)/\Below w.heap.size w wr) (fun _ i _=>l.length-(intOf i).toNat)
 case atStart=>exact⟨0,aW _,rfl,Hg.o,Hc.o⟩
 case round=>
  obtain⟨k,hk,rfl,hu,hb⟩:=hrel;have HO:=am hu;have HB:=am hb;obtain⟨ao,co,rfl,HA,HG⟩:=aH hu;clear hu hb Hg Hc
  by_cases Hz:k<l.length
  ·obtain⟨it,hI⟩: ∃it,l[k]? =some it:=⟨l[k],by simp[Hz]⟩;obtain⟨b,o,ca,cc,rfl,Hk,Hl,-,-,hg⟩:=lB HV.o HB.o hI;have He:=am (HS.o it (aQ hI));have hQ:=am (vl hI);have hR:=am (show(lK l k++gd it).length<=1000000 by rw[<-vl hI]; exact ay (KC _ _) HL.o);have q0:=hg 0 (by omega);have q1:=hg 1 (by omega)
   have q2:=hg 2 (by omega);have q3:=hg 3 (by omega);have q4:=hg 4 (by omega);have q5:=hg 5 (by omega);have q6:=hg 6 (by omega);have q7:=hg 7 (by omega);have q8:=hg 8 (by omega);have q9:=hg 9 (by omega);simp only[eW,ah,aj,cT]at q0 q1 q2 q3 q4 q5 q6 q7 q8 q9;obtain⟨W,hW⟩: ∃W:World,W=wr.alloc (.cells #[.string it.name, .int .i64 it.kind, .int .i64 it.mode, .int .i64 it.time, .int .i64 it.size, .string it.link, .slice ca it.chunks.length cc, .string it.node.name, .int .i64 it.node.gen, .int .i64 it.node.size] 28):=⟨_,rfl⟩
   have Hb:=am (show Below wr.heap.size wr W by rw[hW]; exact eK);have hT:=am (show AD w wr.heap.size #[.string it.name, .int .i64 it.kind, .int .i64 it.mode, .int .i64 it.time, .int .i64 it.size, .string it.link, .slice ca it.chunks.length cc, .string it.node.name, .int .i64 it.node.gen, .int .i64 it.node.size] W (.slice ao (lK l k).length co) (lK l k)from⟨jv HO.o Hb.o,by rw[hW]; exact aF wr _,ar HB.o Hb.o⟩)
   have Hh:=am Hl;have HC:=Hk;clear hI hg Hk HC Hl;obtain⟨vk,Hm⟩: ∃vk,vk=lK l k:=⟨_,rfl⟩;rw[<-Hm]at hQ hR hT HA ⊢;clear Hm
   go_upto_region 6 with(fail)
   rw[<-hW];clear hW q0 q1 q2 q3 q4 q5 q6 q7 q8 q9 HO;refine ez (fun w'=>w'.cell? ⟨wr.heap.size,0,none⟩=some (.string it.name)/\w'.cell? ⟨wr.heap.size,1,none⟩=some (.int .i64 it.kind)/\w'.cell? ⟨wr.heap.size,2,none⟩=some (.int .i64 it.mode)/\w'.cell? ⟨wr.heap.size,3,none⟩=some (.int .i64 it.time)) (by kernel_rfl) ?_;obtain⟨W2,h3⟩: ∃W2:World,W2=W.drew:=⟨_,rfl⟩
   rw[<-h3];have hU:=am (hT.o.next (show Below W.heap.size W W2 by rw[h3]; exact(au _ _).drew));clear h3 hT;obtain⟨c0,c1,c2,c3,_⟩:=aU hU.o.box
   iterate 6 (refine cA rfl (by kernel_rfl) (fun _ _ _ h=>h) rfl (by go_simp) (by rintro w' ⟨hL,hM,hN,hn⟩; go_simp; rfl) ?_; simp only[Act.put,aa,ag,ab])
   refine bN 7 rfl (by kernel_rfl) (by kernel_rfl) (by kernel_rfl) (fun _ _ _ h=>h) rfl (by go_simp) (by rintro w' ⟨hL,hM,hN,hn⟩; go_simp; rfl) ?_;simp only[Act.put,aa,ag,ab];refine bN 8 rfl (by kernel_rfl) (by kernel_rfl) (by kernel_rfl) (fun _ _ _ h=>h) rfl (by go_simp) (by rintro w' ⟨hL,hM,hN,hn⟩; go_simp; rfl) ?_
   simp only[Act.put,aa,ag,ab];refine bN 10 rfl (by kernel_rfl) (by kernel_rfl) (by kernel_rfl) (fun _ _ _ h=>h) rfl (by go_simp) (by rintro w' ⟨hL,hM,hN,hn⟩; go_simp; rfl) ?_;simp only[Act.put,aa,ag,ab];refine bN 11 rfl (by kernel_rfl) (by kernel_rfl) (by kernel_rfl) (fun _ _ _ h=>h) rfl (by go_simp) (by rintro w' ⟨hL,hM,hN,hn⟩; go_simp; rfl) ?_
   simp only[Act.put,aa,ag,ab];refine cn 6 rfl (fun K hK=> ?_);go_wp2_with (go_at_call 55; refine(lD it.kind _).mono ?_; rintro e w1 ⟨rfl,hF⟩);have hV:=am (hU.o.next hF);clear hF c0 c1 c2 c3;obtain⟨c0,c1,c2,c3,_⟩:=aU hV.o.box;refine⟨⟨c0,c1,c2,c3⟩, ?_⟩;refine cn 9 rfl (fun K hK=> ?_);go_wp2_with (go_at_call 55; refine(lD it.mode _).mono ?_; rintro e w2 ⟨rfl,Hi⟩)
   have hX:=am (hV.o.next Hi);clear Hi c0 c1 c2 c3;obtain⟨c0,c1,c2,c3,_⟩:=aU hX.o.box;refine⟨⟨c0,c1,c2,c3⟩, ?_⟩;refine cn 12 rfl (fun K hK=> ?_);go_wp2_with (go_at_call 55; refine(lD it.time _).mono ?_; rintro e w3 ⟨rfl,Hj⟩);have hO:=am (hX.o.next Hj);clear Hj c0 c1 c2 c3;obtain⟨c0,c1,c2,c3,_⟩:=aU hO.o.box;refine⟨⟨c0,c1,c2,c3⟩, ?_⟩;refine cn 13 rfl (fun K hK=> ?_)
   unfold rvV;go_wp2_with fail;have hf:(#[Value.int .i64 5, .int .u64 0, .int .i64 0, .bool false, .string it.name, .int .i64 0, .int .i64 (iP it.kind).kind, .int .u64 (iP it.kind).u, .int .i64 (iP it.kind).n, .bool (iP it.kind).b, .string (iP it.kind).s, .int .i64 (iP it.kind).most, .int .i64 (iP it.mode).kind, .int .u64 (iP it.mode).u, .int .i64 (iP it.mode).n, .bool (iP it.mode).b, .string (iP it.mode).s, .int .i64 (iP it.mode).most, .int .i64 (iP it.time).kind, .int .u64 (iP it.time).u, .int .i64 (iP it.time).n, .bool (iP it.time).b, .string (iP it.time).s, .int .i64 (iP it.time).most]:Array Value)=((GA it).flatMap sw).toArray:=rfl
   rw[hf];obtain⟨w4,hn⟩: ∃w4:World,w4=w3.alloc (.cells ((GA it).flatMap sw).toArray 96):=⟨_,rfl⟩;have hE:=am (hO.o.next (show Below w3.heap.size w3 w4 by rw[hn]; exact eK));have Hf:=am (show cC (w.heap.size<= ·) w4 6 (.slice (some ⟨w3.heap.size,0,none⟩) 4 4) 4 ((GA it).flatMap sw) by
    have h1:=cL (dg (base:=w3.heap.size) (e:=96) (size:=6) w3 ((GA it).flatMap sw).toArray 4 (ak _) (by unfold maxLen; omega) rfl);rw[hn];exact h1.weak (fun k hk=>ay hO.o.below.size hk.1))
   rw[<-hn];clear hn hf hU hV hX hO c0 c1 c2 c3;obtain⟨c0,c1,c2,c3,_⟩:=aU hE.o.box;have Hy:vk.length+4<=1000000:=by
    have h1:=hR.o;rw[an]at h1;have h2:4<=(gd it).length:=by unfold gd; simp
    omega
   have hH:=hE.o.below.size;refine⟨⟨c0,c1,c2,c3⟩, ?_⟩;refine cn 14 rfl (fun K hK=> ?_);go_wp2_with (at_builtin; go_must (refine eh Tryz.appVals rfl _ _ rfl w.heap.size (.slice ao vk.length co) vk.length (vk.flatMap sw) rfl hE.o.row _ 4 ((GA it).flatMap sw) rfl Hf.o tD (by omega) hH ?_); intro v' wc hd ha);have h7:=hE.o.app (news:=GA it) hd ha;obtain⟨v4,hp⟩: ∃v4,v4=vk++GA it:=⟨_,rfl⟩
   rw[<-hp]at h7;have he:=am h7;have hZ:=am hp;have HJ:v4.length<=1000000:=by rw[hp,an,NZ]; omega
   clear h7 hp;obtain⟨a7,c7',rfl,-,-⟩:=aH he.o.row;clear hd ha c0 c1 c2 c3 Hf hE hH;obtain⟨c0,c1,c2,c3,_⟩:=aU he.o.box;refine⟨⟨c0,c1,c2,c3⟩, ?_⟩;refine cA rfl (by kernel_rfl) (fun _ _ _ h=>h) rfl (by go_simp) (by rintro w' ⟨hL,hM,hN,hn⟩; go_simp; rfl) ?_;simp only[Act.put,aa,ag,ab]
   refine cE (by kernel_rfl) ?_;clear c0 c1 c2 c3;have hH:=he.o.below.size
   by_cases hq:it.kind=1
   ·have hA:=am (show vk++gd it=v4++(jN it.chunks.length::it.chunks.flatMap eA) by rw[uU hq,hZ.o,bi]);have Hp:=am (show ∀j,(lA v4 it.chunks j).length<=1000000 from fun j=>ay (IY v4 it.chunks j) (by rw[<-hA.o]; exact hR.o));obtain⟨_,_,Hx,Hw,h4,-⟩:=cP.shape Hh.o oU.len
    cases Hx
    unfold maxLen at h4;have e1:(it.kind == 1)=true:=by simpa using hq
    clear hq;obtain⟨c0,c1,c2,c3,c4,c5,c6,c7,c8,c9,_⟩:=aU he.o.box;go_wp2_with (at_builtin; go_must (refine iL Tryz.appVals rfl _ _ rfl w.heap.size (.slice a7 v4.length c7') v4.length (v4.flatMap sw) rfl wc (sw (jN it.chunks.length)) _ rfl rfl (by have:=tD (l:=[jN it.chunks.length]); simpa using this) he.o.row (by omega) hH ?_); intro v' wd hd ha _; have h8:=he.o.app (news:=[jN it.chunks.length]) (by simpa using hd) ha; have hh:=am (show AD w wr.heap.size _ wd v' (lA v4 it.chunks 0)from h8); obtain⟨a8,c8',rfl,-,-⟩:=aH hh.o.row; clear hd ha h8)
    clear c0 c1 c2 c3 c4 c5 c6 c7 c8 c9;obtain⟨wo,HD⟩: ∃wo:World,wo=wr:=⟨_,rfl⟩;subst HD
    go_loopw [3,6] (fun lv i wq=> ∃j:Nat,j<=it.chunks.length/\i= .int .i64 j/\AD w wo.heap.size #[.string it.name, .int .i64 it.kind, .int .i64 it.mode, .int .i64 it.time, .int .i64 it.size, .string it.link, .slice ca it.chunks.length cc, .string it.node.name, .int .i64 it.node.gen, .int .i64 it.node.size] wq lv (lA v4 it.chunks j)) (fun _ i _=>it.chunks.length-(intOf i).toNat)
    case atStart=>exact⟨0,aW _,rfl,hh.o⟩
    case round=>
     obtain⟨j,hj,rfl,hJ⟩:=hrel;have hP:=am hJ;have HF:=Hp.o j;have HE:=hJ.below.size;obtain⟨a9,c9',rfl,-,-⟩:=aH hJ.row;have c6:=bL (k:=6) hJ.box;simp only[ai,aj,ah]at c6;clear hJ hh he
     by_cases Ha:j<it.chunks.length
     ·obtain⟨c,hc⟩: ∃c,it.chunks[j]? =some c:=⟨it.chunks[j],by simp[Ha]⟩;have Ht:=am (show dy (fun k=>k<w.heap.size) wr (.slice ca it.chunks.length cc) it.chunks from dy.same Hh.o (fun k hk hS=>⟨hS,(hP.o.below.block k hS).trans (HB.o.block k hS).symm⟩));obtain⟨b2,o2,rfl,h9,p0,p1,p2⟩:=lH Ht.o (au _ _) hc;have Hq:=am (Ct (v4:=v4) hc)
      have Hn:=am (He.o.ch c (aQ hc));clear hc h9;go_wp2_with fail;refine(qj c _ Hn.o).mono ?_;rintro e w8 ⟨rv,rfl,hw,hG⟩;have hB:=am (hP.o.next hG);have hY:=am (GZ hw);have hr:=hB.o.below.size;obtain⟨ra,rc,rfl,-,-,-⟩:=cP.shape hw NG.len;clear hw hG p0 p1 p2 c6;go_wp2_with (at_builtin; go_must (refine eh Tryz.appVals rfl _ _ rfl w.heap.size (.slice a9 (lA v4 it.chunks j).length c9') (lA v4 it.chunks j).length ((lA v4 it.chunks j).flatMap sw) rfl hB.o.row _ (eA c).length ((eA c).flatMap sw) rfl hY.o tD (by simp only[eA,aD,bo]; omega) hr ?_); intro v' we hd ha; have h8:=hB.o.app (news:=eA c) hd ha; rw[<-Hq.o]at h8; have Hs:=am h8; obtain⟨ae,ce,rfl,-,-⟩:=aH h8.row; clear hd ha h8)
      go_roundw
      case rel=>exact⟨j+1,by omega,by go_num,Hs.o⟩
      case measure=>simp[intOf]; omega
     ·obtain rfl:j=it.chunks.length:=by omega
      have Ho:=am (show vk++gd it=lA v4 it.chunks it.chunks.length by rw[ED,hA.o]);go_wp2_with fail
      go_roundw
      case rel=>exact⟨k+1,by omega,by go_num,by rw[hQ.o,Ho.o]; exact hP.o.row,hP.o.below⟩
      case measure=>simp[intOf]; omega
   ·by_cases hD:it.kind=2
    ·have hA:=am (show vk++gd it=v4++eA it.node by rw[EM hD,hZ.o,bi]);have e1:(it.kind == 1)=false:=by simpa using hq
     have e2:(it.kind == 2)=true:=by simpa using hD
     clear hq hD;obtain⟨c0,c1,c2,c3,c4,c5,c6,c7,c8,c9,_⟩:=aU he.o.box;go_wp2_with fail;refine(qj it.node _ He.o.nd).mono ?_;rintro e w8 ⟨rv,rfl,hw,hG⟩;have hh:=am (he.o.next hG);have hY:=am (GZ hw);have hr:=hh.o.below.size;obtain⟨ra,rc,rfl,-,-,-⟩:=cP.shape hw NG.len;clear hw hG c0 c1 c2 c3 c4 c5 c6 c7 c8 c9;go_wp2_with (at_builtin; go_must (refine eh Tryz.appVals rfl _ _ rfl w.heap.size (.slice a7 v4.length c7') v4.length (v4.flatMap sw) rfl hh.o.row _ (eA it.node).length ((eA it.node).flatMap sw) rfl hY.o tD (by simp only[eA,aD,bo]; omega) hr ?_); intro v' wd hd ha; have h8:=hh.o.app (news:=eA it.node) hd ha; rw[<-hA.o]at h8; obtain⟨v8,hy⟩: ∃v8,v8=vk++gd it:=⟨_,rfl⟩; have h0:=am hy; rw[<-hy]at h8; have hB:=am h8; obtain⟨a8,c8',rfl,-,-⟩:=aH h8.row; clear hd ha h8 hy)
     go_roundw
     case rel=>exact⟨k+1,by omega,by go_num,by rw[hQ.o,<-h0.o]; exact hB.o.row,hB.o.below⟩
     case measure=>simp[intOf]; omega
    ·have hA:=am (show vk++gd it=v4++[nV it.link] by rw[CG hq hD,hZ.o,bi]);have e1:(it.kind == 1)=false:=by simpa using hq
     have e2:(it.kind == 2)=false:=by simpa using hD
     clear hq hD;obtain⟨c0,c1,c2,c3,c4,c5,c6,c7,c8,c9,_⟩:=aU he.o.box;go_wp2_with (at_builtin; go_must (refine iL Tryz.appVals rfl _ _ rfl w.heap.size (.slice a7 v4.length c7') v4.length (v4.flatMap sw) rfl wc (sw (nV it.link)) _ rfl rfl (by have:=tD (l:=[nV it.link]); simpa using this) he.o.row (by omega) hH ?_); intro v' wd hd ha _; have h8:=he.o.app (news:=[nV it.link]) (by simpa using hd) ha; rw[<-hA.o]at h8; obtain⟨v8,hy⟩: ∃v8,v8=vk++gd it:=⟨_,rfl⟩; have h0:=am hy; rw[<-hy]at h8; have hh:=am h8; obtain⟨a8,c8',rfl,-,-⟩:=aH h8.row; clear hd ha h8 hy)
     go_roundw
     case rel=>exact⟨k+1,by omega,by go_num,by rw[hQ.o,<-h0.o]; exact hh.o.row,hh.o.below⟩
     case measure=>simp[intOf]; omega
  ·obtain rfl:k=l.length:=by omega
   have Hu:=am (show yO (fun _=>True) wr (.slice ao (lK l l.length).length co) (iB l) by
    have h1:=cL HO.o;have h2:=FR l;rw[h2]at h1 ⊢;exact⟨_,h1.weak (fun _ _=>trivial),Bq (Dg HS.o (by omega) HL.o)⟩)
   have Hr:=HL;go_wp2_with fail;refine(EC _ _ _ _ Hu.o Hr.o).mono ?_;rintro e w1 ⟨hF,ho⟩;have Hd:=am (ar HB.o hF);have hz:=HB.o.size;clear hF
   cases hC:yj (iB l)with
   | error x=>
    rw[hC]at ho;obtain⟨rfl,hx⟩:=ho;have HX:=am (show tq l=[] by unfold tq; rw[hC]);clear hC hx;go_wp2_with fail;go_ret;exact⟨_,rfl,by rw[HX.o]; exact bM _ _ _ _,Hd.o⟩
   | ok bs=>
    rw[hC]at ho;obtain⟨v,rfl,hv⟩:=ho;have HX:=am (show tq l=bs by unfold tq; rw[hC]);have Hv:=am hv;obtain⟨va,vc,rfl,HH,HI⟩:=aH hv;clear hv;clear hC;go_wp2_with fail;go_ret;exact⟨_,rfl,by rw[HX.o]; exact JI Hv.o hz,Hd.o⟩
theorem xO {n:Nat} (h:n<256):(UInt8.ofNat n).toNat=n:=dR (by exact h)
theorem zP : ∀(f n:Nat),n<2^(7*(f+1))-> ∃l c,jJ f n=l++[c]/\(∀b∈l,128<=b.toNat)/\c.toNat<128
 | 0,n,h=>⟨[],UInt8.ofNat n,rfl,by simp,by
  rw[xO (by simp at h; omega)]; simpa using h⟩
 | f+1,n,h=>by
  rw[jJ]
  by_cases hn:127<n
  ·rw[if_pos hn];obtain⟨l,c,h1,h2,h3⟩:=zP f (n/128) (by
    rw[show 7*(f+1+1)=7*(f+1)+7 by omega,gj]at h;exact eS (by omega))
   refine⟨UInt8.ofNat (n%128+128)::l,c,by rw[h1]; rfl,fun b hb=> ?_,h3⟩
   rcases aZ.1 hb with rfl | hb
   ·rw[xO (by omega)]; omega
   ·exact h2 b hb
  ·rw[if_neg hn];exact⟨[],UInt8.ofNat n,rfl,by simp,by rw[xO (by omega)]; omega⟩
theorem xi : ∀(f n j:Nat),1<=j->n<2^(7*j)->(jJ f n).length<=j
 | 0,n,j,hj,_=>by simpa [jJ]using hj
 | f+1,n,j,hj,h=>by
  rw[jJ]
  by_cases hn:127<n
  ·rw[if_pos hn,aD];obtain⟨j,rfl⟩: ∃k,j=k+1:=⟨j-1,by omega⟩;have hj1:1<=j:=by
    rcases eO j with e | e
    ·subst e; simp at h; omega
    ·exact e
   have:=xi f (n/128) j hj1 (by
    rw[show 7*(j+1)=7*j+7 by omega,gj]at h;exact eS (by omega))
   omega
  ·rw[if_neg hn]; simpa using hj
theorem iF {n:Nat} (h:n<18446744073709551616):(bD n).length<=10:=xi 10 n 10 (by decide) (iV h (by decide))
theorem rU (n:Nat):1<=(bD n).length:=by
 unfold bD jJ; split<;> simp
theorem GO {data:List UInt8} {off:Nat} {c:UInt8} (hc:c.toNat<128) (rest:List UInt8): ∀(q p:List UInt8) (f:Nat),data.drop off=(p++q++[c])++rest->(∀b∈q,128<=b.toNat)->
  bD (uC (p++q++[c]))=p++q++[c]->q.length<f->yz data off f p.length= .ok (uC (p++q++[c]),off+(p++q++[c]).length)
 | [],p,f,hd,_,he,hf=>by
  obtain⟨f,rfl⟩: ∃g,f=g+1:=⟨f-1,by simp at hf; omega⟩;rw[bY]at hd he ⊢;have h1:data[off+p.length]? =some c:=by rw[<-fA,hd]; simp
  have h2:(data.drop off).take (p.length+1)=p++[c]:=by rw[hd,List.take_left' (by simp)]
  rw[Om h1 (by omega) (by rw[h2]; exact he),h2,an,bT,<-dd]
 | b::q,p,f,hd,hq,he,hf=>by
  obtain⟨f,rfl⟩: ∃g,f=g+1:=⟨f-1,by simp at hf; omega⟩;have h1:data[off+p.length]? =some b:=by rw[<-fA,hd]; simp
  rw[JH h1 (hq b (by simp))];have:=GO hc rest q (p++[b]) f (by rw[hd]; simp) (fun x hx=>hq x (by simp[hx])) (by simpa using he) (by simp at hf; omega);rw[an,bT]at this;rw[this]; simp
theorem xn {data rest:List UInt8} {off n:Nat} (ho:off<=data.length) (hn:n<18446744073709551616) (h:data.drop off=bD n++rest):oa data off= .ok (n,off+(bD n).length):=by
 obtain⟨l,c,h1,h2,h3⟩:=zP 10 n (iV hn (by decide));have hv:uC (bD n)=n:=by
  unfold uC bD;rw[xT 10 n (iV hn (by decide)),et hn]
 have hs:=iF hn;have he:bD n=l++[c]:=h1;rw[Mn data off ho];have:=GO (data:=data) (off:=off) h3 rest l [] 10 (by rw[h,he]; simp) h2 (by rw[aJ,<-he,hv]) (by rw[he]at hs; simp at hs; omega);rw[bo,aJ,<-he,hv]at this;exact this
def Ok (data:List UInt8) (s:RS):Prop:=s.err=0/\s.off<=data.length
theorem GY {α:Type} {z x:α} {r:Except Int (α×Nat)} {s:RS} {o:Nat} (h:s.err=0) (hr:r= .ok (x,o)):rv z r s=(x,⟨o,s.off,0⟩):=by unfold rv; rw[if_pos h,hr]
theorem nO {data a rest:List UInt8} {off:Nat} (ho:off<=data.length) (h:data.drop off=a++rest):off+a.length<=data.length/\data.drop (off+a.length)=rest:=by
 have h1:=congrArg List.length h;rw[bw,an]at h1;refine⟨by omega, ?_⟩;rw[<-fJ,h,List.drop_left]
theorem xQ {data rest:List UInt8} {s:RS} {n:Nat} (hs:Ok data s) (hn:n<18446744073709551616) (h:data.drop s.off=bD n++rest): ∃s',vt data s=(n,s')/\Ok data s'/\data.drop s'.off=rest:=by
 have h1:=nO hs.2 h;exact⟨_,GY hs.1 (xn hs.2 hn h),⟨rfl,h1.1⟩,h1.2⟩
theorem Lt {data rest:List UInt8} {s:RS} {n most:Nat} (hs:Ok data s) (hn:n<18446744073709551616) (hm:n<=most) (h:data.drop s.off=bD n++rest): ∃s',BB data most s=(n,s')/\Ok data s'/\data.drop s'.off=rest:=by
 have h1:=nO hs.2 h;refine⟨_,GY hs.1 (o:=s.off+(bD n).length) ?_,⟨rfl,h1.1⟩,h1.2⟩;unfold mK;rw[xn hs.2 hn h];simp only;rw[if_neg (by omega)]
theorem DS {data a rest:List UInt8} {off:Nat} (ho:off<=data.length) (h:data.drop off=a++rest):ku data off a.length= .ok (a,off+a.length):=by
 have h1:=(nO ho h).1;unfold ku;rw[if_neg (by omega),h,List.take_left]
theorem Pw {data a rest:List UInt8} {s:RS} (hs:Ok data s) (ha:a.length=32) (h:data.drop s.off=a++rest): ∃s',smP data s=(a,s')/\Ok data s'/\data.drop s'.off=rest:=by
 have h1:=nO hs.2 h;have h2:=DS hs.2 h;rw[ha]at h2 h1;exact⟨_,GY hs.1 h2,⟨rfl,h1.1⟩,h1.2⟩
theorem Ni {data a rest:List UInt8} {s:RS} {most:Nat} (hs:Ok data s) (ha:a.length<=most) (hm:most<18446744073709551616) (h:data.drop s.off=bD a.length++(a++rest)): ∃s',DU data most s=(a,s')/\Ok data s'/\data.drop s'.off=rest:=by
 have h1:=nO hs.2 h;have h3:=nO h1.1 h1.2;refine⟨_,GY hs.1 (o:=s.off+(bD a.length).length+a.length) ?_,⟨rfl,h3.1⟩,h3.2⟩;unfold jZ mK;rw[xn hs.2 (by omega) h];simp only;rw[if_neg (by omega)];simp only;exact DS h1.1 h1.2
def ff (r:cy):List UInt8:=bl r.name++(bD r.gen.toNat++bD r.size.toNat)
theorem tK {n:Nat} (h:n<9223372036854775808):ob n=(n:Int):=by unfold ob wrap64; omega
theorem mF {r:cy} :lm r=true<->r.name.size=32/\0<=r.gen/\r.gen<=1099511627776/\0<=r.size/\r.size<=32768:=by unfold lm; simp[and_assoc]
theorem GX {data rest:List UInt8} {s:RS} {r:cy} (hs:Ok data s) (hr:lm r=true) (h:data.drop s.off=ff r++rest): ∃s',rD data s=(r,s')/\Ok data s'/\data.drop s'.off=rest:=by
 obtain⟨h1,h2,h3,h4,h5⟩:=mF.1 hr;unfold ff at h;rw[bi,bi]at h;obtain⟨s1,e1,o1,d1⟩:=Pw hs (by rw[<-bh]; exact h1) h;obtain⟨s2,e2,o2,d2⟩:=xQ o1 (by omega) d1;obtain⟨s3,e3,o3,d3⟩:=xQ o2 (by omega) d2;refine⟨s3, ?_,o3,d3⟩;unfold rD;rw[e1];simp only;rw[e2];simp only;rw[e3,tn,tK (by omega),tK (by omega)]
 congr 1
 cases r
 simp only[cy.mk.injEq,true_and]at *;omega
theorem wj {data:List UInt8} : ∀(l pre:List cy) (rest:List UInt8) (s0 s:RS),jd data s0 pre.length=(pre,s)->Ok data s->(∀r∈l,lm r=true)->data.drop s.off=l.flatMap ff++rest->
  ∃s',jd data s0 (pre.length+l.length)=(pre++l,s')/\Ok data s'/\data.drop s'.off=rest
 | [],pre,rest,s0,s,h,hs,_,hd=>⟨s,by simpa using h,hs,by simpa using hd⟩
 | r::l,pre,rest,s0,s,h,hs,hv,hd=>by
  rw[bu,bi]at hd;obtain⟨s1,e1,o1,d1⟩:=GX hs (hv r (by simp)) hd;have h1:=uN h e1;obtain⟨s2,e2,o2,d2⟩:=wj l (pre++[r]) rest s0 s1 (by simpa using h1) o1 (fun x hx=>hv x (by simp[hx])) d1;refine⟨s2, ?_,o2,d2⟩;rw[an,bT]at e2;rw[aD,show pre.length+(l.length+1)=pre.length+1+l.length by omega,e2]
  simp
theorem Ep (l:List UInt8):iI l=(dD l && !l.contains 47):=by
 by_cases h:(47:UInt8)∈l
 ·have h1:l.contains 47=true:=by simpa using h
  have h2:iI l=false:=by unfold iI; rw[h1]; simp
  rw[h1,h2]; simp
 ·have h1:l.contains 47=false:=by simpa using h
  rw[h1];unfold dD;rw[gI 47 l h]
  cases hc:iI l
  ·simp[hc]
  ·have h2:l.length<=64:=by
    unfold iI at hc;simp only[aI,aL]at hc;exact hc.1.1.1.1.2
   simp[hc]; omega
def kh (it:cg):List UInt8:=
 if it.kind=1 then bD it.chunks.length++it.chunks.flatMap ff else if it.kind=2 then ff it.node else bD it.link.size++bl it.link
def fu (it:cg):List UInt8:=bD it.name.size++(bl it.name++(bD it.kind.toNat++(bD it.mode.toNat++(bD it.time.toNat++kh it))))
def fO (l:List cg):List UInt8:=bD l.length++l.flatMap fu
theorem EA {r:cy} (h:lm r=true):34<=(ff r).length:=by
 obtain⟨h1,_⟩:=mF.1 h;unfold ff;rw[an,an,<-bh,h1];have:=rU r.gen.toNat
 have:=rU r.size.toNat
 omega
theorem uP : ∀ {l:List cy},(∀r∈l,lm r=true)->34*l.length<=(l.flatMap ff).length
 | [],_=>by simp
 | r::l,h=>by
  have h1:=EA (h r (by simp));have h2:=uP (l:=l) (fun x hx=>h x (by simp[hx]));rw[bu,an,aD]; omega
structure KQ (it : cg) : Prop where
 val:dD (bl it.name)=true
 nos:(bl it.name).contains 47=false
 md0:0<=it.mode
 md1:it.mode<=511
 tm0:0<=it.time
theorem qx {it:cg} :tL it=true<->KQ it:=by
 unfold tL
 constructor
 ·intro h;simp only[aI,aL,gO]at h;exact⟨h.1.1,h.1.2,h.2.1.1,h.2.1.2,h.2.2⟩
 ·intro h;simp only[aI,aL,gO];exact⟨⟨h.val,h.nos⟩,⟨h.md0,h.md1⟩,h.tm0⟩
theorem nj {it:cg} (hk:it.kind=1) (h:kI it=true):it.link=⟨#[]⟩/\it.node=er/\(∀c∈it.chunks,lm c=true/\1<=c.size)/\it.size=mM it.chunks/\it.size<=1048576:=by
 unfold kI at h;rw[if_pos hk]at h;unfold lh at h;simp only[aI,aL,cj]at h;refine⟨?_,h.1.2,fun c hc=> ?_,h.2.2.1,h.2.2.2⟩
 ·apply kL
  have:=h.1.1;rw[bh]at this;rw[bp this]; rfl
 ·have:=h.2.1 c hc;unfold qN at this;simp only[aI,aL]at this;exact⟨this.1,by have:=this.2; omega⟩
theorem sR {it:cg} (hk:it.kind=2) (h:kI it=true):it.link=⟨#[]⟩/\it.size=0/\it.chunks=[]/\lm it.node=true:=by
 unfold kI at h;rw[if_neg (by omega),if_pos hk]at h;simp only[aI,aL]at h;refine⟨?_,h.1.1.2,bp h.1.2,h.2⟩
 apply kL
 have:=h.1.1.1;rw[bh]at this;rw[bp this]; rfl
theorem tU {it:cg} (hk:it.kind=3) (h:kI it=true):it.size=0/\it.chunks=[]/\it.node=er/\1<=it.link.size/\it.link.size<=512/\(bl it.link).contains 0=false:=by
 unfold kI at h;rw[if_neg (by omega),if_neg (by omega),if_pos hk]at h;simp only[aI,aL,gO]at h;exact⟨h.1.1.1,bp h.1.1.2,h.1.2,h.2.1.1,h.2.1.2,h.2.2⟩
theorem qW {it:cg} (h:kI it=true):it.kind=1\/it.kind=2\/it.kind=3:=by
 unfold kI at h
 by_cases h1:it.kind=1
 ·exact .inl h1
 ·by_cases h2:it.kind=2
  ·exact .inr (.inl h2)
  ·by_cases h3:it.kind=3
   ·exact .inr (.inr h3)
   ·rw[if_neg h1,if_neg h2,if_neg h3]at h; cases h
theorem sS {l:List UInt8} (h:dD l=true) (h2:l.contains 47=false):l.length<=64:=by
 have:=Ep l;rw[h,h2]at this;unfold iI at this;simp only[Bool.not_false,Bool.and_self,aI,aL]at this;omega
theorem LS {data rest:List UInt8} {s:RS} {it:cg} (hs:Ok data s) (hv:jo it=true) (ht:it.time<9223372036854775808) (hl:data.length<=32768) (h:data.drop s.off=fu it++rest):
  ∃s',nJ data s=some (it,s')/\Ok data s'/\data.drop s'.off=rest:=by
 unfold jo at hv;rw[aI]at hv;have hh:=qx.1 hv.1;have hk:=qW hv.2;unfold fu at h;simp only[bi]at h;rw[bh]at h;obtain⟨s2,e2,o2,d2⟩:=Ni (most:=64) hs (sS hh.val hh.nos) (by decide) h;have b0:=hh.md0;have b1:=hh.md1;have b2:=hh.tm0;obtain⟨s3,e3,o3,d3⟩:=xQ o2 (by omega) d2;obtain⟨s4,e4,o4,d4⟩:=xQ o3 (by omega) d3
 obtain⟨s5,e5,o5,d5⟩:=xQ o4 (by omega) d4;rw[wT e2 e3 e4 e5];have tk:ob it.kind.toNat=it.kind:=by rw[tK (by omega)]; omega
 have tm:ob it.mode.toNat=it.mode:=by rw[tK (by omega)]; omega
 have tt:ob it.time.toNat=it.time:=by rw[tK (by omega)]; omega
 rcases hk with hk | hk | hk
 ·obtain⟨f1,f2,f3,f4,_⟩:=nj hk hv.2;unfold kh at d5;rw[if_pos hk,bi]at d5;have h6:=nO o5.2 d5;have h7:34*it.chunks.length<=(it.chunks.flatMap ff).length:=uP (fun r hr=>(f3 r hr).1);have h8:=congrArg List.length h6.2;rw[bw,an]at h8;obtain⟨s6,e6,o6,d6⟩:=Lt (most:=963) o5 (by omega) (by omega) d5
  obtain⟨s7,e7,o7,d7⟩:=wj it.chunks [] rest s6 s6 rfl o6 (fun r hr=>(f3 r hr).1) d6;rw[bo,bS,aJ]at e7;refine⟨s7, ?_,o7,d7⟩;rw[wR (by rw[tk]; exact hk) e6 e7,tk,tm,tt,tn,<-f4,<-f1,<-f2]
 ·obtain⟨f1,f2,f3,f4⟩:=sR hk hv.2;unfold kh at d5;rw[if_neg (by omega),if_pos hk]at d5;obtain⟨s6,e6,o6,d6⟩:=GX o5 f4 d5;refine⟨s6, ?_,o6,d6⟩;rw[zu (by rw[tk]; exact hk) e6,tk,tm,tt,tn,<-f1,<-f3];rw[show(0:Int)=it.size from f2.symm]
 ·obtain⟨f1,f2,f3,f4,f5,_⟩:=tU hk hv.2;unfold kh at d5;rw[if_neg (by omega),if_neg (by omega),bi,bh]at d5;obtain⟨s6,e6,o6,d6⟩:=Ni (most:=512) o5 (by rw[<-bh]; omega) (by decide) d5;refine⟨s6, ?_,o6,d6⟩;rw[wS (by rw[tk]; exact hk) e6,tk,tm,tt,tn,tn,<-f3,<-f2];rw[show(0:Int)=it.size from f1.symm]
theorem xS : ∀ {l:List cg} {p:Option ByteArray},jO p l=true-> ∀it∈l,jo it=true
 | it::l,p,h,x,hx=>by
  rw[jO,aI,aI]at h
  rcases aZ.1 hx with rfl | hx
  ·exact h.1.1
  ·exact xS h.2 x hx
theorem pq {l:List cg} (h:jy l=true):l.length<=4096/\ ∀it∈l,jo it=true:=by
 unfold jy at h;rw[aI,aL]at h;exact⟨h.1,xS h.2⟩
theorem zA {data:List UInt8} (hl:data.length<=32768): ∀(l pre:List cg) (rest:List UInt8) (s0 s:RS),ka data s0 pre.length=some (pre,s)->Ok data s->(∀it∈l,jo it=true/\it.time<9223372036854775808)->data.drop s.off=l.flatMap fu++rest->
  ∃s',ka data s0 (pre.length+l.length)=some (pre++l,s')/\Ok data s'/\data.drop s'.off=rest
 | [],pre,rest,s0,s,h,hs,_,hd=>⟨s,by simpa using h,hs,by simpa using hd⟩
 | it::l,pre,rest,s0,s,h,hs,hv,hd=>by
  rw[bu,bi]at hd;obtain⟨s1,e1,o1,d1⟩:=LS hs (hv it (by simp)).1 (hv it (by simp)).2 hl hd;have h1:=ou h e1;obtain⟨s2,e2,o2,d2⟩:=zA hl l (pre++[it]) rest s0 s1 (by simpa using h1) o1 (fun x hx=>hv x (by simp[hx])) d1;refine⟨s2, ?_,o2,d2⟩;rw[an,bT]at e2;rw[aD,show pre.length+(l.length+1)=pre.length+1+l.length by omega,e2]
  simp
theorem Mm {l:List cg} (hv:jy l=true) (ht: ∀it∈l,it.time<9223372036854775808) (hl:(fO l).length<=32768):jf (fO l)=some l:=by
 obtain⟨h1,h2⟩:=pq hv;have hs:Ok (fO l) ⟨0,0,0⟩:=⟨rfl,aW _⟩;obtain⟨s1,e1,o1,d1⟩:=Lt (rest:=l.flatMap fu) (most:=4096) (n:=l.length) hs (by omega) h1 rfl;obtain⟨s2,e2,o2,d2⟩:=zA hl l [] [] s1 s1 rfl o1 (fun it hi=>⟨h2 it hi,ht it hi⟩) (by simpa using d1);rw[bo,bS,aJ]at e2;rw[uV (by omega) e1 e2]
 have h3:=congrArg List.length d2;rw[bw,bo]at h3;have h4:uc (fO l) s2=0:=by unfold uc; rw[if_pos o2.1,if_neg (by omega)]
 rw[if_pos ⟨h4,hv⟩]
open Go Go.RowKit
theorem PQ {x:Nat} (h:x<256):x ||| 128=x%128+128:=by
 have: ∀y:Fin 256,y.val ||| 128=y.val%128+128:=by decide
 exact this ⟨x,h⟩
theorem IG (n:Nat):Value.int .u8 (bits BinOp.or IntKind.u8 ((n:Int)%256) 128)=aY (UInt8.ofNat (n%128+128)):=by
 rw[lZ (by omega),show((n:Int)%256)=((n%256:Nat):Int) by omega,show(128:Int)=((128:Nat):Int)from rfl,u8_or_nat _ _ (by omega) (by decide),PQ (by omega)]
 congr 2
 omega
theorem IF {n:Nat} (h:n<256):Value.int .u8 (n:Int)=aY (UInt8.ofNat n):=(lZ h).symm
def lO (w:World) (base:Nat) (v:Value) (acc:List UInt8):Prop:=w.ownsRow base 5 1 v acc.length (acc.map aY)
def OX (base:Nat) (v:Value) (acc:List UInt8) (w:World) (e:Ending) (w':World):Prop:= ∃v',e= .returned v'/\lO w' base v' acc/\w.grownBy w' v.ownBlock/\(∀k,v'.ownBlock=some k->v.ownBlock=some k\/w.heap.size<=k)
structure NA (base : Nat) (v : Value) (w : World) (x : Value) (ac : List UInt8) (wr : World) : Prop where
 own:lO wr base x ac
 grown:w.grownBy wr v.ownBlock
 place: ∀k,x.ownBlock=some k->v.ownBlock=some k\/w.heap.size<=k
theorem NA.next {base:Nat} {v:Value} {w:World} {x:Value} {ac:List UInt8} {wr wc:World} {v' u:Value} {n:Nat} {b:UInt8} (h:NA base v w x ac wr) (h1:wc.ownsRow base 5 1 v' (n+1) (ac.map aY++[u])) (h2:wr.grownBy wc x.ownBlock) (h3: ∀k,v'.ownBlock=some k->x.ownBlock=some k\/wr.heap.size<=k)
  (hn:n=ac.length) (hu:u=aY b):NA base v w v' (ac++[b]) wc:=by
 subst hn hu;refine⟨by unfold lO; simpa using h1,⟨h2.os.trans h.grown.os,h2.tape.trans h.grown.tape,h2.output.trans h.grown.output,ay h.grown.size h2.size,fun k hk ha=> ?_⟩,fun k hk=> ?_⟩
 ·rw[h2.block k (aP hk h.grown.size) (fun e=> ?_)]
  ·exact h.grown.block k hk ha
  ·rcases h.place k e.symm with e2 | e2
   ·exact ha e2.symm
   ·omega
 ·rcases h3 k hk with e | e
  ·exact h.place k e
  ·exact .inr (ay h.grown.size e)
theorem rV (base:Nat) (v:Value) (acc:List UInt8) (n:Nat) (w:World) (hv:lO w base v acc) (hb:base<=w.heap.size) (hl:acc.length<1099511000000) (hn:n<18446744073709551616):
  Calls Tryz.prog 100 #[v, .int .u64 (n:Int)] w (OX base v (acc++bD n) w):=by
 have HV:=am hv;obtain⟨a0,c0,rfl,hx,hy⟩:=aH hv;clear hv
 go_enter Tryz.func100,Tryz.ntmps100
 go_wp2_with fail
 go_loopw [0,1] (fun x y wr=> ∃(f m:Nat) (ac:List UInt8),y= .int .u64 (m:Int)/\m<18446744073709551616/\m<2^(7*f)/\ac++jJ f m=acc++bD n/\NA base (.slice a0 acc.length c0) w x ac wr) (fun _ y _=>(intOf y).toNat)
 case atStart=>exact⟨10,n,acc,rfl,hn,iV hn (by decide),rfl,HV.o,pC _ _,fun k hk=> .inl hk⟩
 case round=>
  obtain⟨f,m,ac,rfl,hm,hu,hf,hd⟩:=hrel;obtain⟨ax,cx,rfl,h1,h2⟩:=aH hd.own;obtain⟨xl,hh⟩: ∃xl,xl=ac.length:=⟨_,rfl⟩;rw[<-hh]at hd h1 ⊢;have HI:=am hd;have hq:=am hh;have HO:=am (show wr.ownsRow base 5 1 (.slice ax xl cx) xl (ac.map aY) by have:=hd.own; unfold lO at this; rw[<-hh]at this; exact this);have HE:=am hf;have hp:=am hu
  have hr:base<=wr.heap.size:=by have:=hd.grown.size; omega
  have hg:=congrArg List.length hf;rw[an,an]at hg;have:=dt n;have hw:xl<1099511627775:=by omega
  clear hd hf hu hg this hh
  by_cases hs:127<m
  ·have HV:=am (IG m);have HZ:=am (show ∀u∈[(Value.int .u8 (bits BinOp.or IntKind.u8 ((m:Int)%256) 128))],u.oneCell'=true by simp[Value.oneCell']);obtain⟨f,rfl⟩: ∃g,f=g+1:=⟨f-1,by
    cases f with
    | zero=>have:=hp.o; simp at this; omega
    | succ g=>rfl⟩
   have hj:=am (show(ac++[UInt8.ofNat (m%128+128)])++jJ f (m/128)=acc++bD n by rw[<-HE.o,jJ,if_pos hs]; simp);have ho:=am (show m/128<2^(7*f) by
    have h3:=hp.o;rw[show 7*(f+1)=7*f+7 by omega,gj]at h3;exact eS (by omega))
   go_wp2_with (at_builtin; go_loud (refine bO Tryz.appBytes rfl _ _ rfl base (.slice ax xl cx) xl (ac.map aY) rfl wr [Value.int .u8 (bits BinOp.or IntKind.u8 ((m:Int)%256) 128)] _ rfl rfl HZ.o HO.o hw hr ?_); intro v' wc hc ha _ he; go_loud (have HP:=am (HI.o.next hc ha he hq.o HV.o)); obtain⟨ae,ce,rfl,-,-⟩:=aH hc; clear hc ha he)
   go_roundw
   case rel=>exact⟨f,m/128,_,by simp,by omega,ho.o,hj.o,HP.o⟩
   case measure=>simp[intOf]; omega
  ·have HV:=am (IF (n:=m) (by omega));have HZ:=am (show ∀u∈[(Value.int .u8 (m:Int))],u.oneCell'=true by simp[Value.oneCell']);have hj:=am (show ac++[UInt8.ofNat m]=acc++bD n by
    rw[<-HE.o]
    cases f with
    | zero=>rfl
    | succ f=>rw[jJ,if_neg hs])
   go_wp2_with (at_builtin; go_loud (refine bO Tryz.appBytes rfl _ _ rfl base (.slice ax xl cx) xl (ac.map aY) rfl wr [Value.int .u8 (m:Int)] _ rfl rfl HZ.o HO.o hw hr ?_); intro v' wc hc ha _ he; go_loud (have HP:=am (HI.o.next hc ha he hq.o HV.o)); obtain⟨ae,ce,rfl,-,-⟩:=aH hc; clear hc ha he);go_ret;rw[<-hj.o];exact⟨_,rfl,HP.o.own,HP.o.grown,HP.o.place⟩
theorem vS (n:Nat) (w:World) (hn:n<18446744073709551616):
  Calls Tryz.prog 176 #[.slice none 0 0, .int .u64 (n:Int)] w fun e w'=> ∃v,e= .returned v/\lO w' w.heap.size v (bD n)/\Below w.heap.size w w':=by
 obtain⟨hr,⟨i9,z9,he,hf,hg,hh,hq⟩,-,-⟩:=Tryz.appBytes;have hb:i9.bytes*10<=281474976710656:=by rw[hh]; decide
 have H9:=am (aE he (aE hf (aE hg hb)));clear he hf hg hh hq hb
 go_enter Tryz.func176,Tryz.ntmps176
 go_wp2_with (first | (refine wpList_make_own _ rfl _ _ 29 rfl w.heap.size 5 i9 z9 1 df H9.o.1 H9.o.2.1 H9.o.2.2.1 .i64 .i64 10 10 rfl rfl rfl H9.o.2.2.2 (by decide) (ak _) ?_; intro w4 ha hj; have ho:=am ha; have hd:=am hj; clear ha hj));refine(rV w.heap.size _ [] n w4 ho.o hd.o.size (by simp) hn).mono ?_;rintro e w5 ⟨v',rfl,hc,hl,-⟩
 rw[aJ]at hc;have hp:=am hc;have hm:=am ((js hd.o).grown hl hd.o.size (fun k hk=>by cases hk; exact ak _));obtain⟨a5,c5,rfl,-,-⟩:=aH hc;clear hc hl;go_wp2_with fail;go_ret;exact⟨_,rfl,hp.o,hm.o⟩
def lenOf (v:Value):Nat:=match v with
 | .slice _ n _=>n
 | _=>0
theorem lf {x:Nat} {y:Int} (h:y=(x:Int)%256):Value.int .u8 y=aY (UInt8.ofNat x):=by
 rw[h];simp[aY]
theorem Ms (S:Nat->Prop) (v:Value) (data:List UInt8) (w:World) (hv:bH S w v data) (hl:data.length<549755813888):
  Calls Tryz.prog 215 #[v] w fun e w'=> ∃a c,e= .returned (.slice a (data++pj data.length).length c)/\lO w' w.heap.size (.slice a (data++pj data.length).length c) (data++pj data.length)/\Below w.heap.size w w':=by
 obtain⟨hR,a,cap,rfl,hn,hm,-⟩:=id hv;unfold maxLen at hm;have HV:=am hv;obtain⟨n,hs⟩: ∃n,n=data.length:=⟨_,rfl⟩;rw[<-hs]at hl hn ⊢;have HN:=am hs;have hA:=am (show(w.alloc (.cells #[] 5)).ownsRow w.heap.size 5 1 (.slice (some ⟨w.heap.size,0,none⟩) 0 0) 0 []from dg (e:=5) (size:=1) (base:=w.heap.size) w #[] 0 (ak _) (aW _) (by simp))
 have hL:=am ((au w.heap.size w).alloc (ak _) (.cells #[] 5));have hP:=am (show cC S (w.alloc (.cells #[] 5)) 1 (.slice a n cap) n (data.map aY) by rw[hs]; exact cC.below hv (by omega) ((au w.heap.size w).alloc (ak _) _));clear hv hR hs
 go_enter Tryz.func215,Tryz.ntmps215
 have hT:0+n<1099511627775:=by omega
 have hS:n<1099511627775:=by omega
 have hJ:w.heap.size<=(w.alloc (.cells #[] 5)).heap.size:=by simp
 go_wp2_with (at_builtin; first
  | (refine eh Tryz.appBytes rfl _ _ rfl w.heap.size (.slice (some ⟨w.heap.size,0,none⟩) 0 0) 0 [] rfl hA.o (.slice a n cap) n (data.map aY) rfl hP.o (fj data) hT hJ ?_; intro v1 w1 hg hE; rw[bS,aJ]at hg; obtain⟨a1,c1,rfl,-,-⟩:=aH hg; have hB:=am hg; have hu:=am (bX hL.o hA.o hE (ak _) hJ); clear hg hE)
  | (refine bO Tryz.appBytes rfl _ _ rfl w.heap.size (.slice a1 n c1) n (data.map aY) rfl w1 [Value.int .u8 128] _ rfl rfl (fj [128]) hB.o hS hu.o.size ?_; intro v2 w2 hh hF _ _; obtain⟨a2,c2,rfl,-,-⟩:=aH hh))
 have hO:=am (show w2.ownsRow w.heap.size 5 1 (.slice a2 (n+1) c2) (n+1) ((data++128::List.replicate 0 0).map aY) by rw[aN]; exact hh);have hM:=am (bX hu.o hB.o hF (ak _) hu.o.size);clear hh hF
 go_loopw [3] (fun o wr=> ∃(k:Nat) (a c:_),k<=iH n/\o= .slice a (n+1+k) c/\wr.ownsRow w.heap.size 5 1 (.slice a (n+1+k) c) (n+1+k) ((data++128::List.replicate k 0).map aY)/\Below w.heap.size w wr) (fun o _=>iH n+n+1-lenOf o)
 case atStart=>exact⟨0,_,_,by omega,rfl,hO.o,hM.o⟩
 case round=>
  obtain⟨k,a3,c3,hk,rfl,ho,hb⟩:=hrel;obtain⟨m,hy⟩: ∃m,m=n+1+k:=⟨_,rfl⟩;rw[<-hy]at ho ⊢;have HM:=am hy;have HO:=am ho;have HB:=am hb;have hz:=hb.size;clear ho hb hy;have hI:iH n<64:=cU _ (by decide)
  by_cases hQ:m%64=56
  ·have e1:((m:Int)%64 != 56)=false:=by rw[bne_eq_false_iff_eq]; omega
   have hx:k=iH n:=by have:=HM.o; unfold iH at hk hI ⊢; omega
   subst hx;clear hQ;go_wp2_with fail;obtain⟨w5,hU⟩: ∃x,x=wr:=⟨_,rfl⟩;subst hU;obtain⟨pre,hq⟩: ∃pre,pre=data++128::List.replicate (iH n) 0:=⟨_,rfl⟩;rw[<-hq]at HO;have hw:=am hq;have hG:pre.length=m:=by rw[hq,HM.o,HN.o]; simp; omega
   have hN:=am hG;have hr:m+8<1099511627775:=by have:=HM.o; omega
   clear hq hG e1 hk hI
   go_loopw [3,5] (fun o i wr=> ∃(j:Nat) (a c:_),j<=8/\i= .int .i64 (7-(j:Int))/\o= .slice a (m+j) c/\wr.ownsRow w.heap.size 5 1 (.slice a (m+j) c) (m+j) ((pre++(nB (n*8)).take j).map aY)/\Below w.heap.size w wr) (fun _ i _=>(intOf i+1).toNat)
   case atStart=>exact⟨0,a3,c3,by omega,rfl,rfl,by simpa using HO.o,HB.o⟩
   case round=>
    obtain⟨j,a5,c5,hj,rfl,rfl,ho,hb⟩:=hrel;have hd:=am ho;have hp:=am hb;have hf:=hb.size;clear ho hb hz;have hc:j=0\/j=1\/j=2\/j=3\/j=4\/j=5\/j=6\/j=7\/j=8:=by omega
    rcases hc with rfl | rfl | rfl | rfl | rfl | rfl | rfl | rfl | rfl
    ·skip
     rw[show(7-((0:Nat):Int))=7 from rfl];go_wp2_with (at_builtin; go_must (refine bO Tryz.appBytes rfl _ _ rfl w.heap.size (.slice a5 (m+0) c5) (m+0) ((pre++(nB (n*8)).take 0).map aY) rfl wr [Value.int .u8 ((n:Int)*8/72057594037927936)] _ rfl rfl (by simp[Value.oneCell']) hd.o (by omega) hf ?_); intro v4 w4 ha he _ _; obtain⟨a4,c4,rfl,-,-⟩:=aH ha)
     go_roundw
     case rel=>
      refine⟨0+1,a4,c4,by omega,by simp,rfl, ?_,bX hp.o hd.o he (ak _) hf⟩;rw[show(nB (n*8)).take (0+1)=(nB (n*8)).take 0++[UInt8.ofNat (n*8/2^56)]from rfl,<-bi,aN,eN,<-lf (x:=n*8/2^56) (y:=((n:Int)*8/72057594037927936)) (by omega)];exact ha
     case measure=>simp[intOf]
    ·skip
     rw[show(7-((1:Nat):Int))=6 from rfl];go_wp2_with (at_builtin; go_must (refine bO Tryz.appBytes rfl _ _ rfl w.heap.size (.slice a5 (m+1) c5) (m+1) ((pre++(nB (n*8)).take 1).map aY) rfl wr [Value.int .u8 ((n:Int)*8/281474976710656)] _ rfl rfl (by simp[Value.oneCell']) hd.o (by omega) hf ?_); intro v4 w4 ha he _ _; obtain⟨a4,c4,rfl,-,-⟩:=aH ha)
     go_roundw
     case rel=>
      refine⟨1+1,a4,c4,by omega,by simp,rfl, ?_,bX hp.o hd.o he (ak _) hf⟩;rw[show(nB (n*8)).take (1+1)=(nB (n*8)).take 1++[UInt8.ofNat (n*8/2^48)]from rfl,<-bi,aN,eN,<-lf (x:=n*8/2^48) (y:=((n:Int)*8/281474976710656)) (by omega)];exact ha
     case measure=>simp[intOf]
    ·skip
     rw[show(7-((2:Nat):Int))=5 from rfl];go_wp2_with (at_builtin; go_must (refine bO Tryz.appBytes rfl _ _ rfl w.heap.size (.slice a5 (m+2) c5) (m+2) ((pre++(nB (n*8)).take 2).map aY) rfl wr [Value.int .u8 ((n:Int)*8/1099511627776)] _ rfl rfl (by simp[Value.oneCell']) hd.o (by omega) hf ?_); intro v4 w4 ha he _ _; obtain⟨a4,c4,rfl,-,-⟩:=aH ha)
     go_roundw
     case rel=>
      refine⟨2+1,a4,c4,by omega,by simp,rfl, ?_,bX hp.o hd.o he (ak _) hf⟩;rw[show(nB (n*8)).take (2+1)=(nB (n*8)).take 2++[UInt8.ofNat (n*8/2^40)]from rfl,<-bi,aN,eN,<-lf (x:=n*8/2^40) (y:=((n:Int)*8/1099511627776)) (by omega)];exact ha
     case measure=>simp[intOf]
    ·skip
     rw[show(7-((3:Nat):Int))=4 from rfl];go_wp2_with (at_builtin; go_must (refine bO Tryz.appBytes rfl _ _ rfl w.heap.size (.slice a5 (m+3) c5) (m+3) ((pre++(nB (n*8)).take 3).map aY) rfl wr [Value.int .u8 ((n:Int)*8/4294967296%256)] _ rfl rfl (by simp[Value.oneCell']) hd.o (by omega) hf ?_); intro v4 w4 ha he _ _; obtain⟨a4,c4,rfl,-,-⟩:=aH ha)
     go_roundw
     case rel=>
      refine⟨3+1,a4,c4,by omega,by simp,rfl, ?_,bX hp.o hd.o he (ak _) hf⟩;rw[show(nB (n*8)).take (3+1)=(nB (n*8)).take 3++[UInt8.ofNat (n*8/2^32)]from rfl,<-bi,aN,eN,<-lf (x:=n*8/2^32) (y:=((n:Int)*8/4294967296%256)) (by omega)];exact ha
     case measure=>simp[intOf]
    ·skip
     rw[show(7-((4:Nat):Int))=3 from rfl];go_wp2_with (at_builtin; go_must (refine bO Tryz.appBytes rfl _ _ rfl w.heap.size (.slice a5 (m+4) c5) (m+4) ((pre++(nB (n*8)).take 4).map aY) rfl wr [Value.int .u8 ((n:Int)*8/16777216%256)] _ rfl rfl (by simp[Value.oneCell']) hd.o (by omega) hf ?_); intro v4 w4 ha he _ _; obtain⟨a4,c4,rfl,-,-⟩:=aH ha)
     go_roundw
     case rel=>
      refine⟨4+1,a4,c4,by omega,by simp,rfl, ?_,bX hp.o hd.o he (ak _) hf⟩;rw[show(nB (n*8)).take (4+1)=(nB (n*8)).take 4++[UInt8.ofNat (n*8/2^24)]from rfl,<-bi,aN,eN,<-lf (x:=n*8/2^24) (y:=((n:Int)*8/16777216%256)) (by omega)];exact ha
     case measure=>simp[intOf]
    ·skip
     rw[show(7-((5:Nat):Int))=2 from rfl];go_wp2_with (at_builtin; go_must (refine bO Tryz.appBytes rfl _ _ rfl w.heap.size (.slice a5 (m+5) c5) (m+5) ((pre++(nB (n*8)).take 5).map aY) rfl wr [Value.int .u8 ((n:Int)*8/65536%256)] _ rfl rfl (by simp[Value.oneCell']) hd.o (by omega) hf ?_); intro v4 w4 ha he _ _; obtain⟨a4,c4,rfl,-,-⟩:=aH ha)
     go_roundw
     case rel=>
      refine⟨5+1,a4,c4,by omega,by simp,rfl, ?_,bX hp.o hd.o he (ak _) hf⟩;rw[show(nB (n*8)).take (5+1)=(nB (n*8)).take 5++[UInt8.ofNat (n*8/2^16)]from rfl,<-bi,aN,eN,<-lf (x:=n*8/2^16) (y:=((n:Int)*8/65536%256)) (by omega)];exact ha
     case measure=>simp[intOf]
    ·skip
     rw[show(7-((6:Nat):Int))=1 from rfl];go_wp2_with (at_builtin; go_must (refine bO Tryz.appBytes rfl _ _ rfl w.heap.size (.slice a5 (m+6) c5) (m+6) ((pre++(nB (n*8)).take 6).map aY) rfl wr [Value.int .u8 ((n:Int)*8/256%256)] _ rfl rfl (by simp[Value.oneCell']) hd.o (by omega) hf ?_); intro v4 w4 ha he _ _; obtain⟨a4,c4,rfl,-,-⟩:=aH ha)
     go_roundw
     case rel=>
      refine⟨6+1,a4,c4,by omega,by simp,rfl, ?_,bX hp.o hd.o he (ak _) hf⟩;rw[show(nB (n*8)).take (6+1)=(nB (n*8)).take 6++[UInt8.ofNat (n*8/2^8)]from rfl,<-bi,aN,eN,<-lf (x:=n*8/2^8) (y:=((n:Int)*8/256%256)) (by omega)];exact ha
     case measure=>simp[intOf]
    ·skip
     rw[show(7-((7:Nat):Int))=0 from rfl];go_wp2_with (at_builtin; go_must (refine bO Tryz.appBytes rfl _ _ rfl w.heap.size (.slice a5 (m+7) c5) (m+7) ((pre++(nB (n*8)).take 7).map aY) rfl wr [Value.int .u8 ((n:Int)*8%256)] _ rfl rfl (by simp[Value.oneCell']) hd.o (by omega) hf ?_); intro v4 w4 ha he _ _; obtain⟨a4,c4,rfl,-,-⟩:=aH ha)
     go_roundw
     case rel=>
      refine⟨7+1,a4,c4,by omega,by simp,rfl, ?_,bX hp.o hd.o he (ak _) hf⟩;rw[show(nB (n*8)).take (7+1)=(nB (n*8)).take 7++[UInt8.ofNat (n*8)]from rfl,<-bi,aN,eN,<-lf (x:=n*8) (y:=((n:Int)*8%256)) (by omega)];exact ha
     case measure=>simp[intOf]
    ·rw[show(7-((8:Nat):Int))= -1 from rfl];have hD:=am (show data++pj n=pre++nB (n*8) by
      rw[hw.o];unfold pj;rw[et (by omega)]
      simp)
     have hC:=am (show m+8=(data++pj n).length by rw[hD.o,an,hN.o]; rfl);go_wp2_with fail;go_ret;refine⟨a5,c5,by rw[hC.o]; rfl, ?_,hp.o⟩;have h:=hd.o;rw[show(nB (n*8)).take 8=nB (n*8)from rfl,<-hD.o,hC.o]at h;exact h
  ·have e1:((m:Int)%64 != 56)=true:=by rw[bne_iff_ne]; omega
   have hx:k+1<=iH n:=by
    have:=HM.o
    rcases dK k (iH n)with h | h
    ·exact h
    ·exfalso
     have:k=iH n:=by omega
     unfold iH at this;omega
   have hr:m<1099511627775:=by have:=HM.o; omega
   go_wp2_with (at_builtin; go_must (refine bO Tryz.appBytes rfl _ _ rfl w.heap.size (.slice a3 m c3) m ((data++128::List.replicate k 0).map aY) rfl wr [Value.int .u8 0] _ rfl rfl (fj [0]) HO.o hr hz ?_); intro v4 w4 ha he _ _; obtain⟨a4,c4,rfl,-,-⟩:=aH ha)
   go_roundw
   case rel=>
    have hH:m+1=n+1+(k+1):=by rw[HM.o]; omega
    refine⟨k+1,a4,c4,hx,by rw[hH], ?_,bX HB.o HO.o he (ak _) hz⟩;rw[<-hH,List.replicate_succ',<-aK,<-bi,aN];exact ha
   case measure=>
    have:=HM.o
    show iH n+n+1-(m+1)<iH n+n+1-m
    omega
end Go.Proofs.YtpffpjbkbaleiaaGreatDoor
namespace Go.Proofs.YtpffpjbkbaleiaaGreatDoor
def jR (x k:Nat):Nat:=(x*2^k%18446744073709551616) ||| (x/2^(64-k))
def pm :Nat->Nat->Nat
 | 0,x=>x
 | n+1,x=>jR (pm n x) 1
theorem mj {x k:Nat} (_hk:k<=64) (i:Nat):(jR x k).testBit i=((decide (i<64) && decide (k<=i) && x.testBit (i-k)) || x.testBit (64-k+i)):=by
 unfold jR;rw[Nat.testBit_or,show(18446744073709551616:Nat)=2^64 from rfl,Nat.testBit_mod_two_pow,Nat.testBit_mul_two_pow,Nat.testBit_div_two_pow,lN i (64-k),Bool.and_assoc]
theorem nC {x:Nat} (hx:x<18446744073709551616) {i:Nat} (h:64<=i):x.testBit i=false:=
 Nat.testBit_lt_two_pow (aP hx (gL (by decide) h:2^64<=2^i))
theorem pk {x:Nat} (k:Nat) (hx:x<18446744073709551616):jR x k<18446744073709551616:=
 Nat.or_lt_two_pow (n:=64) (cU _ (by decide)) (dE (eG _ _) hx)
theorem vK : ∀(n:Nat) {x:Nat},x<18446744073709551616->pm n x<18446744073709551616
 | 0,_,h=>h
 | n+1,_,h=>pk 1 (vK n h)
theorem xC {x:Nat} (hx:x<18446744073709551616):jR x 0=x:=by
 unfold jR;rw[show(2:Nat)^(64-0)=18446744073709551616 by decide,Nat.div_eq_of_lt hx,Nat.or_zero,Nat.pow_zero,jW,et hx]
theorem Ft {x k:Nat} (hx:x<18446744073709551616) (hk:k<64):jR (jR x k) 1=jR x (k+1):=by
 apply Nat.eq_of_testBit_eq
 intro i;rw[mj (by decide),mj (by omega),mj (by omega),mj (by omega)]
 by_cases ha:i<64
 ·by_cases h0:i=0
  ·subst h0;have e1:x.testBit (64-k+(64-1+0))=false:=nC hx (by omega);have e2:64-1+0-k=64-(k+1)+0:=by omega
   have e3:x.testBit (64-0+0-k+64)=false:=nC hx (by omega);simp only[e1,e2];simp;omega
  ·have e1:x.testBit (64-k+(64-1+i))=false:=nC hx (by omega);have e2:(64-1+i<64)=False:=by simp; omega
   have e3:i-1-k=i-(k+1):=by omega
   have e4:64-k+(i-1)=64-(k+1)+i:=by omega
   have e5:(decide (k<=i-1))=decide (k+1<=i):=by rw[iX]; omega
   have e6:decide (1<=i)=true:=by simp; omega
   have e7:decide (i-1<64)=true:=by simp; omega
   have e8:decide (i<64)=true:=by simp; omega
   have e9:decide (64-1+i<64)=false:=by simp; omega
   simp only[e1,e3,e4,e5,e6,e7,e8,e9,gT,Bool.false_and,Bool.or_false]
 ·have e1:x.testBit (64-k+(64-1+i))=false:=nC hx (by omega);have e2:x.testBit (64-(k+1)+i)=false:=nC hx (by omega);have e8:decide (i<64)=false:=by simp; omega
  have e9:decide (64-1+i<64)=false:=by simp; omega
  simp only[e1,e2,e8,e9,Bool.false_and,Bool.or_false]
theorem vJ {x:Nat} (hx:x<18446744073709551616): ∀ {k:Nat},k<=64->pm k x=jR x k
 | 0,_=>(xC hx).symm
 | k+1,h=>by rw[pm,vJ hx (k:=k) (by omega),Ft hx (by omega)]
theorem Kg {x:Nat} (hx:x<18446744073709551616):pm 64 x=x:=by
 rw[vJ hx (by decide)];unfold jR;rw[show(2:Nat)^64=18446744073709551616 by decide,Nat.mul_mod_left,Nat.zero_or];simp
theorem OB {x y:Nat} (hx:x<18446744073709551616) (hy:y<18446744073709551616) {k:Nat} (hk:k<=64):jR (x^^^y) k=jR x k^^^jR y k:=by
 apply Nat.eq_of_testBit_eq
 intro i;rw[Nat.testBit_xor,mj hk,mj hk,mj hk,Nat.testBit_xor,Nat.testBit_xor]
 by_cases h:i<64/\k<=i
 ·have e:decide (i<64)=true/\decide (k<=i)=true:=by simpa using h
  rw[e.1,e.2,nC hx (i:=64-k+i) (by omega),nC hy (i:=64-k+i) (by omega)];simp
 ·have e:(decide (i<64) && decide (k<=i))=false:=by simp; omega
  rw[e]; simp
theorem qR {x y:Nat} (hx:x<18446744073709551616) (hy:y<18446744073709551616):x^^^y<18446744073709551616:=Nat.xor_lt_two_pow (n:=64) hx hy
def EY (z:Nat):Nat:=((z^^^(z/2^30))*13787848793156543929)%18446744073709551616
def Jv (z:Nat):Nat:=((z^^^(z/2^27))*10723151780598845931)%18446744073709551616
def Po (z:Nat):Nat:=z^^^(z/2^31)
def tF (seed i:Nat):Nat:=(seed+(i+1)*11400714819323198485%18446744073709551616)%18446744073709551616
def um (seed i:Nat):Nat:=Po (Jv (EY (tF seed i)))
theorem ri (seed i:Nat):um seed i<18446744073709551616:=by
 unfold um Po;have h:Jv (EY (tF seed i))<18446744073709551616:=cU _ (by decide);exact qR h (dE (eG _ _) h)
theorem CB {M:List UInt8->Prop} (h0:M []) (h1: ∀l b,M l->M (l++[b])) (l:List UInt8):M l:=by
 have: ∀r:List UInt8,M r.reverse:=by
  intro r
  induction r with
  | nil=>exact h0
  | cons b r ih=>rw[List.reverse_cons]; exact h1 _ _ ih
 have h:=this l.reverse;rw[List.reverse_reverse]at h; exact h
section
variable (T : Nat → Nat)
def kG (l:List UInt8):Nat:=l.foldl (fun s b=>jR s 1^^^T b.toNat) 0
theorem nI (l:List UInt8) (b:UInt8):kG T (l++[b])=jR (kG T l) 1^^^T b.toNat:=by
 unfold kG; rw[dV,ei,List.foldl_nil]
theorem zo :kG T []=0:=rfl
theorem Jd (x:UInt8):kG T [x]=T x.toNat:=by
 unfold kG; rw[ei,List.foldl_nil,show jR 0 1=0 by decide,Nat.zero_xor]
def rZ :List UInt8->Nat
 | []=>0
 | b::l=>pm l.length (T b.toNat)^^^rZ l
variable {T}
theorem CA (hT: ∀i,T i<18446744073709551616) (l:List UInt8):kG T l<18446744073709551616:=by
 refine CB (M:=fun l=>kG T l<18446744073709551616) ?_ (fun l b ih=> ?_) l
 ·show kG T []<_
  rw[zo]; decide
 ·show kG T (l++[b])<_
  rw[nI]; exact qR (pk 1 ih) (hT _)
theorem wM (hT: ∀i,T i<18446744073709551616) (x:UInt8) (l:List UInt8):kG T (x::l)=pm l.length (T x.toNat)^^^kG T l:=by
 refine CB (M:=fun l=>kG T (x::l)=pm l.length (T x.toNat)^^^kG T l) ?_ (fun l b ih=> ?_) l
 ·show kG T [x]=pm 0 (T x.toNat)^^^kG T []
  rw[Jd,zo,Nat.xor_zero,pm]
 ·show kG T (x::(l++[b]))=pm (l++[b]).length (T x.toNat)^^^kG T (l++[b])
  rw[<-aK,nI,nI,an,bT,pm,ih,OB (vK _ (hT _)) (CA hT _) (by decide),Nat.xor_assoc]
theorem EG (hT: ∀i,T i<18446744073709551616) (x b:UInt8) (l:List UInt8) (h:l.length+1<=64):(jR (kG T (x::l)) 1^^^T b.toNat)^^^jR (T x.toNat) (l.length+1)=kG T (l++[b]):=by
 rw[<-nI,aK,wM hT,an,bT,<-vJ (hT _) h,Nat.xor_comm (pm _ _),Nat.xor_assoc,Nat.xor_self,Nat.xor_zero]
theorem zn (hT: ∀i,T i<18446744073709551616): ∀l,rZ T l=kG T l
 | []=>rfl
 | b::l=>by rw[rZ,zn hT l,wM hT]
end
def qd (seed:Nat) (l:List UInt8):Nat:=kG (um seed) l
theorem wL (seed:Nat) (l:List UInt8):qd seed l<18446744073709551616:=CA (ri seed) l
def nW (W:Nat) (d:List UInt8):List UInt8:=d.drop (d.length-W)
theorem nX (W:Nat) (d:List UInt8):(nW W d).length=min W d.length:=by unfold nW; rw[bw]; omega
theorem At {W:Nat} {d:List UInt8} (h:d.length<W) (b:UInt8):nW W (d++[b])=nW W d++[b]:=by
 unfold nW;rw[an,bT,show d.length+1-W=0 by omega,show d.length-W=0 by omega]; rfl
theorem Au {W:Nat} {d:List UInt8} (hW:1<=W) (h:W<=d.length) (b:UInt8):nW W (d++[b])=(nW W d).tail++[b]:=by
 unfold nW;rw[an,bT,List.tail_drop,fw (by omega)]
 congr 2; omega
def GH (seed W bits:Nat) (d:List UInt8):Bool:=decide (W<=d.length) && decide (bits<=Lib.ctz 64 (qd seed (nW W d)))
section
variable (mk : Nat → Bool) (mn mx len : Nat)
def qf :Nat->Int
 | 0=> -(mn:Int)
 | p+1=>if mk (p+1)then((p+1:Nat):Int)else qf p
def kt :Nat->Bool
 | 0=>false
 | p+1=>mk (p+1) && decide ((mn:Int)<=((p+1:Nat):Int)-qf mk mn p)
def lR (l:List Nat):Nat:=l.getLast?.getD 0
def mE (s q:Nat):Bool:=kt mk mn q || decide (s+mx<=q) || decide (len<=q)
def kM :Nat->List Nat
 | 0=>[]
 | p+1=>if mE mk mn mx len (lR (kM p)) (p+1)then kM p++[p+1]else kM p
def qu :List Nat:=kM mk mn mx len len
end
section
variable {mk : Nat → Bool} {mn mx len : Nat}
theorem mh (l:List Nat) (p:Nat):lR (l++[p])=p:=by simp[lR]
theorem sk (p:Nat):(qf mk mn p= -(mn:Int)/\ ∀q,1<=q->q<=p->mk q=false)\/ ∃L,qf mk mn p=((L:Nat):Int)/\1<=L/\L<=p/\mk L=true/\ ∀q,L<q->q<=p->mk q=false:=by
 induction p with
 | zero=>exact .inl ⟨rfl,fun q h1 h2=>by omega⟩
 | succ p ih=>
  rw[qf]
  by_cases h:mk (p+1)=true
  ·rw[if_pos h];exact .inr ⟨p+1,rfl,by omega,by omega,h,fun q h1 h2=>by omega⟩
  ·rw[if_neg h];have h0:mk (p+1)=false:=by simpa using h
   rcases ih with⟨h1,h2⟩ | ⟨L,h1,h2,h3,h4,h5⟩
   ·exact .inl ⟨h1,fun q ha hb=>by
     by_cases e:q=p+1
     ·rw[e]; exact h0
     ·exact h2 q ha (by omega)⟩
   ·exact .inr ⟨L,h1,h2,by omega,h4,fun q ha hb=>by
     by_cases e:q=p+1
     ·rw[e]; exact h0
     ·exact h5 q ha (by omega)⟩
theorem JN {p:Nat} :kt mk mn p=true<->1<=p/\mk p=true/\ ∀q,1<=q->q<p->p<q+mn->mk q=false:=by
 cases p with
 | zero=>simp[kt]
 | succ p=>
  rw[kt,aI,aL]
  constructor
  ·rintro⟨h1,h2⟩;refine⟨by omega,h1,fun q ha hb hc=> ?_⟩
   rcases sk (mk:=mk) (mn:=mn) p with⟨h3,h4⟩ | ⟨L,h3,h4,h5,h6,h7⟩
   ·exact h4 q ha (by omega)
   ·rw[h3]at h2;exact h7 q (by omega) (by omega)
  ·rintro⟨_,h1,h2⟩;refine⟨h1, ?_⟩
   rcases sk (mk:=mk) (mn:=mn) p with⟨h3,_⟩ | ⟨L,h3,h4,h5,h6,_⟩
   ·rw[h3]; omega
   ·rw[h3]
    by_cases h8:p+1<L+mn
    ·have:=h2 L h4 (by omega) h8;rw[h6]at this; cases this
    ·omega
def AF (mk:Nat->Bool) (mn mx len s q:Nat):Prop:=s<q/\q<=len/\mE mk mn mx len s q=true/\ ∀r,s<r->r<q->mE mk mn mx len s r=false
inductive yf (mk : Nat → Bool) (mn mx len : Nat) : List Nat → Nat → Prop
 | nil:yf mk mn mx len [] 0
 | snoc {l:List Nat} {s q:Nat} :yf mk mn mx len l s->AF mk mn mx len s q->yf mk mn mx len (l++[q]) q
inductive uE (mk : Nat → Bool) (mn mx len : Nat) : Nat → List Nat → Prop
 | nil:uE mk mn mx len len []
 | cons {s q:Nat} {l:List Nat} :AF mk mn mx len s q->uE mk mn mx len q l->uE mk mn mx len s (q::l)
theorem AF.det {s q q':Nat} (h:AF mk mn mx len s q) (h':AF mk mn mx len s q'):q=q':=by
 rcases Nat.lt_trichotomy q q' with e | e | e
 ·have h1:=h'.2.2.2 q h.1 e;rw[h.2.2.1]at h1; cases h1
 ·exact e
 ·have h1:=h.2.2.2 q' h'.1 e;rw[h'.2.2.1]at h1; cases h1
theorem uE.det {s:Nat} {l:List Nat} (h:uE mk mn mx len s l): ∀ {l'},uE mk mn mx len s l'->l=l':=by
 induction h with
 | nil=>
  intro l' h'
  cases h' with
  | nil=>rfl
  | cons h1 _=>exact absurd h1.1 (by have:=h1.2.1; omega)
 | cons h1 _ ih=>
  intro l' h'
  cases h' with
  | nil=>exact absurd h1.1 (by have:=h1.2.1; omega)
  | cons h3 h4=>
   cases h1.det h3
   rw[ih h4]
theorem yf.chain {l:List Nat} {s:Nat} (h:yf mk mn mx len l s): ∀ {m},uE mk mn mx len s m->uE mk mn mx len 0 (l++m):=by
 induction h with
 | nil=>intro m hm; exact hm
 | snoc _ h2 ih=>
  intro m hm;rw[bi];exact ih (.cons h2 hm)
theorem yf.det {l l':List Nat} (h:yf mk mn mx len l len) (h':yf mk mn mx len l' len):l=l':=by
 have h1:=h.chain .nil;have h2:=h'.chain .nil;rw[bY]at h1 h2;exact h1.det h2
theorem yf.last {l:List Nat} {s:Nat} (h:yf mk mn mx len l s):lR l=s:=by
 cases h with
 | nil=>rfl
 | snoc _ _=>exact mh _ _
theorem yf.le {l:List Nat} {s:Nat} (h:yf mk mn mx len l s):s<=len:=by
 cases h with
 | nil=>omega
 | snoc _ h=>exact h.2.1
theorem wE : ∀ {p:Nat},p<=len-> ∃s,yf mk mn mx len (kM mk mn mx len p) s/\s<=p/\ ∀r,s<r->r<=p->mE mk mn mx len s r=false
 | 0,_=>⟨0, .nil,by omega,fun r h1 h2=>by omega⟩
 | p+1,hp=>by
  obtain⟨s,h1,h2,h3⟩:=wE (p:=p) (by omega);rw[kM,h1.last]
  by_cases h:mE mk mn mx len s (p+1)=true
  ·rw[if_pos h];exact⟨p+1,h1.snoc ⟨by omega,hp,h,fun r hr1 hr2=>h3 r hr1 (by omega)⟩,by omega,fun r hr1 hr2=>by omega⟩
  ·rw[if_neg h];exact⟨s,h1,by omega,fun r hr1 hr2=>by
    by_cases e:r=p+1
    ·rw[e]; simpa using h
    ·exact h3 r hr1 (by omega)⟩
theorem nn :yf mk mn mx len (qu mk mn mx len) len:=by
 obtain⟨s,h1,h2,h3⟩:=wE (mk:=mk) (mn:=mn) (mx:=mx) (len:=len) (ak len)
 by_cases e:s=len
 ·rw[e]at h1; exact h1
 ·have:=h3 len (by omega) (by omega);simp[mE]at this
theorem AF.reach {s q:Nat} (hm:1<=mx) (h:AF mk mn mx len s q):q<=s+mx:=by
 by_cases h1:s+mx<q
 ·have h2:=h.2.2.2 (s+mx) (by omega) h1;simp[mE]at h2
 ·omega
theorem MT {s e:Nat} (hm:1<=mx) (hs:s<e) (he:e<=len) (hst:kt mk mn e=true\/e=len) (hno: ∀r,s<r->r<e->kt mk mn r=false):AF mk mn mx len s (min (s+mx) e):=by
 refine⟨by omega,by omega, ?_,fun r h1 h2=> ?_⟩
 ·unfold mE
  by_cases h:s+mx<=e
  ·rw[fh h]; simp
  ·rw[Nat.min_eq_right (by omega)]
   rcases hst with h' | h'
   ·rw[h']; rfl
   ·rw[h']; simp
 ·unfold mE;rw[hno r h1 (by omega)]
  simp; omega
def iQ (data:List UInt8) (s e:Nat):List UInt8:=(data.drop s).take (e-s)
def jA (data:List UInt8):Nat->List Nat->List (List UInt8)
 | _,[]=>[]
 | s,e::l=>iQ data s e::jA data e l
theorem lG (data:List UInt8): ∀(l:List Nat) (s e:Nat),jA data s (l++[e])=jA data s l++[iQ data (l.getLast?.getD s) e]
 | [],_,_=>rfl
 | x::l,s,e=>by
  rw[aK,jA,lG data l x e,jA,aK]
  congr 3
  rw[List.getLast?_cons]; rfl
theorem Dm {data:List UInt8} {l:List Nat} {s:Nat} (h:yf mk mn mx data.length l s):(jA data 0 l).flatten=data.take s:=by
 induction h with
 | nil=>simp[jA]
 | snoc h1 h2 ih=>
  rename_i l s q;rw[lG,List.flatten_append,ih];have:=h1.last;unfold lR at this;rw[this,iD,List.flatten_nil,bY];unfold iQ;have h3:=h2.1;rw[show q=s+(q-s) by omega,List.take_add,show s+(q-s)-s=q-s by omega]
theorem xr {data:List UInt8} :(jA data 0 (qu mk mn mx data.length)).flatten=data:=by
 rw[Dm nn,dj]
theorem uq {data:List UInt8} {l:List Nat} {s:Nat} (hm:1<=mx) (h:yf mk mn mx data.length l s): ∀c∈jA data 0 l,1<=c.length/\c.length<=mx:=by
 induction h with
 | nil=>simp[jA]
 | snoc h1 h2 ih=>
  rename_i l s q;rw[lG];intro c hc
  rcases aT.1 hc with hc | hc
  ·exact ih c hc
  ·rw[aM.1 hc];have:=h1.last;unfold lR at this;rw[this];unfold iQ;rw[bm,bw];have h3:=h2.reach hm;have h4:=h2.1;have h5:=h2.2.1;omega
end
open Go Go.RowKit
theorem Ac {x s:Nat} (hx:x<18446744073709551616):bits .or .u64 ((x:Int)*2^s%18446744073709551616) ((x:Int)/2^(64-s))=((jR x s:Nat):Int):=by
 have e1:((x:Int)*2^s%18446744073709551616)=((x*2^s%18446744073709551616:Nat):Int):=by simp
 have e2:((x:Int)/2^(64-s))=((x/2^(64-s):Nat):Int):=by simp
 rw[e1,e2,u64_or_nat _ _ (cU _ (by decide)) (dE (eG _ _) hx)]
 rfl
theorem Ab (x k:Nat) (w:World) (hx:x<18446744073709551616) (hk:k<=64):Calls Tryz.prog 211 #[.int .u64 (x:Int), .int .i64 (k:Int)] w fun e w'=>e= .returned (.int .u64 ((jR x k:Nat):Int))/\w=w':=by
 obtain⟨s,hs⟩: ∃s,s=k%64:=⟨_,rfl⟩;have h1:bits BinOp.and IntKind.u64 (k:Int) 63=(s:Int):=by
  rw[show(63:Int)=((63:Nat):Int)from rfl,u64_and_nat _ _ (by omega) (by decide),nat_mask6,hs]
 have hc:s<64:=by omega
 have hb:min s 64=s:=by omega
 have ha:min (64-s) 64=64-s:=by omega
 have HR:=am (show jR x s=jR x k by
  by_cases h:k=64
  ·have e:s=0:=by rw[hs,h]
   rw[e,h,xC hx,<-vJ hx (ak 64),Kg hx]
  ·rw[show s=k by omega])
 clear hs
 go_enter Tryz.func211,Tryz.ntmps211
 go_wp2_with fail;go_ret;refine⟨?_,rfl⟩;rw[<-HR.o,<-Ac hx,cQ]
 rfl
theorem Pq (a c:Nat):((a:Int)*(c:Int))%18446744073709551616=((a*c%18446744073709551616:Nat):Int):=by simp
theorem yd (z d:Nat) (hz:z<18446744073709551616):bits BinOp.xor IntKind.u64 (z:Int) ((z:Int)/(d:Int))=((z^^^(z/d):Nat):Int):=by
 rw[show((z:Int)/(d:Int))=((z/d:Nat):Int) by simp,u64_xor_nat _ _ hz (dE (eG _ _) hz)]
theorem Ju (z:Nat) (hz:z<18446744073709551616):(bits BinOp.xor IntKind.u64 (z:Int) ((z:Int)/1073741824)*13787848793156543929)%18446744073709551616=((EY z:Nat):Int):=by
 have h:=yd z 1073741824 hz;rw[show((1073741824:Nat):Int)=1073741824 from rfl]at h;rw[h];exact Pq (z^^^(z/1073741824)) 13787848793156543929
theorem Jw (z:Nat) (hz:z<18446744073709551616):(bits BinOp.xor IntKind.u64 (z:Int) ((z:Int)/134217728)*10723151780598845931)%18446744073709551616=((Jv z:Nat):Int):=by
 have h:=yd z 134217728 hz;rw[show((134217728:Nat):Int)=134217728 from rfl]at h;rw[h];exact Pq (z^^^(z/134217728)) 10723151780598845931
theorem zK (z:Nat) (hz:z<18446744073709551616):bits BinOp.xor IntKind.u64 (z:Int) ((z:Int)/2147483648)=((Po z:Nat):Int):=by
 have h:=yd z 2147483648 hz;rw[show((2147483648:Nat):Int)=2147483648 from rfl]at h;exact h
theorem Af (s k:Nat):IntKind.u64.wrap ((s:Int)+IntKind.u64.wrap (((k:Int)+1)*11400714819323198485))=((tF s k:Nat):Int):=by
 rw[cQ,cQ,show((k:Int)+1)=((k+1:Nat):Int) by omega,show(11400714819323198485:Int)=((11400714819323198485:Nat):Int)from rfl,Pq];unfold tF;omega
theorem zI (z:Nat) (hz:z<18446744073709551616):IntKind.u64.wrap (bits BinOp.xor IntKind.u64 (z:Int) ((z:Int)/1073741824)*13787848793156543929)=((EY z:Nat):Int):=by rw[cQ,Ju z hz]
theorem zJ (z:Nat) (hz:z<18446744073709551616):IntKind.u64.wrap (bits BinOp.xor IntKind.u64 (z:Int) ((z:Int)/134217728)*10723151780598845931)=((Jv z:Nat):Int):=by rw[cQ,Jw z hz]
theorem GI (z:Nat):EY z<18446744073709551616:=cU _ (by decide)
theorem GJ (z:Nat):Jv z<18446744073709551616:=cU _ (by decide)
theorem DF (s i:Nat):tF s i<18446744073709551616:=cU _ (by decide)
def Kz (x:Nat):Value:= .int .u64 (x:Int)
structure oI (w : World) (seed k : Nat) (wr : World) : Prop where
 box:wr.heap[w.heap.size]? =some (.cells ((List.range k).map (fun i=>Kz (um seed i))++List.replicate (256-k) (Kz 0)).toArray 43 (0,0))
 below:Below w.heap.size w wr
theorem oI.here {w wr:World} {seed k:Nat} (h:oI w seed k wr) (hk:k<256):wr.cell? ⟨w.heap.size,k,none⟩=some (.int .u64 0):=by
 rw[bq wr _ _ _ _ _ h.box,ai,bG (by simp)];rw[aB,List.length_range,eF,show 256-k=(256-(k+1))+1 by omega,gY]
 rfl
theorem oI.put {w wr:World} {seed k:Nat} (h:oI w seed k wr) (hk:k<256):oI w seed (k+1) (wr.setCell ⟨w.heap.size,k,none⟩ (Kz (um seed k))):=by
 refine⟨?_,h.below.trans ⟨rfl,rfl,rfl,by simp[World.setCell],fun j hj=>heap_setCell_other wr _ j _ (by show j≠w.heap.size; omega)⟩⟩;rw[gR wr _ _ _ _ _ h.box]
 congr 2
 rw[aa,ft _ _ (by simp),aB,List.length_range,eF,show 256-k=(256-(k+1))+1 by omega,gY,lM,aN];simp
theorem Oe (w:World):(Instr.makeSlice 262 (.int .i64 256) (.int .i64 256)).run Tryz.prog w= .ok (.slice (some ⟨w.heap.size,0,none⟩) 256 256) (w.alloc (.cells (List.replicate 256 (Kz 0)).toArray 43)):=by kernel_rfl
theorem Kx (seed:Nat) (w:World):Calls Tryz.prog 210 #[.int .u64 (seed:Int)] w fun e w'=>e= .returned (.slice (some ⟨w.heap.size,0,none⟩) 256 256)/\oI w seed 256 w':=by
 have hc:=Oe
 go_enter Tryz.func210,Tryz.ntmps210
 go_wp2_with fail;have hb:=am (show oI w seed 0 (w.alloc (.cells (List.replicate 256 (Kz 0)).toArray 43))from⟨by rw[aF]; rfl,eK⟩);clear hc
 go_loopw [9] (fun i wr=> ∃k:Nat,k<=256/\i= .int .i64 (k:Int)/\oI w seed k wr) (fun i _=>256-(intOf i).toNat)
 case atStart=>exact⟨0,by omega,rfl,hb.o⟩
 case round=>
  obtain⟨k,hk,rfl,ht⟩:=hrel;have HT:=am ht;have hz:=ht.below.size;clear ht
  by_cases ha:k<256
  ·have ch:=HT.o.here ha;have cf:=dI wr _ k _ _ HT.o.box;have hd:(k:Int)<256:=by omega
   go_wp2_with fail
   go_roundw
   case rel=>
    rw[Af,zI _ (DF _ _),zJ _ (GI _),zK _ (GJ _)];exact⟨k+1,by omega,by simp,HT.o.put ha⟩
   case measure=>simp[intOf]; omega
  ·obtain rfl:k=256:=by omega
   go_wp2_with fail;go_ret;exact⟨rfl,HT.o⟩
def uy (seed:Nat):List Value:=(List.range 256).map fun i=>Kz (um seed i)
theorem tI (seed:Nat):(uy seed).length=256:=by simp[uy]
def kV (seed:Nat) (ring:List UInt8) (W s n h:Nat):List Value:=uy seed++(ring.map aY++[.int .i64 (W:Int), .int .i64 (s:Int), .int .i64 (n:Int), .int .u64 (h:Int)])
theorem oI.full {w wr:World} {seed:Nat} (h:oI w seed 256 wr):wr.heap[w.heap.size]? =some (.cells (uy seed).toArray 43 (0,0)):=by
 rw[h.box,eF,List.replicate_zero,bY]; rfl
def qS (W:Nat):List Value:=List.replicate 256 (.int .u64 0)++((List.replicate 64 (0:UInt8)).map aY++[.int .i64 (W:Int), .int .i64 0, .int .i64 0, .int .u64 0])
theorem DA (seed W:Nat) (w:World) (hW:1<=W) (hW2:W<=64):Calls Tryz.prog 199 #[.int .u64 (seed:Int), .int .i64 (W:Int)] w fun e w'=> ∃rb,e= .returned (.pointer (some ⟨rb,0,none⟩))/\w.heap.size<=rb/\
  w'.heap[rb]? =some (.cells (kV seed (List.replicate 64 0) W 0 0 0).toArray 237 (0,0))/\Below w.heap.size w w':=by
 have hg:max (W:Int) 1=(W:Int):=by omega
 have hh:min (W:Int) 64=(W:Int):=by omega
 go_enter Tryz.func199,Tryz.ntmps199
 go_wp2_with fail;obtain⟨w1,ha⟩: ∃w1,w1=w.alloc (.cells (Tryz.zeroCells237.setIfInBounds 320 (.int .i64 (W:Int))) 237):=⟨_,rfl⟩;rw[<-ha];have hq:=am (show w1.heap[w.heap.size]? =some (.cells (qS W).toArray 237 (0,0)) by rw[ha,aF,show Tryz.zeroCells237.setIfInBounds 320 (.int .i64 (W:Int))=(qS W).toArray by kernel_rfl]);have hl:=am (show Below w.heap.size w w1 by rw[ha]; exact eK)
 clear ha hg hh;refine ez (fun _=>True) (by kernel_rfl) ?_;obtain⟨V,hV⟩: ∃V:World,V=w1.drew:=⟨_,rfl⟩;rw[<-hV];have hf:=am (show V.heap[w.heap.size]? =some (.cells (qS W).toArray 237 (0,0)) by rw[hV]; exact hq.o);have ho:=am (show Below w.heap.size w V by rw[hV]; exact hl.o.trans (au _ _).drew);clear hV
 iterate 5 (refine cA rfl (by kernel_rfl) (fun _ _ _ h=>h) rfl trivial (by intro w' ha; go_simp; rfl) ?_; simp only[Act.put,aa,ag,ab])
 refine cn 5 rfl (fun K hK=> ?_);go_wp2_with fail;refine(Kx seed V).mono ?_;rintro e w2 ⟨rfl,ht⟩;have hp:=am ht.full;have hm:=am (ar ho.o ht.below);have hk:=am ((ht.below.block _ (aw hf.o)).trans hf.o);have hs:=am (aw hf.o);clear ht;go_wp2_with fail
 try refine⟨trivial, ?_⟩
 refine cn 6 rfl (fun K hK=> ?_);have he:=am (show ∀j v,(uy seed)[j]? =some v->w2.cell? ((⟨V.heap.size,0,none⟩:Addr).add j)=some v from fun j v hj=>by rw[jH,bS,bq w2 _ _ _ _ _ hp.o,ai]; exact hj);have hc:=am (show 0+(uy seed).length<=(qS W).toArray.size by rw[tI,bR]; simp[qS])
 have hd:=am (show ∀v∈uy seed,v.oneCell'=true from fun v hv=>by obtain⟨x,_,rfl⟩:=aS.1 hv; rfl);go_wp2_with (refine wpList_copy_own rfl _ _ 262 262 rfl 43 Tryz.underlying262 (by kernel_rfl) w.heap.size 0 256 256 ⟨V.heap.size,0,none⟩ 256 256 rfl rfl (qS W).toArray 237 hk.o (uy seed) rfl he.o hc.o hd.o ?_);simp only[Act.put,aa,ag,ab]
 obtain⟨w3,hb⟩: ∃w3,w3=w2.setRow w.heap.size (List.take 0 (qS W)++(uy seed++List.drop (0+(uy seed).length) (qS W))).toArray:=⟨_,rfl⟩;have hr:=am (show w3.heap[w.heap.size]? =some (.cells (kV seed (List.replicate 64 0) W 0 0 0).toArray 237 (0,0)) by
  rw[hb,dW w2 _ _ _ _ _ hk.o,aX,aJ,bS,tI]
  congr 3)
 have hn:=am (show Below w.heap.size w w3 by rw[hb]; exact eq hm.o (ak _) _);refine⟨trivial, ?_⟩;refine cE (by kernel_rfl) ?_
 change Exit.then _ _ _ _ (w2.setRow w.heap.size (List.take 0 (qS W)++(uy seed++List.drop (0+(uy seed).length) (qS W))).toArray)
 rw[<-hb];clear hb;go_wp2_with fail;go_ret;exact⟨_,rfl,ak _,hr.o,hn.o⟩
structure fN where
 mn:Int
 mx:Int
 win:Int
 bits:Int
 seed:Nat
def fU (c:fN):List Value:=[.int .i64 c.mn, .int .i64 c.mx, .int .i64 c.win, .int .i64 c.bits, .int .u64 (c.seed:Int)]
def kj (c:fN):Value:= .agg #[.int .i64 c.mn, .int .i64 c.mx, .int .i64 c.win, .int .i64 c.bits, .int .u64 (c.seed:Int)]
def jG (c:fN):Bool:=decide (1<=c.win) && decide (c.win<=64) && decide (c.win<=c.mn) && decide (c.mn<=c.mx) && decide (c.mx<=32768) && decide (0<=c.bits) && decide (c.bits<=20)
theorem kW {c:fN} :jG c=true<->1<=c.win/\c.win<=64/\c.win<=c.mn/\c.mn<=c.mx/\c.mx<=32768/\0<=c.bits/\c.bits<=20:=by unfold jG; simp[and_assoc]
theorem AV (c:fN) (w:World):Calls Tryz.prog 70 #[kj c] w fun e w'=>e= .returned (.bool (jG c))/\Below w.heap.size w w':=by
 unfold kj
 go_enter Tryz.func70,Tryz.ntmps70
 go_wp2_with fail
 all_goals (go_ret; refine⟨bW ?_,eK⟩; rw[dk,kW]; simp; try omega)
theorem LG {place:Nat->Option (Nat×Nat)} {cells:Array Value} {i off:Nat} {v:Value} {rest:List (Nat×Value)} (hp:place i=some (off,1)) (hv:v.cells= #[v]) (hf:off<cells.size):
  Instr.fill place cells ((i,v)::rest)=Instr.fill place (cells.setIfInBounds off v) rest:=by
 rw[Instr.fill,hp];simp only[hv];rw[if_neg (by simp; omega)]
 rfl
def Nr :List Value:=qS 0++([.int .i64 0, .int .i64 0, .int .i64 0, .int .i64 0, .int .u64 0]++[.int .i64 0, .int .i64 0])
theorem KH :Nr.length=331:=by kernel_rfl
theorem uu (seed:Nat) {ring:List UInt8} (h:ring.length=64) (W s n x:Nat):(kV seed ring W s n x).length=324:=by unfold kV; rw[an,tI,an,aB,h]; rfl
theorem Em (r:List Value) (c:fN) (l:Int) (hr:r.length=324):Tryz.prog.built 239 [(0, .agg r.toArray),(1,kj c),(3, .int .i64 l)]=some (r++(fU c++[Value.int .i64 0,Value.int .i64 l])).toArray:=by
 have h: ∀parts,Tryz.prog.built 239 parts=Instr.fill (fun i=>(#[(0,324),(324,5),(329,1),(330,1)]:Array (Nat×Nat))[i]?) Nr.toArray parts:=fun parts=>by kernel_rfl
 have e0:splice Nr 0 r=r++([.int .i64 0, .int .i64 0, .int .i64 0, .int .i64 0, .int .u64 0]++[.int .i64 0, .int .i64 0]):=by
  unfold splice;rw[aX,aJ,bS,hr]
  congr 1
 rw[h,oY (off:=0) (size:=324) rfl (by simpa using hr) (by rw[bR,KH]; decide)];simp only;rw[e0];unfold kj;rw[oY (off:=324) (size:=5) rfl rfl (by rw[bR,an,hr]; decide),LG (off:=330) rfl rfl (by rw[bR,length_splice _ _ _ (by rw[an,hr]; show 324+5<=324+7; decide),an,hr]; show 330<324+7; decide)]
 simp only[Instr.fill]
 congr 1
 unfold splice;rw[aa]
 congr 1
 rw[fx (by omega),bB (by omega),iS,dN (by rw[hr]; show 324<=324+5; decide),ft _ _ (by omega),hr]
 rfl
def rM (c:fN) (roll:List Value) (pos last:Int):List Value:=roll++(fU c++[Value.int .i64 pos,Value.int .i64 last])
theorem ul (c:fN) {roll:List Value} (h:roll.length=324) (p l:Int):(rM c roll p l).length=331:=by unfold rM; rw[an,h]; rfl
theorem JV (seed:Nat) (ring:List UInt8) (W s n x:Nat): ∀v∈kV seed ring W s n x,v.oneCell'=true:=by
 intro v hv;unfold kV at hv
 rcases aT.1 hv with hv | hv
 ·obtain⟨y,_,rfl⟩:=aS.1 hv; rfl
 ·rcases aT.1 hv with hv | hv
  ·obtain⟨y,_,rfl⟩:=aS.1 hv; rfl
  ·simp only[aZ,dq,or_false]at hv
   rcases hv with rfl | rfl | rfl | rfl<;> rfl
theorem zH (c:fN) (seed:Nat) (W:Nat) (l:Int): ∀v∈kV seed (List.replicate 64 0) W 0 0 0++(fU c++[Value.int .i64 0,Value.int .i64 l]),v.oneCell'=true:=by
 intro v hv
 rcases aT.1 hv with hv | hv
 ·exact JV _ _ _ _ _ _ v hv
 ·simp only[fU,aT,aZ,dq,or_false]at hv
  rcases hv with(rfl | rfl | rfl | rfl | rfl) | rfl | rfl<;> rfl
theorem Fs (seed W:Nat) (wi:Int) (w:World) (hwi:wi=(W:Int)) (hW:1<=W) (hW2:W<=64):Calls Tryz.prog 199 #[.int .u64 (seed:Int), .int .i64 wi] w fun e w'=> ∃rb,e= .returned (.pointer (some ⟨rb,0,none⟩))/\w.heap.size<=rb/\
  w'.heap[rb]? =some (.cells (kV seed (List.replicate 64 0) W 0 0 0).toArray 237 (0,0))/\Below w.heap.size w w':=by
 subst hwi; exact DA seed W w hW hW2
theorem yu (c:fN) (W:Nat) (w:World) (_hs:c.seed<18446744073709551616) (hW:c.win=(W:Int)) (h1:1<=W) (h2:W<=64) (hm:0<=c.mn/\c.mn<=32768):
  Calls Tryz.prog 187 #[kj c] w fun e w'=>e= .returned (.agg (rM c (kV c.seed (List.replicate 64 0) W 0 0 0) 0 (-c.mn)).toArray)/\Below w.heap.size w w':=by
 have HW:=am hW;have hM:IntKind.i64.wrap (-c.mn)= -c.mn:=by rw[bE]; omega
 clear hW;unfold kj
 go_enter Tryz.func187,Tryz.ntmps187
 go_wp2_with fail;obtain⟨w1,ha⟩: ∃w1,w1=(w.alloc (.cells #[.int .i64 c.mn, .int .i64 c.mx, .int .i64 c.win, .int .i64 c.bits, .int .u64 (c.seed:Int)] 45)).alloc (.cells Tryz.zeroCells239 239):=⟨_,rfl⟩;rw[<-ha];have hI:=am (show w1.heap[w.heap.size]? =some (.cells (fU c).toArray 45 (0,0)) by rw[ha]; exact heap_alloc2_old w _ _);have hJ:=am (show w1.heap[w.heap.size+1]? =some (.cells Tryz.zeroCells239 239 (0,0)) by rw[ha]; exact heap_alloc2_new w _ _)
 have hz:=am (show Below w.heap.size w w1 by rw[ha]; exact(eK).alloc (by simp) _);clear ha;refine ez (fun w'=>w'.cell? ⟨w.heap.size,0,none⟩=some (.int .i64 c.mn)/\w'.cell? ⟨w.heap.size,1,none⟩=some (.int .i64 c.mx)/\w'.cell? ⟨w.heap.size,2,none⟩=some (.int .i64 c.win)/\w'.cell? ⟨w.heap.size,3,none⟩=some (.int .i64 c.bits)/\w'.cell? ⟨w.heap.size,4,none⟩=some (.int .u64 (c.seed:Int))) (by kernel_rfl) ?_
 obtain⟨V,hV⟩: ∃V:World,V=w1.drew:=⟨_,rfl⟩;rw[<-hV];have he:=am (show V.heap[w.heap.size]? =some (.cells (fU c).toArray 45 (0,0)) by rw[hV]; exact hI.o);have hL:=am (show V.heap[w.heap.size+1]? =some (.cells Tryz.zeroCells239 239 (0,0)) by rw[hV]; exact hJ.o);have hD:=am (show Below w.heap.size w V by rw[hV]; exact hz.o.trans (au _ _).drew);clear hV
 have c0:V.cell? ⟨w.heap.size,0,none⟩=some (.int .i64 c.mn):=(bq V _ _ _ _ _ he.o).trans rfl;have c1:V.cell? ⟨w.heap.size,1,none⟩=some (.int .i64 c.mx):=(bq V _ _ _ _ _ he.o).trans rfl;have c2:V.cell? ⟨w.heap.size,2,none⟩=some (.int .i64 c.win):=(bq V _ _ _ _ _ he.o).trans rfl;have c3:V.cell? ⟨w.heap.size,3,none⟩=some (.int .i64 c.bits):=(bq V _ _ _ _ _ he.o).trans rfl
 have c4:V.cell? ⟨w.heap.size,4,none⟩=some (.int .u64 (c.seed:Int)):=(bq V _ _ _ _ _ he.o).trans rfl
 iterate 4 (refine cA rfl (by kernel_rfl) (fun _ _ _ h=>h) rfl ⟨c0,c1,c2,c3,c4⟩ (by rintro w' ⟨ha,hj,hb,hk,hl⟩; go_simp; rfl) ?_; simp only[Act.put,aa,ag,ab])
 refine bN 7 rfl (by kernel_rfl) (by kernel_rfl) (by kernel_rfl) (fun _ _ _ h=>h) rfl ⟨c0,c1,c2,c3,c4⟩ (by rintro w' ⟨ha,hj,hb,hk,hl⟩; go_simp; rfl) ?_;simp only[Act.put,aa,ag,ab];refine bN 8 rfl (by kernel_rfl) (by kernel_rfl) (by kernel_rfl) (fun _ _ _ h=>h) rfl ⟨c0,c1,c2,c3,c4⟩ (by rintro w' ⟨ha,hj,hb,hk,hl⟩; go_simp; rfl) ?_
 simp only[Act.put,aa,ag,ab];refine bN 9 rfl (by kernel_rfl) (by kernel_rfl) (by kernel_rfl) (fun _ _ _ h=>h) rfl ⟨c0,c1,c2,c3,c4⟩ (by rintro w' ⟨ha,hj,hb,hk,hl⟩; go_simp; rfl) ?_;simp only[Act.put,aa,ag,ab];refine bN 10 rfl (by kernel_rfl) (by kernel_rfl) (by kernel_rfl) (fun _ _ _ h=>h) rfl ⟨c0,c1,c2,c3,c4⟩ (by rintro w' ⟨ha,hj,hb,hk,hl⟩; go_simp; rfl) ?_
 simp only[Act.put,aa,ag,ab];refine cn 4 rfl (fun K hK=> ?_);go_wp2_with fail;refine(Fs c.seed W c.win V HW.o h1 h2).mono ?_;rintro e w2 ⟨rb,rfl,hN,hy,hn⟩;have hA:=am (ar hD.o hn);have hd:=am (dX hn he.o);have hx:=am (dX hn hL.o);have hv:=am hy;clear c0 c1 c2 c3 c4 hn hy;have c0:w2.cell? ⟨w.heap.size,0,none⟩=some (.int .i64 c.mn):=(bq w2 _ _ _ _ _ hd.o).trans rfl
 have c1:w2.cell? ⟨w.heap.size,1,none⟩=some (.int .i64 c.mx):=(bq w2 _ _ _ _ _ hd.o).trans rfl;have c2:w2.cell? ⟨w.heap.size,2,none⟩=some (.int .i64 c.win):=(bq w2 _ _ _ _ _ hd.o).trans rfl;have c3:w2.cell? ⟨w.heap.size,3,none⟩=some (.int .i64 c.bits):=(bq w2 _ _ _ _ _ hd.o).trans rfl;have c4:w2.cell? ⟨w.heap.size,4,none⟩=some (.int .u64 (c.seed:Int)):=(bq w2 _ _ _ _ _ hd.o).trans rfl
 go_wp2_with fail;refine⟨⟨c0,c1,c2,c3,c4⟩, ?_⟩;refine bN 5 rfl (by kernel_rfl) (by kernel_rfl) (by kernel_rfl) (fun _ _ _ h=>h) rfl ⟨c0,c1,c2,c3,c4⟩ (by rintro w' ⟨ha,hj,hb,hk,hl⟩; go_simp; rfl) ?_;simp only[Act.put,aa,ag,ab];obtain⟨rc,ho⟩: ∃rc,rc=kV c.seed (List.replicate 64 0) W 0 0 0:=⟨_,rfl⟩
 have hp:rc.length=324:=by rw[ho]; exact uu _ (by simp) _ _ _ _
 rw[<-ho]at hv;have hw:=am ho;clear ho;have hg:=am (show(Tryz.prog.info? 237).map (·.size)=some rc.length by rw[hp]; kernel_rfl);have hG:=am (ml hv.o);have hC:=am (Em rc c (-c.mn) hp);have hH:=am hp;clear hp;refine cn 6 rfl (fun K hK=> ?_);go_wp2_with (refine dP rfl 237 _ rfl rb 0 rfl rc _ hG.o Tryz.underlying237 rfl hg.o ?_)
 refine⟨⟨c0,c1,c2,c3,c4⟩, ?_⟩;simp only[Act.put,aa,ag,ab];refine cn 11 rfl (fun K hK=> ?_);go_wp2_with (go_loud (refine iG rfl 239 _ rfl [(0, .agg rc.toArray),(1,kj c),(3, .int .i64 (-c.mn))] (by kernel_rfl) _ hC.o ?_));refine⟨⟨c0,c1,c2,c3,c4⟩, ?_⟩;simp only[Act.put,aa,ag,ab]
 refine cn 12 rfl (fun K hK=> ?_);obtain⟨mc,hh⟩: ∃mc,mc=rc++(fU c++[Value.int .i64 0,Value.int .i64 (-c.mn)]):=⟨_,rfl⟩;have hu:mc.length=331:=by rw[hh]; exact ul c hH.o 0 (-c.mn)
 rw[<-hh];have hF:=am hh;have hc:=am (show(Tryz.prog.info? 239).map (·.size)=some mc.toArray.size by rw[bR,hu]; kernel_rfl);have hr:=am (show Tryz.zeroCells239.size=mc.toArray.size by rw[show mc.toArray.size=331 from by rw[bR]; exact hu]; kernel_rfl);have hs:=am (show mc.toArray.all (·.oneCell')=true from dU (by
  rw[hh,hw.o];exact zH c _ _ _))
 clear hu hh;go_wp2_with (go_loud (refine dr rfl 239 _ _ rfl (w.heap.size+1) _ rfl rfl _ _ hx.o hc.o hr.o hs.o ?_));simp only[Act.put];obtain⟨w3,hb⟩: ∃w3,w3=w2.setRow (w.heap.size+1) mc.toArray:=⟨_,rfl⟩;rw[<-hb];have hf:w3.heap[w.heap.size]? =some (.cells (fU c).toArray 45 (0,0)):=by rw[hb,setRow_other w2 _ _ _ (by omega)]; exact hd.o
 have hE:=am (show w3.heap[w.heap.size+1]? =some (.cells mc.toArray 239 (0,0)) by rw[hb]; exact dW w2 _ _ _ _ _ hx.o);have hB:=am (show Below w.heap.size w w3 by rw[hb]; exact eq hA.o (by omega) _);clear hb;refine⟨⟨(bq w3 _ _ _ _ _ hf).trans rfl,(bq w3 _ _ _ _ _ hf).trans rfl,(bq w3 _ _ _ _ _ hf).trans rfl,(bq w3 _ _ _ _ _ hf).trans rfl,(bq w3 _ _ _ _ _ hf).trans rfl⟩, ?_⟩
 refine cE (by kernel_rfl) ?_;clear c0 c1 c2 c3 c4 hf;have hq:=am (show Ending.returned (.agg mc.toArray)=Ending.returned (.agg (rM c (kV c.seed (List.replicate 64 0) W 0 0 0) 0 (-c.mn)).toArray) by rw[hF.o,hw.o]; rfl);go_wp2_with fail;refine cM (results_cell_row rfl _ _ (w.heap.size+1) _ _ _ _ rfl hE.o Tryz.underlying239 rfl hc.o) rfl ?_;exact⟨hq.o,hB.o⟩
end Go.Proofs.YtpffpjbkbaleiaaGreatDoor
