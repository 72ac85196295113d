/- Texts of this proof, one after the other: R3B, HmacC, EncA, RNumP, RNum, EncB, EncC, RdrC, EncD, Codec, CompP, CodecB, SealA, R3C, RollP, ChkP, RollA, RollB, MarkA. -/
import Derived.Test.YtpffpjbkbaleiaaGreatDoorCCompletesB
set_option maxRecDepth 100000
set_option maxHeartbeats 8000000
namespace Go.Proofs.YtpffpjbkbaleiaaGreatDoor
section
open Go Go.RowKit
theorem nW (w:World) (n:Nat):Below w.heap.size w (w.drewN n):=⟨rfl,rfl,rfl,ai _,fun _ _=>rfl⟩
theorem PY (a b c d e f g h:Int):Tryz.prog.built 216 [(0, .int .u32 a),(1, .int .u32 b),(2, .int .u32 c),(3, .int .u32 d),(4, .int .u32 e),(5, .int .u32 f),(6, .int .u32 g),(7, .int .u32 h)]=some #[.int .u32 a, .int .u32 b, .int .u32 c, .int .u32 d, .int .u32 e, .int .u32 f, .int .u32 g, .int .u32 h]:=by kernel_rfl
theorem Jl (v u:V8):Bj v u=Bj u v:=by unfold Bj ua; simp only[lZ]
structure lH (vb : Nat) (W wq : World) (r : V8) : Prop where
 box:wq.heap[vb]? =some (.cells (r.list.map fj).toArray 216 (0,0))
 grown:W.grownBy wq (some vb)
theorem lH.next {vb:Nat} {W wq w':World} {r:V8} (h:lH vb W wq r) (hb:Below wq.heap.size wq w'):lH vb W w' r:=
 ⟨(hb.block vb (am h.box)).trans h.box,⟨hb.os.trans h.grown.os,hb.tape.trans h.grown.tape,hb.output.trans h.grown.output,an h.grown.size hb.size,fun k hk hne=>(hb.block k (aO hk h.grown.size)).trans (h.grown.block k hk hne)⟩⟩
theorem lH.get {vb:Nat} {W wq:World} {r:V8} (h:lH vb W wq r) {j x:Nat} (hj:r.list[j]? =some x):wq.cell? ⟨vb,j,none⟩=some (.int .u32 (x:Int)):=by rw[br wq _ j _ _ _ h.box,aC,bh,hj]; rfl
theorem lH.put {vb:Nat} {W wq:World} {r:V8} (h:lH vb W wq r) {r':V8} {c:Array Value} (hc:c=(r'.list.map fj).toArray):lH vb W (wq.setRow vb c) r':=
 ⟨by rw[em _ _ _ _ _ _ h.box,hc],⟨h.grown.os,h.grown.tape,h.grown.output,by rw[size_setRow]; exact h.grown.size,fun k hk hne=>(setRow_other _ _ _ _ (fun e=>hne (by rw[e]))).trans (h.grown.block k hk hne)⟩⟩
theorem lH.keep {vb:Nat} {W wq:World} {r:V8} (h:lH vb W wq r) {b:Nat} {o:Obj} (hb:W.heap[b]? =some o) (hne:b≠vb):wq.heap[b]? =some o:=
 (h.grown.block b (am hb) (fun e=>hne (bK e))).trans hb
theorem EX (v:V8) (bk o cap:Nat) (bs:List UInt8) (w:World) (hv:v.Ok) (hl:bs.length=64) (_hcap:64<=cap) (_hcapm:cap<=maxLen) (hbs: ∀j b,bs[j]? =some b->w.cell? ⟨bk,o+j,none⟩=some (u8W b)):
  Calls Tryz.prog 216 #[.agg (v.list.map fj).toArray, .slice (some ⟨bk,o,none⟩) 64 cap] w fun e w'=>e= .returned (.agg ((sr v bs).list.map fj).toArray)/\Below w.heap.size w w':=by
 have HS:=ah hbs;obtain⟨W0,hD⟩:=bI ((w.alloc (.cells (v.list.map fj).toArray 216)).alloc (.cells (List.replicate 8 (fj 0)).toArray 216));have HE:=ah (show Below w.heap.size w W0 by rw[hD]; exact(eW).alloc (by simp) _);have HI:=ah (show W0.heap[w.heap.size]? =some (.cells (v.list.map fj).toArray 216 (0,0)) by rw[hD]; exact(cS _ _ _ (by simp)).trans (aG w _))
 have HU:=ah (show W0.heap[w.heap.size+1]? =some (.cells (List.replicate 8 (fj 0)).toArray 216 (0,0)) by rw[hD]; have:=aG (w.alloc (.cells (v.list.map fj).toArray 216)) (.cells (List.replicate 8 (fj 0)).toArray 216); simpa using this);clear hbs
 go_enter Tryz.func216,Tryz.ntmps216
 go_upto_region 1 with(fail)
 change Code.wp _ _ _ _ ((w.alloc (.cells (v.list.map fj).toArray 216)).alloc (.cells (List.replicate 8 (fj 0)).toArray 216))
 rw[<-hD];clear hD;go_wp2_with fail;refine(yB _).mono ?_;rintro e w1 ⟨rfl,ho⟩;have HF:=ah (aj HE.o ho);have HK:=ah (er ho HI.o);have HX:=ah (er ho HU.o);clear ho
 go_upto_region 2 with(first | (refine dA rfl 252 _ _ rfl w1.heap.size nB rfl rfl _ _ (aG w1 _) (by kernel_rfl) (by kernel_rfl) (by kernel_rfl) ?_) | fail)
 obtain⟨W2,hO⟩:=bI ((w1.alloc (.cells (List.replicate 64 (fj 0)).toArray 252)).setRow w1.heap.size nB)
 change Code.wp _ _ _ _ ((w1.alloc (.cells (List.replicate 64 (fj 0)).toArray 252)).setRow w1.heap.size nB)
 have hV:=ah (show Below w1.heap.size w1 W2 by rw[hO]; exact eE (eW) (ai _) _);have Hj:=ah (show W2.heap[w1.heap.size]? =some (.cells nB 252 (0,0)) by rw[hO]; exact em _ _ _ _ _ _ (aG w1 _));have hL:=ah (aj HF.o hV.o);have Hh:=ah (er hV.o HK.o);have Hm:=ah (er hV.o HX.o);rw[<-hO];clear hO
 go_upto_region 3 with(first | (refine iM rfl 252 _ rfl [] (by kernel_rfl) (List.replicate 64 (fj 0)).toArray (by kernel_rfl) ?_) | (refine dA rfl 252 _ _ rfl W2.heap.size (List.replicate 64 (fj 0)).toArray rfl rfl _ _ (aG W2 _) (by kernel_rfl) (by kernel_rfl) (by kernel_rfl) ?_) | fail)
 obtain⟨W3,hP⟩:=bI ((W2.alloc (.cells (List.replicate 64 (fj 0)).toArray 252)).setRow W2.heap.size (List.replicate 64 (fj 0)).toArray)
 change Code.wp _ _ _ _ ((W2.alloc (.cells (List.replicate 64 (fj 0)).toArray 252)).setRow W2.heap.size (List.replicate 64 (fj 0)).toArray)
 have He:=ah (show kz W2 bs 0 W3 from⟨by rw[hP,em _ _ _ _ _ _ (aG W2 _)]; rfl,by rw[hP]; exact eE (eW) (ai _) _⟩);rw[<-hP];clear hP;go_wp2_with fail
 go_loopw [7] (fun i wr=> ∃t:Nat,t<=16/\i= .int .i64 (t:Int)/\kz W2 bs t wr) (fun i _=>16-(intOf i).toNat)
 ·exact⟨0,by omega,rfl,He.o⟩
 ·obtain⟨t,ht,rfl,hs⟩:=hrel;have HA:=ah hs;have hz:=hs.below.size;have hA:=ah (hL.o.trans (hs.below.mono hL.o.size));clear hs
  by_cases H3:t<16
  ·obtain⟨q,hq⟩:=bI (4*t);have HQ:=ah hq;have yv:IntKind.i64.wrap (4*(t:Int))=(q:Int):=by rw[bF]; omega
   obtain⟨r1,Hx⟩:=bI (q+1);obtain⟨r2,Hy⟩:=bI (q+2);obtain⟨r3,Hz⟩:=bI (q+3);have H8:(q:Int)<64:=by omega
   have H9:(r1:Int)<64:=by omega
   have ya:(r2:Int)<64:=by omega
   have yb:(r3:Int)<64:=by omega
   have hJ:(t:Int)<64:=by omega
   have yl:IntKind.i64.wrap ((q:Int)+1)=(r1:Int):=by rw[bF]; omega
   have yn:IntKind.i64.wrap ((q:Int)+2)=(r2:Int):=by rw[bF]; omega
   have yp:IntKind.i64.wrap ((q:Int)+3)=(r3:Int):=by rw[bF]; omega
   obtain⟨b0,h4⟩:=bI (bs.getD q 0);obtain⟨b1,ho⟩:=bI (bs.getD r1 0);obtain⟨b2,h7⟩:=bI (bs.getD r2 0);obtain⟨b3,h9⟩:=bI (bs.getD r3 0);have q0:=HS.o q (bs.getD q 0) (Da (by omega));have q1:=HS.o r1 (bs.getD r1 0) (Da (by omega));have q2:=HS.o r2 (bs.getD r2 0) (Da (by omega));have q3:=HS.o r3 (bs.getD r3 0) (Da (by omega));have HW:=ah (show AV bs t=EK b0 b1 b2 b3 by rw[h4,ho,h7,h9,Hx,Hy,Hz,hq]; rfl)
   rw[<-h4]at q0;rw[<-ho]at q1;rw[<-h7]at q2;rw[<-h9]at q3;have hR:=block_lt_of_cell q0;simp only[u8W]at q0 q1 q2 q3;have c0:=(hA.o.cell (p:=⟨bk,o+q,none⟩) hR).trans q0;have c1:=(hA.o.cell (p:=⟨bk,o+r1,none⟩) hR).trans q1;have c2:=(hA.o.cell (p:=⟨bk,o+r2,none⟩) hR).trans q2;have c3:=(hA.o.cell (p:=⟨bk,o+r3,none⟩) hR).trans q3;have ch:=HA.o.here (by omega)
   have cf:=HA.o.free t;clear q0 q1 q2 q3 h4 ho h7 h9 hq Hx Hy Hz;go_wp2_with fail;refine bL [some 35,none] (by kernel_rfl) (by kernel_rfl) (by kernel_rfl) ?_;simp only[ed,aR,aZ,bA,bR]
   repeat (first | (refine cy rfl ?_; simp only[bN]) | (refine cU rfl (fun K hK=> ?_); go_simp; refine hK _ ?_; clear hK K))
   refine cT ?_;refine eu rfl (fun K hK=> ?_);go_wp2_with fail
   go_roundw
   ·rw[yt,<-HW.o];exact⟨t+1,by omega,by simp,(HA.o.put (by omega) (Jd bs H3)).drew⟩
   simp[intOf]; omega
  ·obtain rfl:t=16:=by omega
   obtain⟨W4,H5⟩:=bI wr;subst H5;have Hf:=HA;clear HA hA hz;rw[show((16:Nat):Int)=(16:Int)from rfl];go_wp2_with fail
   go_loopw [8,9,10] (fun i x1 x2 wr=> ∃t:Nat,16<=t/\t<=64/\i= .int .i64 (t:Int)/\kz W2 bs t wr) (fun i _ _ _=>64-(intOf i).toNat)
   ·exact⟨16,by omega,by omega,rfl,Hf.o⟩
   ·obtain⟨t,H4,ht,rfl,hs⟩:=hrel;have HA:=ah hs;have hz:=hs.below.size;clear hs
    by_cases H6:t<64
    ·obtain⟨j2,Hu⟩:=bI (t-2);obtain⟨j15,hF⟩:=bI (t-15);obtain⟨j7,Hv⟩:=bI (t-7);obtain⟨j16,hG⟩:=bI (t-16);have c2:=HA.o.get (j:=j2) (by omega);have c15:=HA.o.get (j:=j15) (by omega);have c7:=HA.o.get (j:=j7) (by omega);have c16:=HA.o.get (j:=j16) (by omega);have e2:IntKind.i64.wrap ((t:Int)-2)=(j2:Int):=by rw[bF]; omega
     have e15:IntKind.i64.wrap ((t:Int)-15)=(j15:Int):=by rw[bF]; omega
     have e7:IntKind.i64.wrap ((t:Int)-7)=(j7:Int):=by rw[bF]; omega
     have e16:IntKind.i64.wrap ((t:Int)-16)=(j16:Int):=by rw[bF]; omega
     have l2:(j2:Int)<64:=by omega
     have l15:(j15:Int)<64:=by omega
     have l7:(j7:Int)<64:=by omega
     have l16:(j16:Int)<64:=by omega
     have ch:=HA.o.here (by omega);have cf:=HA.o.free t;have HJ:=ah (show j2=t-2/\j15=t-15/\j7=t-7/\j16=t-16 from⟨Hu,hF,Hv,hG⟩);clear Hu hF Hv hG;obtain⟨x2,hT⟩:=bI ((sX bs t).getD j2 0);obtain⟨x15,hf⟩:=bI ((sX bs t).getD j15 0);obtain⟨x7,Hd⟩:=bI ((sX bs t).getD j7 0);obtain⟨x16,hu⟩:=bI ((sX bs t).getD j16 0);rw[<-hT]at c2;rw[<-hf]at c15
     rw[<-Hd]at c7;rw[<-hu]at c16;have o2:x2<4294967296:=by rw[hT]; exact(BZ bs t).get j2
     have o15:x15<4294967296:=by rw[hf]; exact(BZ bs t).get j15
     have HN:=ah (show qT (sX bs t)=(((Li x2+x7)%4294967296+Lh x15)%4294967296+x16)%4294967296 by unfold qT;rw[oR,hT,hf,Hd,hu,HJ.o.1,HJ.o.2.1,HJ.o.2.2.1,HJ.o.2.2.2])
     clear hT hf Hd hu;go_wp2_with fail
     go_quiet ((go_at_call 218; refine Calls.quiet_of (pI _ _ _ o15 (by decide))))
     rw[show xS x15 7=gC x15 25 from rfl,show xS x15 18=gC x15 14 from rfl,AG o15];obtain⟨W5,hn⟩:=bI (wr.drewN nq);rw[<-hn];have hg:=ah (show kz W2 bs t W5 by rw[hn]; exact HA.o.next (nW wr nq));have d2:W5.cell? ⟨W2.heap.size,j2,none⟩=some (.int .u32 (x2:Int)):=by rw[hn]; exact c2
     have d7:W5.cell? ⟨W2.heap.size,j7,none⟩=some (.int .u32 (x7:Int)):=by rw[hn]; exact c7
     have d16:W5.cell? ⟨W2.heap.size,j16,none⟩=some (.int .u32 (x16:Int)):=by rw[hn]; exact c16
     have ch:=hg.o.here (by omega);have cf:=hg.o.free t;clear hn c15 c2 c7 c16;go_wp2_with fail
     go_quiet ((go_at_call 218; refine Calls.quiet_of (pI _ _ _ o2 (by decide))))
     rw[show xS x2 17=gC x2 15 from rfl,show xS x2 19=gC x2 13 from rfl,AH o2];obtain⟨W6,he⟩:=bI (W5.drewN nq);rw[<-he];have hU:=ah (show kz W2 bs t W6 by rw[he]; exact hg.o.next (nW W5 nq));have f7:W6.cell? ⟨W2.heap.size,j7,none⟩=some (.int .u32 (x7:Int)):=by rw[he]; exact d7
     have f16:W6.cell? ⟨W2.heap.size,j16,none⟩=some (.int .u32 (x16:Int)):=by rw[he]; exact d16
     clear ch cf;have ch:=hU.o.here (by omega);have cf:=hU.o.free t;have hJ:(t:Int)<64:=by omega
     clear he d2 d7 d16;go_wp2_with fail;refine bL [some 15,none] (by kernel_rfl) (by kernel_rfl) (by kernel_rfl) ?_;simp only[ed,aR,aZ,bA,bR]
     repeat (first | (refine cy rfl ?_; simp only[bN]) | (refine cU rfl (fun K hK=> ?_); go_simp; refine hK _ ?_; clear hK K))
     refine cT ?_;refine eu rfl (fun K hK=> ?_);go_wp2_with fail
     go_roundw
     ·have HV:((((Li x2:Nat):Int)+(x7:Int)+((Lh x15:Nat):Int)+(x16:Int))%4294967296)=((qT (sX bs t):Nat):Int):=by rw[HN.o]; omega
      rw[HV];exact⟨t+1,by omega,by omega,by simp,(hU.o.put (by omega) (EJ bs H4)).drew⟩
     simp[intOf]; omega
    ·obtain rfl:t=64:=by omega
     obtain⟨W5,hn⟩:=bI wr;subst hn;have hg:=HA;have hM:=ah (hL.o.trans (HA.o.below.mono hL.o.size));have hN:=ah ((HA.o.below.block _ (am Hh.o)).trans Hh.o);have hW:=ah ((HA.o.below.block _ (am Hm.o)).trans Hm.o);have Hk:=ah ((HA.o.below.block _ (am Hj.o)).trans Hj.o);have HZ:=ah (mF hN.o);have HO:=ah (show(Tryz.prog.info? 216).map (·.size)=some (v.list.map fj).length by kernel_rfl)
     have HD:=ah (show(v.list.map fj).toArray.all (·.oneCell')=true from ei (fun x hx=>by obtain⟨y,-,rfl⟩:=aP.1 hx; rfl));clear HA hz Hf He;rw[show((64:Nat):Int)=(64:Int)from rfl]
     go_upto_region 14 with(first | (refine dX rfl 216 _ rfl w.heap.size 0 rfl (v.list.map fj) _ HZ.o fI rfl HO.o ?_) | (refine dA rfl 216 _ _ rfl W5.heap.size (v.list.map fj).toArray rfl rfl _ _ (aG W5 _) (by kernel_rfl) (by kernel_rfl) HD.o ?_) | fail)
     obtain⟨W6,he⟩:=bI ((W5.alloc (.cells (List.replicate 8 (fj 0)).toArray 216)).setRow W5.heap.size (v.list.map fj).toArray)
     change Code.wp _ _ _ _ ((W5.alloc (.cells (List.replicate 8 (fj 0)).toArray 216)).setRow W5.heap.size (v.list.map fj).toArray)
     have hw:=ah (show Below W5.heap.size W5 W6 by rw[he]; exact eE (eW) (ai _) _);have Hq:=ah (show W6.heap[W5.heap.size]? =some (.cells (v.list.map fj).toArray 216 (0,0)) by rw[he]; exact em _ _ _ _ _ _ (aG W5 _));rw[<-he];clear he;have hB:=ah (show lH W5.heap.size W6 W6 v from⟨Hq.o,⟨rfl,rfl,rfl,ai _,fun _ _ _=>rfl⟩⟩)
     obtain⟨vb,Hc⟩: ∃vb,W5.heap.size=vb:=⟨_,rfl⟩;have hp:=ah Hc;rw[Hc]at hB Hq ⊢;clear Hc;go_wp2_with fail
     go_loopw [12,13,14,15,16,17,18,19,20] (fun i y1 y2 y3 y4 y5 y6 y7 y8 wr=> ∃(t:Nat) (r:V8),t<=64/\i= .int .i64 (t:Int)/\r=rTo bs v t/\lH vb W6 wr r) (fun i _ _ _ _ _ _ _ _ _=>64-(intOf i).toNat)
     ·exact⟨0,v,by omega,rfl,rfl,hB.o⟩
     ·obtain⟨t,r,ht,rfl,hr,HB⟩:=hrel;have Ho:=ah hr;have ha:=ah HB;have hh:=ah (show r.Ok by rw[hr]; exact Ga bs t hv);clear hr HB
      by_cases h0:t<64
      ·have v0:=ha.o.get (j:=0) (x:=r.a) rfl;have v1:=ha.o.get (j:=1) (x:=r.b) rfl;have v2:=ha.o.get (j:=2) (x:=r.c) rfl;have v4:=ha.o.get (j:=4) (x:=r.e) rfl;have v5:=ha.o.get (j:=5) (x:=r.f) rfl;have v6:=ha.o.get (j:=6) (x:=r.g) rfl;go_wp2_with fail
       go_quiet (fail)
       obtain⟨W7,hE⟩:=bI (wr.drewN nq);rw[<-hE];have hc:=ah (show lH vb W6 W7 r by rw[hE]; exact ha.o.next (nW wr nq));obtain⟨k,hk⟩:=bI (kc.getD t 0);obtain⟨x,hx⟩:=bI ((wsP bs).getD t 0);have Hl:=ah (aA hk hx);have v7:=hc.o.get (j:=7) (x:=r.h) rfl;have v3:=hc.o.get (j:=3) (x:=r.d) rfl;have ck:W7.cell? ⟨w1.heap.size,t,none⟩=some (.int .u32 (k:Int)):=by rw[br W7 _ t _ _ _ (hc.o.keep (er hw.o Hk.o) (by have:=am Hk.o; have:=hp.o; omega))];unfold nB;rw[aC,bh,getD_some (by rw[BB]; exact h0),<-hk]; rfl
       have cx:W7.cell? ⟨W2.heap.size,t,none⟩=some (.int .u32 (x:Int)):=by rw[br W7 _ t _ _ _ (hc.o.keep (er hw.o hg.o.box) (by have:=am hg.o.box; have:=hp.o; omega)),<-br W5 _ t _ _ _ hg.o.box,hg.o.get h0,BX,<-hx]
       have hJ:(t:Int)<64:=by omega
       clear hE hk hx v0 v1 v2 v4 v5 v6;go_wp2_with fail
       go_quiet ((go_at_call 218; refine Calls.quiet_of (pI _ _ _ hh.o.e (by decide))))
       rw[show xS r.e 6=gC r.e 26 from rfl,show xS r.e 11=gC r.e 21 from rfl,show xS r.e 25=gC r.e 7 from rfl,IY hh.o,Ie hh.o,
        show((((r.h:Int)+((s1P r:Nat):Int)+((chP r:Nat):Int)+(k:Int))%4294967296+(x:Int))%4294967296)=((Oo r k x:Nat):Int) by rw[Gz]; omega]
       obtain⟨t1,Ha⟩:=bI (Oo r k x);rw[<-Ha];have Hp:=ah Ha;obtain⟨W8,h3⟩:=bI (W7.drewN nq);rw[<-h3];have hY:=ah (show lH vb W6 W8 r by rw[h3]; exact hc.o.next (nW W7 nq));clear h3 v7 v3 ck cx Ha;go_wp2_with fail;refine(pI _ _ _ hh.o.a (by decide)).mono ?_;rintro e W9 ⟨rfl,m9,Hw⟩;have hZ:=ah (show lH vb W6 W9 r by rw[Hw]; exact hY.o.next (nW W8 m9))
       clear Hw;go_wp2_with fail;refine(pI _ _ _ hh.o.a (by decide)).mono ?_;rintro e Hs ⟨rfl,m10,hH⟩;have hC:=ah (show lH vb W6 Hs r by rw[hH]; exact hZ.o.next (nW W9 m10));clear hH;go_wp2_with fail;refine(pI _ _ _ hh.o.a (by decide)).mono ?_;rintro e H2 ⟨rfl,m11,hI⟩;have hb:=ah (show lH vb W6 H2 r by rw[hI]; exact hC.o.next (nW Hs m11))
       clear hI;have v3:=hb.o.get (j:=3) (x:=r.d) rfl
       go_upto_region 20 with(fail)
       rw[show xS r.a 2=gC r.a 30 from rfl,show xS r.a 13=gC r.a 19 from rfl,show xS r.a 22=gC r.a 10 from rfl,IX hh.o,ID hh.o,
        show((((s0P r:Nat):Int)+((mjP r:Nat):Int))%4294967296)=((t2P r:Nat):Int) by rw[NR]; omega]
       obtain⟨t2,Hb⟩:=bI (t2P r);rw[<-Hb];have H1:=ah Hb;clear Hb;go_wp2_with (refine iM rfl 216 _ rfl [(0, .int .u32 (((t1:Int)+(t2:Int))%4294967296)),(1, .int .u32 (r.a:Int)),(2, .int .u32 (r.b:Int)),(3, .int .u32 (r.c:Int)),(4, .int .u32 (((r.d:Int)+(t1:Int))%4294967296)),(5, .int .u32 (r.e:Int)),(6, .int .u32 (r.f:Int)),(7, .int .u32 (r.g:Int))] (by kernel_rfl) _ (PY _ _ _ _ _ _ _ _) ?_; go_must (refine dA rfl 216 _ _ rfl vb #[.int .u32 (((t1:Int)+(t2:Int))%4294967296), .int .u32 (r.a:Int), .int .u32 (r.b:Int), .int .u32 (r.c:Int), .int .u32 (((r.d:Int)+(t1:Int))%4294967296), .int .u32 (r.e:Int), .int .u32 (r.f:Int), .int .u32 (r.g:Int)] (by kernel_rfl) (by kernel_rfl) _ _ hb.o.box (by kernel_rfl) (by kernel_rfl) (by kernel_rfl) ?_))
       go_roundw
       ·refine⟨t+1,Ge r k x,by omega,by simp, ?_,hb.o.put ?_⟩
        ·rw[Ea bs v h0,Ho.o,Hl.o.1,Hl.o.2]
        ·rw[show(((t1:Int)+(t2:Int))%4294967296)=(((Oo r k x+t2P r)%4294967296:Nat):Int) by rw[Hp.o,H1.o]; omega,show(((r.d:Int)+(t1:Int))%4294967296)=(((r.d+Oo r k x)%4294967296:Nat):Int) by rw[Hp.o]; omega]
         rfl
       simp[intOf]; omega
      ·obtain rfl:t=64:=by omega
       obtain⟨W7,hE⟩:=bI wr;subst hE;have HR:=ah (show lN vb r v [] 216 W7 W7 0 from lN.start (by rw[ci]; exact ha.o.box) (ak _ _));have HL:=ah (ha.o.keep (er hw.o hN.o) (by have:=am hN.o; have:=hp.o; omega));have HY:=ah (ha.o.keep (er hw.o hW.o) (by have:=am hW.o; have:=hp.o; omega));rw[show((64:Nat):Int)=(64:Int)from rfl]
       go_wp2_with fail
       go_loopw [21] (fun i wq=> ∃j:Nat,j<=8/\i= .int .i64 (j:Int)/\lN vb r v [] 216 W7 wq j) (fun i _=>8-(intOf i).toNat)
       ·exact⟨0,by omega,rfl,HR.o⟩
       ·obtain⟨j,hj,rfl,hm⟩:=hrel;have HM:=ah hm;clear hm
        by_cases h8:j<8
        ·have cs:=HM.o.here h8;have cf:=HM.o.free j;have cv:wr.cell? ⟨w.heap.size,j,none⟩=some (.int .u32 ((v.list.getD j 0:Nat):Int)):=(br wr _ _ _ _ _ (HM.o.keep HL.o (by have:=am hN.o; have:=hp.o; omega))).trans (by rw[aC]; exact PM v h8);obtain⟨x,hx⟩:=bI (r.list.getD j 0);obtain⟨y,hy⟩:=bI (v.list.getD j 0);rw[<-hx]at cs
         rw[<-hy]at cv;have Hr:=ah (aA hx hy);clear hx hy;have H7:(j:Int)<8:=by omega
         go_wp2_with fail;refine bL [some 8,none] (by kernel_rfl) (by kernel_rfl) (by kernel_rfl) ?_;simp only[ed,aR,aZ,bA,bR]
         repeat (first | (refine cy rfl ?_; simp only[bN]) | (refine cU rfl (fun K hK=> ?_); go_simp; refine hK _ ?_; clear hK K))
         refine cT ?_;refine eu rfl (fun K hK=> ?_);go_wp2_with fail
         go_roundw
         ·refine⟨j+1,by omega,by simp, ?_⟩;exact(HM.o.put h8 (by rw[<-Hr.o.1,<-Hr.o.2]; unfold fj ua; simp)).drew
         simp[intOf]; omega
        ·obtain rfl:j=8:=by omega
         have Ht:wr.heap[vb]? =some (.cells (((sr v bs).list.map fj)).toArray 216 (0,0)):=by have h1:=HM.o.box;rw[ci,show Km r v 8=(Bj r v).list from rfl,Jl,Ho.o,<-DY]at h1;exact h1
         have Hg:=ah Ht;have Hn:=ah (HM.o.keep HY.o (by have:=am hW.o; have:=hp.o; omega));obtain⟨cs8,hd⟩:=bI ((sr v bs).list.map fj);rw[<-hd]at Hg;have HH:=ah hd;have hS:cs8.length=8:=by rw[hd]; rfl
         have hX:=ah (mF Hg.o);have HP:=ah (show(Tryz.prog.info? 216).map (·.size)=some cs8.length by rw[hS]; kernel_rfl);have Hi:=ah (show(Tryz.prog.info? 216).map (·.size)=some cs8.toArray.size by rw[bS,hS]; kernel_rfl);have H0:=ah (show(List.replicate 8 (fj 0)).toArray.size=cs8.toArray.size by rw[bS,bS,hS]; rfl)
         have HT:=ah (show cs8.toArray.all (·.oneCell')=true from ei (fun x hx=>by rw[hd]at hx; obtain⟨y,-,rfl⟩:=aP.1 hx; rfl));have HG:=ah (show Below w.heap.size w wr from(hM.o.trans (hw.o.mono hM.o.size)).trans ((show Below w.heap.size W6 wr from by
          have h1:=ha.o.grown;have h2:=HM.o.grown;have yc:w.heap.size<=vb:=by rw[<-hp.o]; exact hM.o.size
          have HC:w.heap.size<=W6.heap.size:=an hM.o.size hw.o.size;exact⟨h2.os.trans h1.os,h2.tape.trans h1.tape,h2.output.trans h1.output,an h1.size h2.size,fun k hk=>(h2.block k (aO hk (an HC h1.size)) (fun e=>by cases e; omega)).trans (h1.block k (aO hk HC) (fun e=>by cases e; omega))⟩)))
         clear Ht hd hS;go_wp2_with (first | (refine dX rfl 216 _ rfl vb 0 rfl cs8 _ hX.o fI rfl HP.o ?_) | (refine dA rfl 216 _ _ rfl (w.heap.size+1) cs8.toArray rfl rfl _ _ Hn.o Hi.o H0.o HT.o ?_) | fail);refine cP (results_cell_row rfl _ _ (w.heap.size+1) _ _ _ _ rfl (em wr _ _ _ _ _ Hn.o) fI rfl Hi.o) rfl ?_
         exact⟨by rw[HH.o],eE HG.o (by omega) _⟩
structure Bb (w : World) : Prop where
 init:oS w
 kons:ml w
 pads:LI w
 ilt:2<w.heap.size
 klt:5<w.heap.size
 plt:0<w.heap.size
theorem Bb.below {w w':World} (h:Bb w) (hb:Below w.heap.size w w'):Bb w':=
 ⟨h.init.below hb h.ilt,h.kons.below hb h.klt,⟨(hb.cell (p:=⟨0,0,none⟩) h.plt).trans h.pads.1,(hb.cell (p:=⟨0,1,none⟩) h.plt).trans h.pads.2⟩,aO h.ilt hb.size,aO h.klt hb.size,aO h.plt hb.size⟩
theorem yE (mb:Nat) (key data xs:List UInt8) (xv:Value) (w:World) (h:uL w mb key data) (hx:bD (· ≠mb) w xv xs) (hlen:64+data.length+xs.length<1152921504606846976) (hE:Bb w) (hne:mb≠5):
  Calls Tryz.prog 147 #[.pointer (some ⟨mb,0,none⟩),xv] w fun e w'=>e= .returned (.tuple #[])/\uL w' mb key (data++xs)/\w.grownBy w' (some mb):=by
 have HH:=ah h;have HX:=ah hx;have HE:=ah hE;clear h hx hE
 go_enter Tryz.func147,Tryz.ntmps147
 go_wp2_with fail;refine(lV mb 225 _ _ xs xv w HH.o HX.o (by rw[ag]; unfold gz; rw[aw,ju]; omega) HE.o.kons HE.o.klt hne).mono ?_;rintro e w1 ⟨rfl,h1,h2⟩;have H1:=ah h1;have H2:=ah h2;clear h1 h2;go_wp2_with fail
 go_end0
 refine⟨rfl, ?_,H2.o⟩;unfold uL;rw[<-bp];exact H1.o
theorem Qs (k d:List UInt8):yX k d=qk (nn [⟨(gz (iV k) 92).toArray⟩,⟨(qk (gz (iV k) 54++d)).toArray⟩]):=by
 unfold nn yX;rw[bm,bm,List.flatMap_nil,ci,iX,iX]
 rfl
theorem Kg {w:World} {mb:Nat} {key data:List UInt8} (h:uL w mb key data): ∃C:List Value,w.heap[mb]? =some (.cells C.toArray 225 (0,0))/\ ∀w',w'.heap[mb]? =some (.cells C.toArray 225 (0,0))->bD (fun _=>True) w' (.slice (some ⟨mb,73,none⟩) 64 64) (gz (iV key) 92):=by
 obtain⟨buf,h1,h2,h3⟩:=h;refine⟨_,h3,fun w' hw=> ?_⟩;have hl:(gz (iV key) 92).length=64:=by unfold gz; rw[aw,ju]
 refine⟨by simp,_,_,by rw[hl],by omega,by unfold maxLen; omega, .inr ⟨mb,73,rfl,trivial,fun j x hj=> ?_⟩⟩;rw[br w' _ _ _ _ _ hw,aC,bC (by rw[mL _ h1]; omega),mL _ h1,show 73+j-73=j by omega];exact hj
theorem Dg (mb:Nat) (key data:List UInt8) (w:World) (h:uL w mb key data) (hlen:64+data.length<288230376151711744) (hE:Bb w):
  Calls Tryz.prog 148 #[.pointer (some ⟨mb,0,none⟩)] w fun e w'=>e= .returned (.string ⟨(yX key data).toArray⟩)/\Below w.heap.size w w':=by
 obtain⟨C,hC,hd⟩:=Kg h;have HH:=ah h;have HE:=ah hE;have HC:=ah hC;have hh:=ah hd;have hH:=am hC;clear h hE hC hd
 go_enter Tryz.func148,Tryz.ntmps148
 go_wp2_with fail;refine fd (fun w'=>w'.heap[mb]? =some (.cells C.toArray 225 (0,0))) (by kernel_rfl) ?_;obtain⟨V,hV⟩:=bI w.drew;rw[<-hV];have hg:=ah (show Below w.heap.size w V by rw[hV]; exact(ak _ _).drew);have ha:V.heap[mb]? =some (.cells C.toArray 225 (0,0)):=by rw[hV]; exact HC.o
 have hF:=ah (show oC V mb 225 ((gz (iV key) 92).map aY) (gz (iV key) 54++data) by rw[hV]; exact HH.o);clear hV
 iterate 5 (refine cI rfl ha (by intro w' hu; go_simp; rfl) ?_; simp only[bN])
 have hA: ∀w':World,w'.heap[mb]? =some (.cells C.toArray 225 (0,0))->(convert 29 9 (.slice (some ⟨mb,73,none⟩) 64 64)).run Tryz.prog w'= .ok (.string ⟨(gz (iV key) 92).toArray⟩) w':=fun w' hw=>Ml (hh.o w' hw)
 refine cI rfl ha (by intro w' hu; have hG:=hA w' hu; go_simp; rfl) ?_;simp only[bN];clear hA
 iterate 4 (refine cI rfl ha (by intro w' hu; go_simp; rfl) ?_; simp only[bN])
 refine cC 10 rfl (fun K hK=> ?_);go_wp2_with fail;refine(xX mb 225 _ _ V hF.o (by rw[ag]; unfold gz; rw[aw,ju]; omega) (HE.o.below hg.o).kons (HE.o.below hg.o).klt).mono ?_;rintro e w1 ⟨rfl,hn⟩;have hB:=ah (aj hg.o hn);have hl:w1.heap[mb]? =some (.cells C.toArray 225 (0,0)):=er hn ha;clear hn ha;go_wp2_with fail
 refine⟨hl, ?_⟩;refine cC 11 rfl (fun K hK=> ?_);obtain⟨so,hr⟩: ∃so:ByteArray,so=⟨(gz (iV key) 92).toArray⟩:=⟨_,rfl⟩;obtain⟨si,hq⟩: ∃si:ByteArray,si=⟨(qk (gz (iV key) 54++data)).toArray⟩:=⟨_,rfl⟩;have hy:=ah hr;have hx:=ah hq;rw[<-hr,<-hq];clear hr hq;go_wp2_with fail;obtain⟨w2,hf⟩:=bI (w1.alloc (.cells #[.string so, .string si] 9))
 rw[<-hf];have ho:Below w1.heap.size w1 w2:=by rw[hf]; exact eW
 have hv:=ah (aj hB.o ho);have hm:w2.heap[mb]? =some (.cells C.toArray 225 (0,0)):=er ho hl;have hk:=ah (show lP (fun _=>True) w2 (.slice (some ⟨w1.heap.size,0,none⟩) 2 2) [so,si]from⟨by simp,_,_,rfl,by simp,by unfold maxLen; omega, .inr ⟨_,_,rfl,trivial,fun j x hj=>by rw[hf,br _ _ _ _ _ _ (aG w1 _),bT]; simpa using hj⟩⟩)
 clear hf ho hl;refine⟨hm, ?_⟩;refine cC 12 rfl (fun K hK=> ?_);go_wp2_with fail;have he:=HE.o.below hv.o;have hc:so.size=64:=by rw[hy.o,bi,iX]; unfold gz; rw[aw,ju]
 have hb:si.size=32:=by rw[hx.o,bi,iX,tR]
 refine(Er (fun _=>True) [so,si] _ w2 hk.o (fun s hs=>by
  simp only[aT,dz,or_false]at hs;unfold maxLen
  rcases hs with rfl | rfl<;> omega) (by simp) (by unfold nn; rw[bm,bm,List.flatMap_nil,ci,ag,<-bi,<-bi,hc,hb]; decide) he.init he.kons he.klt).mono ?_
 rintro e w3 ⟨rfl,hp⟩;have hD:=ah (aj hv.o hp);have hz:w3.heap[mb]? =some (.cells C.toArray 225 (0,0)):=er hp hm;rw[hy.o,hx.o,<-Qs];clear hp hm he hc hb;go_wp2_with fail;refine⟨hz, ?_⟩;refine cC 13 rfl (fun K hK=> ?_);go_wp2_with fail;refine⟨hz, ?_⟩;refine cL (by kernel_rfl) ?_;go_wp2_with fail;go_ret;exact⟨rfl,hD.o⟩
theorem uZ (S:Nat->Prop) (key:ByteArray) (xs:List UInt8) (xv:Value) (w:World) (hk:key.size<=64) (hx:bD S w xv xs) (hlen:xs.length<281474976710656) (hE:Bb w):
  Calls Tryz.prog 116 #[.string key,xv] w fun e w'=>e= .returned (.string ⟨(yX (bl key) xs).toArray⟩)/\Below w.heap.size w w':=by
 have HX:=ah hx;have HE:=ah hE;clear hx hE
 go_enter Tryz.func116,Tryz.ntmps116
 go_wp2_with fail;refine(Df key w hk HE.o.init HE.o.kons HE.o.pads HE.o.klt HE.o.plt HE.o.ilt).mono ?_;rintro e w1 ⟨mb,rfl,hh,hm,hb⟩;have HM:=ah hm;have HB:=ah hb;clear hm hb;go_wp2_with fail;refine(yE mb (bl key) [] xs xv w1 HM.o ?_ (by simp; omega) (HE.o.below HB.o) (by have:=HE.o.klt; omega)).mono ?_
 ·have h2:=cD.mono (T:=fun k=>k≠mb) HX.o (fun k hk _=>by show k≠mb; omega) (by omega);exact cD.below h2 (by omega) HB.o
 ·rintro e w2 ⟨rfl,ha,he⟩;rw[aI]at ha;have hg:=ah ha;have hc:=ah (HB.o.grown he HB.o.size (fun k hk=>by cases hk; omega));clear ha he;go_wp2_with fail;refine(Dg mb (bl key) xs w2 hg.o (by omega) (HE.o.below hc.o)).mono ?_;rintro e w3 ⟨rfl,hd⟩;have hf:=ah (aj hc.o hd);clear hd;go_wp2_with fail;go_ret;exact⟨rfl,hf.o⟩
end
section
open Go.RowKit
def jW :Nat->Nat->List UInt8
 | 0,n=>[UInt8.ofNat n]
 | f+1,n=>if 127<n then UInt8.ofNat (n%128+128)::jW f (n/128)else [UInt8.ofNat n]
def bE (n:Nat):List UInt8:=jW 10 n
theorem DR : ∀(f n:Nat),(jW f n).length<=f+1
 | 0,_=>by simp[jW]
 | f+1,n=>by
  rw[jW]
  split
  ·have:=DR f (n/128); simp; omega
  ·simp
theorem dD (n:Nat):(bE n).length<=11:=DR 10 n
def LD (bs:List UInt8) (w:World) (e:Ending) (w':World):Prop:= ∃v,e= .returned v/\bD (w.heap.size<= ·) w' v bs/\Below w.heap.size w w'
theorem mu {n:Nat} (h:n<256):aY (UInt8.ofNat n)= .int .u8 (n:Int):=by unfold aY; rw[ef (by exact h)]
theorem pp (b:UInt8): ∀u∈[aY b],u.oneCell'=true:=by simp[aY,Value.oneCell']
theorem mK (n:Nat) (w:World) (hn:n<18446744073709551616):Calls Tryz.prog 103 #[.int .u64 (n:Int)] w (LD (bE n) w):=by
 have HO:=ah (dp (e:=5) (size:=1) (base:=w.heap.size) w #[] 0 (ai _) (aU _) (by simp));have HB:=ah ((ak w.heap.size w).alloc (ai _) (.cells #[] 5))
 go_enter Tryz.func103,Tryz.ntmps103
 go_wp2_with fail
 go_loopw [0,3] (fun x o wr=> ∃(f m:Nat) (acc:List UInt8),x= .int .u64 (m:Int)/\m<18446744073709551616/\m<2^(7*f)/\acc++jW f m=bE n/\wr.ownsRow w.heap.size 5 1 o acc.length (acc.map aY)/\acc.length<=20/\Below w.heap.size w wr) (fun x _ _=>(intOf x).toNat)
 ·exact⟨10,n,[],rfl,hn,jg hn (by decide),rfl,HO.o,by simp,HB.o⟩
 ·obtain⟨f,m,acc,rfl,hm,hs,he,hd,hw,hb⟩:=hrel;have HE:=ah he;have hf:=ah hd;have hq:=ah hb;have hr:=ah hs;have hg:=hb.size;obtain⟨ao,co,rfl,h1,h2⟩:=aH hd;clear he hd hb hs HO HB
  by_cases hp:127<m
  ·have hv:Value.int .u8 ((m:Int)%128+128)=aY (UInt8.ofNat (m%128+128)):=by rw[mu (by omega)]; simp
   have HV:=ah hv;obtain⟨f,rfl⟩: ∃g,f=g+1:=⟨f-1,by
    cases f with
    | zero=>have:=hr.o; simp at this; omega
    | succ g=>rfl⟩
   have hj:=ah (show(acc++[UInt8.ofNat (m%128+128)])++jW f (m/128)=bE n by rw[<-HE.o,jW,if_pos hp]; simp);have hl:=ah (show m/128<2^(7*f) by have h3:=hr.o;rw[show 7*(f+1)=7*f+7 by omega,gp]at h3;exact fg (by omega))
   have hu:acc.length<=10:=by have h4:=dD n;rw[<-HE.o,ag,jW,if_pos hp,az]at h4;omega
   clear hv;go_wp2_with (at_builtin; go_must (refine iS Tryz.appBytes rfl _ _ rfl w.heap.size (.slice ao acc.length co) acc.length (acc.map aY) rfl wr [.int .u8 ((m:Int)%128+128)] _ rfl rfl (by rw[HV.o]; exact pp _) hf.o (by omega) hg ?_); intro v' wc hc ha _; have hh:=ah (bZ hq.o hf.o ha (ai _) hg); have ho:=ah (show wc.ownsRow w.heap.size 5 1 v' (acc++[UInt8.ofNat (m%128+128)]).length ((acc++[UInt8.ofNat (m%128+128)]).map aY) by rw[ag,aL,bW,fm,<-HV.o]; exact hc); obtain⟨ae,ce,rfl,-,-⟩:=aH hc; clear hc ha)
   go_roundw
   ·exact⟨f,m/128,acc++[UInt8.ofNat (m%128+128)],by simp,by omega,hl.o,hj.o,ho.o,by simp; omega,hh.o⟩
   simp[intOf]; omega
  ·have hv:Value.int .u8 (m:Int)=aY (UInt8.ofNat m):=by rw[mu (by omega)]
   have HV:=ah hv;have hj:=ah (show acc++[UInt8.ofNat m]=bE n by
    rw[<-HE.o]
    cases f with
    | zero=>rfl
    | succ f=>rw[jW,if_neg hp])
   clear hv;go_wp2_with (at_builtin; go_must (refine iS Tryz.appBytes rfl _ _ rfl w.heap.size (.slice ao acc.length co) acc.length (acc.map aY) rfl wr [.int .u8 (m:Int)] _ rfl rfl (by rw[HV.o]; exact pp _) hf.o (by omega) hg ?_); intro v' wc hc ha _; have hh:=ah (bZ hq.o hf.o ha (ai _) hg); have ho:=ah (show wc.ownsRow w.heap.size 5 1 v' (acc++[UInt8.ofNat m]).length ((acc++[UInt8.ofNat m]).map aY) by rw[ag,aL,bW,fm,<-HV.o]; exact hc); obtain⟨ae,ce,rfl,-,-⟩:=aH hc; clear hc ha)
   go_ret;rw[<-hj.o];exact⟨_,rfl,(cJ ho.o).weak (fun k hk=>hk.1),hh.o⟩
def lu :List UInt8->Nat
 | []=>0
 | b::l=>b.toNat%128+128*lu l
def uI (l:List UInt8):Nat:=lu l%18446744073709551616
def yO (data:List UInt8) (off:Nat):Nat->Nat->Except Int (Nat×Nat)
 | 0,_=> .error 3
 | f+1,k=>match data[off+k]? with
  | none=> .error 3
  | some b=>if 128<=b.toNat then yO data off f (k+1)
   else if bE (uI ((data.drop off).take (k+1)))=(data.drop off).take (k+1)then .ok (uI ((data.drop off).take (k+1)),off+k+1)else .error 3
theorem BW : ∀l:List UInt8,lu l<2^(7*l.length)
 | []=>by simp[lu]
 | b::l=>by have:=BW l;rw[lu,az,show 7*(l.length+1)=7*l.length+7 by omega,gp];omega
theorem uH : ∀(l:List UInt8) (b:UInt8),lu (l++[b])=lu l+b.toNat%128*2^(7*l.length)
 | [],b=>by simp[lu]
 | c::l,b=>by
  rw[aK,lu,uH l b,lu,az,show 7*(l.length+1)=7*l.length+7 by omega,gp,Nat.mul_add];have:128*(b.toNat%128*2^(7*l.length))=b.toNat%128*(2^(7*l.length)*2^7):=by rw[Nat.mul_left_comm,Nat.mul_comm 128]
  omega
theorem yo : ∀(f n:Nat),n<2^(7*(f+1))->lu (jW f n)=n
 | 0,n,h=>by have h1:n<128:=h;rw[jW,lu,lu,ef (by show n<256; omega)]; omega
 | f+1,n,h=>by
  rw[jW]
  split
  ·rw[lu,yo f (n/128) (by rw[show 7*(f+1+1)=7*(f+1)+7 by omega,gp]at h;exact fg (by omega)),ef (by show _<256; omega)]
   omega
  ·rw[lu,lu,ef (by show n<256; omega)]; omega
theorem Dy : ∀(f n:Nat) (c:UInt8) (l:List UInt8),0<n->n<2^(7*(f+1))->jW f n=l++[c]->c.toNat≠0
 | 0,n,c,l,h0,h,he=>by
  have h1:n<128:=h;rw[jW]at he;have:c=UInt8.ofNat n:=by
   have:=congrArg List.getLast? he
   simpa using this.symm
  rw[this,ef (by show n<256; omega)]; omega
 | f+1,n,c,l,h0,h,he=>by
  rw[jW]at he
  split at he
  ·cases l with
   | nil=>
    simp only[aI,gL]at he;have:=congrArg List.length he.2;have h3:(jW f (n/128)).length≠0:=by cases f<;> (rw[jW]; try split)<;> simp
    simp at this; exact absurd (by simp[this]) h3
   | cons d l=>
    simp only[aK,gL]at he;exact Dy f (n/128) c l (by omega) (by rw[show 7*(f+1+1)=7*(f+1)+7 by omega,gp]at h;exact fg (by omega)) he.2
  ·have:c=UInt8.ofNat n:=by
    have:=congrArg List.getLast? he
    simpa using this.symm
   rw[this,ef (by show n<256; omega)]; omega
theorem II : ∀(f:Nat) (l:List UInt8) (c:UInt8),(∀b∈l,128<=b.toNat)->c.toNat<128->(l≠[]->c.toNat≠0)->l.length<=f->jW f (lu (l++[c]))=l++[c]
 | f,[],c,_,h2,_,_=>by
  have hv:lu ([]++[c])=c.toNat:=by simp[lu]; omega
  rw[hv];have hc:UInt8.ofNat c.toNat=c:=UInt8.ofNat_toNat
  cases f with
  | zero=>rw[jW,hc]; rfl
  | succ f=>rw[jW,if_neg (by omega),hc]; rfl
 | 0,b::l,c,_,_,_,h4=>by simp at h4
 | f+1,b::l,c,h1,h2,h3,h4=>by
  have hb:=h1 b (by simp);have ha:=b.toNat_lt;have hr:=II f l c (fun x hx=>h1 x (by simp[hx])) h2 (fun _=>h3 (by simp)) (by simpa using h4);have hp:0<lu (l++[c]):=by rw[uH];have hc:=h3 (by simp);have:0<c.toNat%128*2^(7*l.length):=Nat.mul_pos (by omega) (Nat.two_pow_pos _);omega
  rw[aK,jW,lu,if_pos (by omega),show(b.toNat%128+128*lu (l++[c]))/128=lu (l++[c]) by omega,hr,
   show(b.toNat%128+128*lu (l++[c]))%128+128=b.toNat by omega,UInt8.ofNat_toNat]
theorem Ni (m x k:Nat) (h:m<2^k):m ||| (x*2^k)=m+x*2^k:=by rw[Nat.or_comm,Nat.mul_comm,<-Nat.two_pow_add_eq_or_of_lt h,lZ]
theorem Nf (m:Nat) (b:UInt8) (k:Nat) (hk:k<=9) (h:m<2^(7*k)):yN m b k=(m+b.toNat%128*2^(7*k))%18446744073709551616:=by
 unfold yN;have hb:b.toNat%128<128:=by omega
 generalize b.toNat%128=x at hb
 by_cases h9:k=9
 ·subst h9;have e:x*2^(7*9)%18446744073709551616=x%2*2^(7*9):=by simp only[Nat.reduceMul,Nat.reducePow]; omega
  rw[e,Ni _ _ _ h];simp only[Nat.reduceMul,Nat.reducePow]at *;omega
 ·have hp:2^(7*k)*128<=18446744073709551616:=by rw[show(128:Nat)=2^7 from rfl,show(18446744073709551616:Nat)=2^64 from rfl,<-gp];exact gM (by omega) (by omega)
  have hx:x*2^(7*k)+2^(7*k)<=2^(7*k)*128:=by rw[Nat.mul_comm (2^(7*k)),<-Nat.succ_mul]; exact dh _ (by omega)
  rw[eH (by omega),Ni _ _ _ h,eH (by omega)]
theorem DU (data:List UInt8) (off:Nat): ∀(f k:Nat),k+f=10->(∀b∈(data.drop off).take k,128<=b.toNat)->off+k<=data.length->
  oX data f k (off+k) (lu ((data.drop off).take k))=yO data off f k
 | 0,_,_,_,_=>rfl
 | f+1,k,hk,hp,hle=>by
  rw[oX,yO]
  cases hd:data[off+k]? with
  | none=>rfl
  | some b=>
   have hb8:=b.toNat_lt;have hlt:off+k<data.length:=(aD.1 hd).1;have hlen:((data.drop off).take k).length=k:=by simp; omega
   have hh:(data.drop off).take (k+1)=(data.drop off).take k++[b]:=by rw[bY,fG,hd]; rfl
   have hm:=BW ((data.drop off).take k);rw[hlen]at hm;have hs:=uH ((data.drop off).take k) b;rw[hlen,<-hh]at hs;have hn:=Nf _ b k (by omega) hm;rw[<-hs]at hn;simp only
   by_cases ha:128<=b.toNat
   ·rw[if_pos ha,if_pos ha]
    by_cases hf:f=0
    ·subst hf; rfl
    ·have hl:lu ((data.drop off).take (k+1))<18446744073709551616:=by have:=BW ((data.drop off).take (k+1));refine aO this ?_;rw[show(18446744073709551616:Nat)=2^64 from rfl];exact gM (by omega) (by simp; omega)
     rw[hn,eH hl];have:=DU data off f (k+1) (by omega) (by
      intro x hx;rw[hh,aN]at hx
      rcases hx with hx | hx
      ·exact hp x hx
      ·simp at hx; subst hx; exact ha) (by omega)
     exact this
   ·rw[if_neg ha,if_neg ha,hn];have hg:uI ((data.drop off).take (k+1))=lu ((data.drop off).take (k+1))%18446744073709551616:=rfl;have hr:uI ((data.drop off).take (k+1))<2^(7*(10+1)):=by rw[hg]; exact jg (cX _ (by decide)) (by decide)
    by_cases hb:oW b k=true
    ·rw[if_pos hb,if_neg];intro he;have h1:=yo 10 _ hr;rw[show jW 10 _=_ from he]at h1;simp only[oW,gK,aF,aJ]at hb
     rcases hb with⟨h2,h3⟩ | ⟨h2,h3⟩
     ·have ho:0<lu ((data.drop off).take (k+1))%18446744073709551616:=by
       rcases eC (lu ((data.drop off).take (k+1))%18446744073709551616)with h0 | h0
       ·exfalso
        rw[hg,h0]at he;have:=congrArg List.length he;simp[bE,jW]at this;omega
       ·exact h0
      exact Dy 10 _ b ((data.drop off).take k) (by rw[hg]; exact ho) hr (by rw[<-hh]; exact he) h3
     ·subst h2;rw[hs]at h1;have h5:uI ((data.drop off).take (9+1))<18446744073709551616:=by rw[hg]; exact cX _ (by decide)
      rw[<-h1]at h5;simp only[Nat.reduceMul,Nat.reducePow]at h5;omega
    ·rw[if_neg hb];have hc:oW b k=false:=by simpa using hb
     simp only[oW,fQ,Bool.and_eq_false_iff,eo]at hc;have hq:lu ((data.drop off).take (k+1))<18446744073709551616:=by
      rw[hs]
      by_cases h9:k=9
      ·subst h9;have: ¬1<b.toNat:=hc.2.elim (fun h=>absurd rfl h) id;simp only[Nat.reduceMul,Nat.reducePow]at hm ⊢;omega
      ·have hp:2^(7*k)*128<=18446744073709551616:=by rw[show(128:Nat)=2^7 from rfl,show(18446744073709551616:Nat)=2^64 from rfl,<-gp];exact gM (by omega) (by omega)
       have hx:b.toNat%128*2^(7*k)+2^(7*k)<=2^(7*k)*128:=by rw[Nat.mul_comm (2^(7*k)),<-Nat.succ_mul]; exact dh _ (by omega)
       omega
     have hu:uI ((data.drop off).take (k+1))=lu ((data.drop off).take (k+1)):=by rw[hg,eH hq]
     have hj:bE (uI ((data.drop off).take (k+1)))=(data.drop off).take (k+1):=by
      rw[hu,hh];refine II 10 _ b hp (by omega) ?_ (by omega);intro hv;have:0<k:=by
       rcases eC k with h0 | h0
       ·subst h0; simp at hv
       ·exact h0
      rcases hc.1 with h | h
      ·exact absurd this h
      ·exact h
     rw[if_pos hj,eH hq,hu]
theorem Nc (data:List UInt8) (off:Nat) (h:off<=data.length):oB data off=yO data off 10 0:=by
 have:=DU data off 10 0 rfl (by simp) (by omega)
 simpa [lu,oB]using this
theorem Mf {S:Nat->Prop} {w w':World} {a:Option Addr} {n cap:Nat} {l:List UInt8} (hv:bD S w (.slice a n cap) l) (hb:Below w.heap.size w w') {k:Nat} {x:UInt8} (hx:l[k]? =some x): ∃b o,a=some ⟨b,o,none⟩/\w'.cell? ⟨b,o+k,none⟩=some (.int .u8 (x.toNat:Int)):=by
 obtain⟨hl,a',cap',ha,_,_,h0⟩:=hv
 cases ha
 rcases h0 with h0 | ⟨b,o,rfl,_,hc⟩
 ·simp[List.eq_nil_of_length_eq_zero h0]at hx
 ·have h1:=hc k (aY x) (by simp[hx]);exact⟨b,o,rfl,(hb.cell (bP h1)).trans h1⟩
theorem Ph {data:List UInt8} {off f k:Nat} {b:UInt8} (h:data[off+k]? =some b) (h1: ¬128<=b.toNat) (h2:bE (uI ((data.drop off).take (k+1)))=(data.drop off).take (k+1)):yO data off (f+1) k= .ok (uI ((data.drop off).take (k+1)),off+(k+1)):=by rw[yO,h]; simp only[if_neg h1,if_pos h2]; rfl
theorem Kv {data:List UInt8} {off f k:Nat} {b:UInt8} (h:data[off+k]? =some b) (h1:128<=b.toNat):yO data off (f+1) k=yO data off f (k+1):=by rw[yO,h]; simp only[if_pos h1]
structure jQ where
 kind:Int
 u:Nat
 n:Int
 b:Bool
 s:ByteArray
 most:Int
def sP (x:jQ):List Value:=[.int .i64 x.kind, .int .u64 (x.u:Int), .int .i64 x.n, .bool x.b, .string x.s, .int .i64 x.most]
structure yz (x : jQ) : Prop where
 u:x.u<18446744073709551616
 n: -9223372036854775808<=x.n/\x.n<=9223372036854775807
 s:x.s.size<=65536
 k:x.kind≠2
def OC (c:List Value) (x:jQ):Prop:=c=sP x/\yz x
theorem OC.len (c:List Value) (x:jQ) (h:OC c x):c.length=6:=by rw[h.1]; rfl
def zh (S:Nat->Prop) (w:World) (v:Value) (l:List jQ):Prop:=cN S w 6 OC v l
theorem Qq {S:Nat->Prop} {w w':World} {a:Option Addr} {n cap:Nat} {l:List jQ} (hv:zh S w (.slice a n cap) l) (hb:Below w.heap.size w w') {k:Nat} {x:jQ} (hr:l[k]? =some x):
  ∃b o,a=some ⟨b,o,none⟩/\yz x/\ ∀j,j<6->w'.cell? ⟨b,o+k*6+j,none⟩=(sP x)[j]? :=by
 obtain⟨a',cap',he,_,_,hx⟩:=cN.shape hv OC.len
 cases he
 obtain⟨b,o,c,rfl,hS,⟨rfl,hd⟩,_,ha⟩:=hx k x hr;have q0:=ha 0 (by omega);have hc:b<w.heap.size:=bP (a:=⟨b,o+(k*6+0),none⟩) (v:= .int .i64 x.kind) q0;refine⟨b,o,rfl,hd,fun j hj=> ?_⟩;rw[dk];exact(hb.cell (p:=⟨b,o+(k*6+j),none⟩) hc).trans (ha j hj)
def lL (x:jQ):Except Int (List UInt8):=
 if x.kind=1 then .ok (bE x.u)
 else if x.kind=3 then .ok [if x.b then 1 else 0]
 else if x.kind=4\/x.kind=5 then .ok (bE x.s.size++bl x.s)
 else if x.kind=6 then(if x.s.size=32 then .ok (bl x.s)else .error 1)
 else if x.kind=7 then(if x.n<0 then .error 1 else .ok (bE x.n.toNat))
 else .ok []
def fD :List jQ->Except Int (List UInt8)
 | []=> .ok []
 | x::l=>match lL x with
  | .error e=> .error e
  | .ok a=>match fD l with
   | .error e=> .error e
   | .ok b=> .ok (a++b)
theorem sB {x:jQ} {e:Int} : ∀ {l:List jQ} {k:Nat} {a:List UInt8},fD (l.take k)= .ok a->l[k]? =some x->lL x= .error e->fD l= .error e
 | [],k,a,_,h2,_=>by simp at h2
 | y::l,0,a,_,h2,h3=>by simp at h2; subst h2;simp only[fD,h3]
 | y::l,k+1,a,h1,h2,h3=>by
  rw[aR,fD]at h1
  cases hy:lL y with
  | error e=>rw[hy]at h1; simp at h1
  | ok b=>
   rw[hy]at h1;simp only at h1
   cases hk:fD (l.take k)with
   | error e=>rw[hk]at h1; simp at h1
   | ok c=>
    have:=sB hk (by simpa using h2) h3;simp only[fD,hy,this]
theorem jt {x:jQ} {b:List UInt8} : ∀ {l:List jQ} {a:List UInt8},fD l= .ok a->lL x= .ok b->fD (l++[x])= .ok (a++b)
 | [],a,h1,h2=>by simp only[fD,dr]at h1;subst h1;simp[fD,h2]
 | y::l,a,h1,h2=>by
  rw[fD]at h1
  cases hy:lL y with
  | error e=>rw[hy]at h1; simp at h1
  | ok c=>
   rw[hy]at h1;simp only at h1
   cases hk:fD l with
   | error e=>rw[hk]at h1; simp at h1
   | ok d=>
    rw[hk]at h1;simp only[dr]at h1;subst h1;simp only[aK,fD,hy,jt hk h2,bp]
def yD (l:List jQ):Except Int (List UInt8):=match fD l with
 | .error e=> .error e
 | .ok out=>if 1048576<out.length then .error 2 else .ok out
def PO (res:Except Int (List UInt8)) (w:World) (e:Ending) (w':World):Prop:=Below w.heap.size w w'/\match res with
 | .error x=>e= .returned (.tuple #[.slice none 0 0, .int .i64 x])/\x≠0
 | .ok bs=> ∃v,e= .returned (.tuple #[v, .int .i64 0])/\bD (w.heap.size<= ·) w' v bs
def ER (res:Except Int (List UInt8)) (w:World) (e:Ending) (w':World):Prop:=Below w.heap.size w w'/\match res with
 | .error x=>e= .returned (.tuple #[.slice none 0 0, .int .i64 x])/\x≠0
 | .ok bs=> ∃v,e= .returned (.tuple #[v, .int .i64 0])/\w'.ownsRow w.heap.size 5 1 v bs.length (bs.map aY)
theorem ER.res {res:Except Int (List UInt8)} {w w':World} {e:Ending} (h:ER res w e w'):PO res w e w':=by
 refine⟨h.1, ?_⟩;have h2:=h.2
 cases res with
 | error x=>exact h2
 | ok bs=>
  obtain⟨v,h3,h4⟩:=h2;exact⟨v,h3,(cJ h4).weak (fun k hk=>hk.1)⟩
theorem Ey (s:ByteArray):Lib.strCells s=(bl s).map aY:=rfl
theorem lw {ops:Array Oper} {rest:List Oper} {o:Oper} {a:Act} {Q:Exit->Act->World->Prop} {w:World} (hgd:o.guard=none) (sl x:Operand)
  (ho:o.op= .call {callee:= .builtin .append,args:= #[sl,x],argTypes:= #[29,9]}) (base:Nat) (v:Value) (acc:List UInt8) (hs:a.eval sl=v) (hown:w.ownsRow base 5 1 v acc.length (acc.map aY)) (s:ByteArray) (hx:a.eval x= .string s)
  (hn:acc.length+s.size<1099511627775) (hbase:base<=w.heap.size)
  (h: ∀v' w',w'.ownsRow base 5 1 v' (acc.length+s.size) (acc.map aY++(bl s).map aY)->w.grownBy w' v.ownBlock->wpList Tryz.prog ops Q rest (a.put o.dst v') w'):wpList Tryz.prog ops Q (o::rest) a w:=by
 obtain⟨ht,⟨i,z,ha,he,hb,hc,hf⟩,hd,hg⟩:=Tryz.appBytes;have hz:i.zero=some (.int .u8 0):=by
  have:(Tryz.prog.info? 5).map (fun i=>i.zero)=some (some (.int .u8 0)):=by kernel_rfl
  rw[ha]at this;exact bK this
 refine Lib.wpList_append_own_string w hgd sl x 29 9 ho base 5 i ht ee ha hz hb hc v acc.length _ hs hown s hx (by unfold maxLen; omega) (by omega) hbase fun v' w' h1 h2 _=>h v' w' ?_ h2
 rw[<-Ey];exact h1
theorem sO {w:World} {base:Nat} {e:TypeId} {sz:Nat} {v:Value} {n:Nat} {xs:List Value} {k:Nat} (h:w.ownsRow base e sz v n xs) (hk:v.ownBlock=some k): ∃cs,w.heap[k]? =some (.cells cs e (0,0)):=by
 obtain⟨_,h2⟩:=h
 rcases h2 with⟨rfl,rfl⟩ | ⟨g,cap,cur,rfl,_,hh,_⟩
 ·cases hk
 ·have:g=k:=by simpa [Value.ownBlock]using hk
  subst this;exact⟨cur,hh⟩
theorem Fo (S:Nat->Prop) (v:Value) (l:List jQ) (w:World) (hv:zh S w v l) (hlen:l.length<=1000000):Calls Tryz.prog 57 #[v] w (ER (yD l) w):=by
 obtain⟨a,cap,rfl,hc,hm,-⟩:=cN.shape hv OC.len;unfold maxLen at hm;have HV:=ah hv;have Hc:=ah (dp (e:=5) (size:=1) (base:=w.heap.size) w #[] 0 (ai _) (aU _) (by simp));have Ha:=ah ((ak w.heap.size w).alloc (ai _) (.cells #[] 5));clear hv
 go_enter Tryz.func57,Tryz.ntmps57
 go_wp2_with fail
 go_loopw [4,5] (fun o i wr=> ∃(k:Nat) (acc:List UInt8),k<=l.length/\i= .int .i64 k/\fD (l.take k)= .ok acc/\wr.ownsRow w.heap.size 5 1 o acc.length (acc.map aY)/\acc.length<=k*65556/\Below w.heap.size w wr) (fun _ i _=>l.length-(intOf i).toNat)
 ·exact⟨0,[],aU _,rfl,rfl,Hc.o,by simp,Ha.o⟩
 ·obtain⟨k,acc,hk,rfl,hT,hN,Hh,hb⟩:=hrel;have HE:=ah hT;have HO:=ah hN;have HB:=ah hb;obtain⟨ao,co,rfl,Hm,Hn⟩:=aH hN;clear hT hN hb Hc Ha
  by_cases Hi:k<l.length
  ·obtain⟨x,hx⟩: ∃x,l[k]? =some x:=⟨l[k],by simp[Hi]⟩;obtain⟨b0,o,rfl,hV,hJ⟩:=Qq HV.o HB.o hx;have HG:=ah hx;have hE:=ah (dZ hx);have Hl:=hV.u;have Hk:=hV.s;have hY:=hV.k;obtain⟨h8,h9⟩:=hV.n;have q0:=hJ 0 (by omega);have q1:=hJ 1 (by omega);have q2:=hJ 2 (by omega);have q3:=hJ 3 (by omega);have q4:=hJ 4 (by omega);have q5:=hJ 5 (by omega)
   simp only[sP,aB,cQ,cZ]at q0 q1 q2 q3 q4 q5;obtain⟨kd,u,n,b,s,mo⟩:=x;simp only at Hl Hk hY h8 h9 q0 q1 q2 q3 q4 q5;clear hx hJ hV;have hP:=ah ((ak wr.heap.size wr).alloc (ai _) (.cells #[.int .i64 kd, .int .u64 (u:Int), .int .i64 n, .bool b, .string s, .int .i64 mo] 96));have hr:=ah (jH HO.o hP.o)
   have hn:=ah (aj HB.o hP.o)
   by_cases h1:kd=1
   ·subst h1;have HX:=ah (show lL ⟨1,u,n,b,s,mo⟩= .ok (bE u)from rfl);have hl:=ah (show acc.length+(bE u).length<=(k+1)*65556 by have:=dD u; omega);have Hf:=dD u;go_wp2_with fail;refine(mK u _ (by omega)).mono ?_;rintro e w1 ⟨nv,rfl,hB,hh⟩;have hH:=ah hB;have hs:=ah (aj hn.o hh);have hy:=ah (jH hr.o hh)
    have he:=hs.o.size;obtain⟨_,na,nc,rfl,hL,hM,-⟩:=hB;clear hh q0 q1 q2 q3 q4 q5;go_wp2_with (at_builtin; go_must (refine ew Tryz.appBytes rfl _ _ rfl w.heap.size (.slice ao acc.length co) acc.length (acc.map aY) rfl hy.o _ (bE u).length ((bE u).map aY) rfl hH.o (fy _) (by omega) he ?_); intro v' wc hd ha; have hg:=ah hd; have ho:=ah (bZ hs.o hy.o ha (ai _) he); obtain⟨ae,ce,rfl,-,-⟩:=aH hd; clear hd ha)
    go_roundw
    ·exact⟨k+1,acc++(bE u),by omega,by go_num,by rw[hE.o]; exact jt HE.o HX.o,by rw[ag,aL]; exact hg.o,by rw[ag]; exact hl.o,ho.o⟩
    simp[intOf]; omega
   ·by_cases h3:kd=3
    ·subst h3;have he:=hn.o.size
     cases b
     ·have HX:=ah (show lL ⟨3,u,n,false,s,mo⟩= .ok [0]from rfl);have hl:=ah (show acc.length+([0]:List UInt8).length<=(k+1)*65556 by simp; omega);obtain⟨W,hW⟩:=bI (wr.alloc (.cells #[.int .i64 3, .int .u64 (u:Int), .int .i64 n, .bool false, .string s, .int .i64 mo] 96));rw[<-hW]at hr hn he;clear hP
      go_upto_region 14 with(fail)
      rw[<-hW];clear hW q0 q1 q2 q3 q4 q5;go_wp2_with (at_builtin; go_must (refine iS Tryz.appBytes rfl _ _ rfl w.heap.size (.slice ao acc.length co) acc.length (acc.map aY) rfl W [.int .u8 0] _ rfl rfl (pp 0) hr.o (by omega) he ?_); intro v' wc hd ha _; have hg:=ah (show wc.ownsRow w.heap.size 5 1 v' (acc.length+([0]:List UInt8).length) (acc.map aY++([0]:List UInt8).map aY)from hd); have ho:=ah (bZ hn.o hr.o ha (ai _) he); obtain⟨ae,ce,rfl,-,-⟩:=aH hd; clear hd ha)
      go_roundw
      ·exact⟨k+1,acc++([0]:List UInt8),by omega,by go_num,by rw[hE.o]; exact jt HE.o HX.o,by rw[ag,aL]; exact hg.o,by rw[ag]; exact hl.o,ho.o⟩
      simp[intOf]; omega
     ·have HX:=ah (show lL ⟨3,u,n,true,s,mo⟩= .ok [1]from rfl);have hl:=ah (show acc.length+([1]:List UInt8).length<=(k+1)*65556 by simp; omega);obtain⟨W,hW⟩:=bI (wr.alloc (.cells #[.int .i64 3, .int .u64 (u:Int), .int .i64 n, .bool true, .string s, .int .i64 mo] 96));rw[<-hW]at hr hn he;clear hP
      go_upto_region 13 with(fail)
      rw[<-hW];clear hW q0 q1 q2 q3 q4 q5;go_wp2_with (at_builtin; go_must (refine iS Tryz.appBytes rfl _ _ rfl w.heap.size (.slice ao acc.length co) acc.length (acc.map aY) rfl W [.int .u8 1] _ rfl rfl (pp 1) hr.o (by omega) he ?_); intro v' wc hd ha _; have hg:=ah (show wc.ownsRow w.heap.size 5 1 v' (acc.length+([1]:List UInt8).length) (acc.map aY++([1]:List UInt8).map aY)from hd); have ho:=ah (bZ hn.o hr.o ha (ai _) he); obtain⟨ae,ce,rfl,-,-⟩:=aH hd; clear hd ha)
      go_roundw
      ·exact⟨k+1,acc++([1]:List UInt8),by omega,by go_num,by rw[hE.o]; exact jt HE.o HX.o,by rw[ag,aL]; exact hg.o,by rw[ag]; exact hl.o,ho.o⟩
      simp[intOf]; omega
    ·by_cases h4:kd=4\/kd=5
     ·have HX:=ah (show lL ⟨kd,u,n,b,s,mo⟩= .ok (bE s.size++bl s) by simp only[lL,if_neg h1,if_neg h3,if_pos h4]);have hl:=ah (show acc.length+(bE s.size++bl s).length<=(k+1)*65556 by have:=dD s.size; rw[ag,<-bi]; omega);have hR:=ah (aG wr (.cells #[.int .i64 kd, .int .u64 (u:Int), .int .i64 n, .bool b, .string s, .int .i64 mo] 96))
      have Hf:=dD s.size;obtain⟨W,hW⟩:=bI (wr.alloc (.cells #[.int .i64 kd, .int .u64 (u:Int), .int .i64 n, .bool b, .string s, .int .i64 mo] 96));rw[<-hW]at hr hn hR;clear h1 h3 hY hP
      rcases h4 with rfl | rfl
      ·go_upto_region 17 with(fail)
       rw[<-hW];clear hW q0 q1 q2 q3 q4 q5;refine fd (fun w'=>w'.cell? ⟨wr.heap.size,4,none⟩=some (.string s)) (by kernel_rfl) ?_;obtain⟨W2,hI⟩:=bI W.drew;rw[<-hI];have hC:Below W.heap.size W W2:=by rw[hI]; exact(ak _ _).drew
       have hZ:=ah (aj hn.o hC);have h0:=ah (jH hr.o hC);have hw:=ah (er hC hR.o);clear hI hC hR;have c0:=bQ (k:=4) hw.o;simp only[gd]at c0
       iterate 5 (refine cI rfl (by go_simp) (by intro w' hO; go_simp; rfl) ?_; simp only[bN])
       refine dy 7 rfl (by go_simp) (by intro w' hO; go_simp; rfl) ?_;simp only[bN];refine dy 8 rfl (by go_simp) (by intro w' hO; go_simp; rfl) ?_;simp only[bN];refine cC 5 rfl (fun K hK=> ?_);go_wp2_with (go_at_call 103; refine(mK s.size _ (by omega)).mono ?_; rintro e w1 ⟨nv,rfl,hB,hh⟩);have hH:=ah hB;have hs:=ah (aj hZ.o hh);have hy:=ah (jH h0.o hh)
       have hp:=ah (er hh hw.o);have he:=hs.o.size;obtain⟨_,na,nc,rfl,hL,hM,-⟩:=hB;have c1:=bQ (k:=4) hp.o;simp only[gd]at c1;clear hh c0;refine⟨c1, ?_⟩;refine cC 6 rfl (fun K hK=> ?_);go_wp2_with (at_builtin; go_must (refine ew Tryz.appBytes rfl _ _ rfl w.heap.size (.slice ao acc.length co) acc.length (acc.map aY) rfl hy.o _ (bE s.size).length ((bE s.size).map aY) rfl hH.o (fy _) (by omega) he ?_); intro v' wc hd ha)
       have hf:=ah ((ha.block wr.heap.size (am hp.o) (fun e=>by have:=(HO.o.lt _ e.symm).2; omega)).trans hp.o);have hu:=ah (bZ hs.o hy.o ha (ai _) he);have hq:=ah (show wc.ownsRow w.heap.size 5 1 v' (acc++bE s.size).length ((acc++bE s.size).map aY) by rw[ag,aL]; exact hd);have hz:=hu.o.size
       obtain⟨ae,ce,rfl,-,-⟩:=aH hd;have c2:=bQ (k:=4) hf.o;simp only[gd]at c2;have hj:(acc++bE s.size).length=acc.length+(bE s.size).length:=ag;clear hd ha c1;refine⟨c2, ?_⟩;refine cC 9 rfl (fun K hK=> ?_);have hA:(acc++bE s.size).length+s.size<1099511627775:=by omega
       have hX:Value.slice ae (acc.length+(bE s.size).length) ce= .slice ae (acc++bE s.size).length ce:=by rw[hj]
       have Hg:=ah hX;have hG:=ah hA;clear hj hA hX;go_wp2_with (at_builtin; go_must (refine lw rfl _ _ rfl w.heap.size (.slice ae (acc.length+(bE s.size).length) ce) (acc++bE s.size) rfl hq.o s rfl hG.o hz ?_); intro v' wd hd ha);have hF:=ah ((ha.block wr.heap.size (am hf.o) (fun e=>by have h1:=hq.o;have h2:=(sO h1 e.symm);obtain⟨cs,h2⟩:=h2;have:=hf.o.symm.trans h2;simp at this)).trans hf.o)
       have ho:=ah (bZ hu.o hq.o ha (ai _) hz);have hg:=ah (show wd.ownsRow w.heap.size 5 1 v' (acc.length+(bE s.size++bl s).length) (acc.map aY++(bE s.size++bl s).map aY) by have h1:=hd;rw[ag,bi,dk,<-ag,aL,bp,<-aL]at h1;exact h1)
       obtain⟨nb,hU⟩:=bI (bE s.size++bl s);rw[<-hU]at hg HX hl;clear hU;obtain⟨af,cf,rfl,-,-⟩:=aH hg.o;have c3:=bQ (k:=4) hF.o;simp only[gd]at c3;clear hd ha c2;refine⟨c3, ?_⟩;refine cI rfl (by go_simp) (by intro w' hO; go_simp; rfl) ?_;simp only[bN];refine cL (by kernel_rfl) ?_;go_wp2_with fail
       go_roundw
       ·exact⟨k+1,acc++nb,by omega,by go_num,by rw[hE.o]; exact jt HE.o HX.o,by rw[ag,aL]; exact hg.o,by rw[ag]; exact hl.o,ho.o⟩
       simp[intOf]; omega
      ·go_upto_region 17 with(fail)
       rw[<-hW];clear hW q0 q1 q2 q3 q4 q5;refine fd (fun w'=>w'.cell? ⟨wr.heap.size,4,none⟩=some (.string s)) (by kernel_rfl) ?_;obtain⟨W2,hI⟩:=bI W.drew;rw[<-hI];have hC:Below W.heap.size W W2:=by rw[hI]; exact(ak _ _).drew
       have hZ:=ah (aj hn.o hC);have h0:=ah (jH hr.o hC);have hw:=ah (er hC hR.o);clear hI hC hR;have c0:=bQ (k:=4) hw.o;simp only[gd]at c0
       iterate 5 (refine cI rfl (by go_simp) (by intro w' hO; go_simp; rfl) ?_; simp only[bN])
       refine dy 7 rfl (by go_simp) (by intro w' hO; go_simp; rfl) ?_;simp only[bN];refine dy 8 rfl (by go_simp) (by intro w' hO; go_simp; rfl) ?_;simp only[bN];refine cC 5 rfl (fun K hK=> ?_);go_wp2_with (go_at_call 103; refine(mK s.size _ (by omega)).mono ?_; rintro e w1 ⟨nv,rfl,hB,hh⟩);have hH:=ah hB;have hs:=ah (aj hZ.o hh);have hy:=ah (jH h0.o hh)
       have hp:=ah (er hh hw.o);have he:=hs.o.size;obtain⟨_,na,nc,rfl,hL,hM,-⟩:=hB;have c1:=bQ (k:=4) hp.o;simp only[gd]at c1;clear hh c0;refine⟨c1, ?_⟩;refine cC 6 rfl (fun K hK=> ?_);go_wp2_with (at_builtin; go_must (refine ew Tryz.appBytes rfl _ _ rfl w.heap.size (.slice ao acc.length co) acc.length (acc.map aY) rfl hy.o _ (bE s.size).length ((bE s.size).map aY) rfl hH.o (fy _) (by omega) he ?_); intro v' wc hd ha)
       have hf:=ah ((ha.block wr.heap.size (am hp.o) (fun e=>by have:=(HO.o.lt _ e.symm).2; omega)).trans hp.o);have hu:=ah (bZ hs.o hy.o ha (ai _) he);have hq:=ah (show wc.ownsRow w.heap.size 5 1 v' (acc++bE s.size).length ((acc++bE s.size).map aY) by rw[ag,aL]; exact hd);have hz:=hu.o.size
       obtain⟨ae,ce,rfl,-,-⟩:=aH hd;have c2:=bQ (k:=4) hf.o;simp only[gd]at c2;have hj:(acc++bE s.size).length=acc.length+(bE s.size).length:=ag;clear hd ha c1;refine⟨c2, ?_⟩;refine cC 9 rfl (fun K hK=> ?_);have hA:(acc++bE s.size).length+s.size<1099511627775:=by omega
       have hX:Value.slice ae (acc.length+(bE s.size).length) ce= .slice ae (acc++bE s.size).length ce:=by rw[hj]
       have Hg:=ah hX;have hG:=ah hA;clear hj hA hX;go_wp2_with (at_builtin; go_must (refine lw rfl _ _ rfl w.heap.size (.slice ae (acc.length+(bE s.size).length) ce) (acc++bE s.size) rfl hq.o s rfl hG.o hz ?_); intro v' wd hd ha);have hF:=ah ((ha.block wr.heap.size (am hf.o) (fun e=>by have h1:=hq.o;have h2:=(sO h1 e.symm);obtain⟨cs,h2⟩:=h2;have:=hf.o.symm.trans h2;simp at this)).trans hf.o)
       have ho:=ah (bZ hu.o hq.o ha (ai _) hz);have hg:=ah (show wd.ownsRow w.heap.size 5 1 v' (acc.length+(bE s.size++bl s).length) (acc.map aY++(bE s.size++bl s).map aY) by have h1:=hd;rw[ag,bi,dk,<-ag,aL,bp,<-aL]at h1;exact h1)
       obtain⟨nb,hU⟩:=bI (bE s.size++bl s);rw[<-hU]at hg HX hl;clear hU;obtain⟨af,cf,rfl,-,-⟩:=aH hg.o;have c3:=bQ (k:=4) hF.o;simp only[gd]at c3;clear hd ha c2;refine⟨c3, ?_⟩;refine cI rfl (by go_simp) (by intro w' hO; go_simp; rfl) ?_;simp only[bN];refine cL (by kernel_rfl) ?_;go_wp2_with fail
       go_roundw
       ·exact⟨k+1,acc++nb,by omega,by go_num,by rw[hE.o]; exact jt HE.o HX.o,by rw[ag,aL]; exact hg.o,by rw[ag]; exact hl.o,ho.o⟩
       simp[intOf]; omega
     ·by_cases h6:kd=6
      ·subst h6
       by_cases hD:s.size=32
       ·have HX:=ah (show lL ⟨6,u,n,b,s,mo⟩= .ok (bl s) by simp[lL,hD]);have hl:=ah (show acc.length+(bl s).length<=(k+1)*65556 by rw[<-bi]; omega);have e1:((s.size:Int) != 32)=false:=by simp; omega
        have he:=hn.o.size;clear hD;go_wp2_with (at_builtin; go_must (refine lw rfl _ _ rfl w.heap.size (.slice ao acc.length co) acc rfl hr.o s rfl (by omega) he ?_); intro v' wc hd ha; have hg:=ah (show wc.ownsRow w.heap.size 5 1 v' (acc.length+(bl s).length) (acc.map aY++(bl s).map aY) by rw[<-bi]; exact hd); have ho:=ah (bZ hn.o hr.o ha (ai _) he); obtain⟨ae,ce,rfl,-,-⟩:=aH hd; clear hd ha)
        go_roundw
        ·exact⟨k+1,acc++(bl s),by omega,by go_num,by rw[hE.o]; exact jt HE.o HX.o,by rw[ag,aL]; exact hg.o,by rw[ag]; exact hl.o,ho.o⟩
        simp[intOf]; omega
       ·have HX:=ah (sB HE.o HG.o (show lL ⟨6,u,n,b,s,mo⟩= .error 1 by simp[lL,hD]));have e1:((s.size:Int) != 32)=true:=by simp; omega
        clear hD;go_wp2_with fail
        go_ret2
        exact⟨hn.o,by unfold yD; rw[HX.o]; exact⟨rfl,by decide⟩⟩
      ·by_cases h7:kd=7
       ·subst h7
        by_cases Hj:n<0
        ·have HX:=ah (sB HE.o HG.o (show lL ⟨7,u,n,b,s,mo⟩= .error 1 by simp[lL,Hj]));go_wp2_with fail
         go_ret2
         exact⟨hn.o,by unfold yD; rw[HX.o]; exact⟨rfl,by decide⟩⟩
        ·obtain⟨m,rfl⟩: ∃m:Nat,n=(m:Int):=⟨n.toNat,by omega⟩;have HX:=ah (show lL ⟨7,u,(m:Int),b,s,mo⟩= .ok (bE m) by simp[lL]);have hl:=ah (show acc.length+(bE m).length<=(k+1)*65556 by have:=dD m; omega);have Hf:=dD m;go_wp2_with fail;refine(mK m _ (by omega)).mono ?_;rintro e w1 ⟨nv,rfl,hB,hh⟩;have hH:=ah hB
         have hs:=ah (aj hn.o hh);have hy:=ah (jH hr.o hh);have he:=hs.o.size;obtain⟨_,na,nc,rfl,hL,hM,-⟩:=hB;clear hh q0 q1 q2 q3 q4 q5;go_wp2_with (at_builtin; go_must (refine ew Tryz.appBytes rfl _ _ rfl w.heap.size (.slice ao acc.length co) acc.length (acc.map aY) rfl hy.o _ (bE m).length ((bE m).map aY) rfl hH.o (fy _) (by omega) he ?_); intro v' wc hd ha; have hg:=ah hd; have ho:=ah (bZ hs.o hy.o ha (ai _) he); obtain⟨ae,ce,rfl,-,-⟩:=aH hd; clear hd ha)
         go_roundw
         ·exact⟨k+1,acc++(bE m),by omega,by go_num,by rw[hE.o]; exact jt HE.o HX.o,by rw[ag,aL]; exact hg.o,by rw[ag]; exact hl.o,ho.o⟩
         simp[intOf]; omega
       ·have HX:=ah (show lL ⟨kd,u,n,b,s,mo⟩= .ok [] by simp only[lL,if_neg h1,if_neg h3,if_neg h4,if_neg h6,if_neg h7]);have hl:=ah (show acc.length+([]:List UInt8).length<=(k+1)*65556 from an Hh (dh _ (Nat.le_succ k)));have Hd: ¬kd=4:=fun e=>h4 (.inl e)
        have He: ¬kd=5:=fun e=>h4 (.inr e)
        have e1:(kd == 1)=false:=by simpa using h1
        have e2:(kd == 2)=false:=by simpa using hY
        have e3:(kd == 3)=false:=by simpa using h3
        have e4:(kd == 4)=false:=by simpa using Hd
        have e5:(kd == 5)=false:=by simpa using He
        have e6:(kd == 6)=false:=by simpa using h6
        have e7:(kd == 7)=false:=by simpa using h7
        have hg:=ah (show World.ownsRow (wr.alloc (.cells #[.int .i64 kd, .int .u64 (u:Int), .int .i64 n, .bool b, .string s, .int .i64 mo] 96)) w.heap.size 5 1 (.slice ao acc.length co) (acc.length+([]:List UInt8).length) (acc.map aY++([]:List UInt8).map aY) by simpa using hr.o);have ho:=hn;clear h1 h3 h4 h6 h7 hY Hd He;go_wp2_with fail
        go_roundw
        ·exact⟨k+1,acc++([]:List UInt8),by omega,by go_num,by rw[hE.o]; exact jt HE.o HX.o,by rw[ag,aL]; exact hg.o,by rw[ag]; exact hl.o,ho.o⟩
        simp[intOf]; omega
  ·obtain rfl:k=l.length:=by omega
   have Hb:=ah (show fD l= .ok acc by have:=HE.o; rwa [bw (ai _)]at this)
   by_cases hS:1048576<acc.length
   ·have HX:=ah (show yD l= .error 2 by unfold yD; rw[Hb.o]; simp only[if_pos hS]);go_wp2_with fail
    go_ret2
    exact⟨HB.o,by rw[HX.o]; exact⟨rfl,by decide⟩⟩
   ·have HX:=ah (show yD l= .ok acc by unfold yD; rw[Hb.o]; simp only[if_neg hS]);go_wp2_with fail
    go_ret2
    exact⟨HB.o,by rw[HX.o]; exact⟨_,rfl,HO.o⟩⟩
def rvV (x:jQ):Value:= .agg #[.int .i64 x.kind, .int .u64 (x.u:Int), .int .i64 x.n, .bool x.b, .string x.s, .int .i64 x.most]
def iZ (n:Int):jQ:=⟨1,(n%18446744073709551616).toNat,0,false,⟨#[]⟩,0⟩
def Gy (s:ByteArray):jQ:=⟨6,0,0,false,s,0⟩
def ov (s:ByteArray):jQ:=⟨5,0,0,false,s,0⟩
def ka (n:Nat):jQ:=⟨7,0,(n:Int),false,⟨#[]⟩,0⟩
def eM (r:cH):List jQ:=[Gy r.name,iZ r.gen,iZ r.size]
theorem oL (n:Int):yz (iZ n):=⟨by simp only[iZ]; omega,by simp[iZ],by simp only[iZ]; decide,by simp[iZ]⟩
theorem PC {s:ByteArray} (h:s.size<=65536):yz (Gy s):=⟨by simp[Gy],by simp[Gy],h,by simp[Gy]⟩
theorem tU {s:ByteArray} (h:s.size<=65536):yz (ov s):=⟨by simp[ov],by simp[ov],h,by simp[ov]⟩
theorem zv {n:Nat} (h:n<=1000000):yz (ka n):=⟨by simp[ka],by simp only[ka]; omega,by simp only[ka]; decide,by simp[ka]⟩
theorem qh {r:cH} (h:r.name.size<=65536): ∀x∈eM r,yz x:=by
 intro x hx;simp only[eM,aT,dz,or_false]at hx
 rcases hx with rfl | rfl | rfl
 ·exact PC h
 ·exact oL _
 ·exact oL _
theorem BT : ∀ {l:List jQ},(∀x∈l,yz x)->eO OC (l.flatMap sP) l
 | [],_=>rfl
 | x::l,h=>⟨sP x,l.flatMap sP,rfl,⟨rfl,h x (by simp)⟩,BT (fun y hy=>h y (by simp[hy]))⟩
theorem wrap_u64 (n:Int):IntKind.u64.wrap n=((n%18446744073709551616).toNat:Int):=by rw[cV]; omega
theorem lS (n:Int) (w:World):Calls Tryz.prog 55 #[.int .i64 n] w fun e w'=>e= .returned (rvV (iZ n))/\Below w.heap.size w w':=by
 have hw:=wrap_u64 n;obtain⟨m,hm⟩:=bI ((n%18446744073709551616).toNat:Nat);have ha:iZ n=⟨1,m,0,false,⟨#[]⟩,0⟩:=by rw[hm]; rfl
 rw[<-hm]at hw;have HN:=ah ha;clear hm ha
 go_enter Tryz.func55,Tryz.ntmps55
 go_wp2_with fail;exact cP (v:= .agg #[.int .i64 1, .int .u64 (m:Int), .int .i64 0, .bool false, .string ⟨#[]⟩, .int .i64 0]) (by simp[results,Tryz.results55,go_sem]) rfl ⟨by rw[HN.o]; rfl,eW⟩
def PU (l:List jQ) (w:World) (e:Ending) (w':World):Prop:= ∃v,e= .returned v/\zh (w.heap.size<= ·) w' v l/\Below w.heap.size w w'
theorem qx (r:cH) (w:World) (hs:r.name.size<=65536):Calls Tryz.prog 56 #[fi r] w (PU (eM r) w):=by
 have HB:=ah ((ak w.heap.size w).alloc (ai _) (.cells #[.string r.name, .int .i64 r.gen, .int .i64 r.size] 26));have ho:=ah (aG w (.cells #[.string r.name, .int .i64 r.gen, .int .i64 r.size] 26));have hr:=ah (qh hs);unfold fi;clear hs
 go_enter Tryz.func56,Tryz.ntmps56
 go_wp2_with fail;refine fd (fun w'=>w'.cell? ⟨w.heap.size,0,none⟩=some (.string r.name)/\w'.cell? ⟨w.heap.size,1,none⟩=some (.int .i64 r.gen)/\w'.cell? ⟨w.heap.size,2,none⟩=some (.int .i64 r.size)) (by kernel_rfl) ?_;obtain⟨W,hW⟩:=bI ((w.alloc (.cells #[.string r.name, .int .i64 r.gen, .int .i64 r.size] 26)).drew);rw[<-hW];have hp:=ah (show Below w.heap.size w W by rw[hW]; exact HB.o.drew)
 have he:=ah (show W.heap[w.heap.size]? =some (.cells #[.string r.name, .int .i64 r.gen, .int .i64 r.size] 26 (0,0)) by rw[hW]; exact ho.o);clear hW HB ho;obtain⟨c0,c1,c2,_⟩:=aS he.o
 iterate 5 (refine cI rfl (by go_simp) (by rintro w' ⟨hl,hm,hb⟩; go_simp; rfl) ?_; simp only[bN])
 refine dy 6 rfl (by go_simp) (by rintro w' ⟨hl,hm,hb⟩; go_simp; rfl) ?_;simp only[bN];refine dy 7 rfl (by go_simp) (by rintro w' ⟨hl,hm,hb⟩; go_simp; rfl) ?_;simp only[bN];refine cC 5 rfl (fun K hK=> ?_);go_wp2_with (go_at_call 55; refine(lS r.gen _).mono ?_; rintro e w1 ⟨rfl,hh⟩);have hq:=ah (aj hp.o hh);have hf:=ah (er hh he.o);clear hh c0 c1 c2
 obtain⟨c0,c1,c2,_⟩:=aS hf.o;refine⟨⟨c0,c1,c2⟩, ?_⟩;refine cC 8 rfl (fun K hK=> ?_);go_wp2_with (go_at_call 55; refine(lS r.size _).mono ?_; rintro e w2 ⟨rfl,hj⟩);have hn:=ah (aj hq.o hj);have hg:=ah (er hj hf.o);clear hj c0 c1 c2;obtain⟨c0,c1,c2,_⟩:=aS hg.o;refine⟨⟨c0,c1,c2⟩, ?_⟩;refine cC 9 rfl (fun K hK=> ?_);unfold rvV;go_wp2_with fail
 have hd:=am hg.o;have ha:(#[Value.int .i64 6, .int .u64 0, .int .i64 0, .bool false, .string r.name, .int .i64 0, .int .i64 (iZ r.gen).kind, .int .u64 (iZ r.gen).u, .int .i64 (iZ r.gen).n, .bool (iZ r.gen).b, .string (iZ r.gen).s, .int .i64 (iZ r.gen).most, .int .i64 (iZ r.size).kind, .int .u64 (iZ r.size).u, .int .i64 (iZ r.size).n, .bool (iZ r.size).b, .string (iZ r.size).s, .int .i64 (iZ r.size).most]:Array Value)=((eM r).flatMap sP).toArray:=rfl
 rw[ha];obtain⟨w3,hb⟩:=bI (w2.alloc (.cells ((eM r).flatMap sP).toArray 96));have hc:=ah (show Below w2.heap.size w2 w3 by rw[hb]; exact eW);have HR:=ah (show zh (w.heap.size<= ·) w3 (.slice (some ⟨w2.heap.size,0,none⟩) 3 3) (eM r) by have h1:=cJ (dp (base:=w2.heap.size) (e:=96) (size:=6) w2 ((eM r).flatMap sP).toArray 3 (ai _) (by unfold maxLen; omega) rfl);rw[hb];exact⟨_,h1.weak (fun k hk=>an hn.o.size hk.1),BT hr.o⟩)
 rw[<-hb];clear hb ha;refine⟨⟨(hc.o.cell hd).trans c0,(hc.o.cell hd).trans c1,(hc.o.cell hd).trans c2⟩, ?_⟩;refine cI rfl ⟨(hc.o.cell hd).trans c0,(hc.o.cell hd).trans c1,(hc.o.cell hd).trans c2⟩ (by rintro w' ⟨hl,hm,hb⟩; go_simp; rfl) ?_;simp only[bN];refine cL (by kernel_rfl) ?_;go_wp2_with fail;go_ret;exact⟨_,rfl,HR.o,aj hn.o hc.o⟩
theorem set3 {w:World} {b:Nat} {a0 a1 a2 x0 x1 x2:Value} {t:TypeId} (h:w.heap[b]? =some (.cells #[a0,a1,a2] t (0,0))):
  (((w.setCell ⟨b,0,none⟩ x0).setCell ⟨b,1,none⟩ x1).setCell ⟨b,2,none⟩ x2).heap[b]? =some (.cells #[x0,x1,x2] t (0,0)):=jm (jm (jm h x0) x1) x2
def gh (it:cj):List jQ:=
 [ov it.name,iZ it.kind,iZ it.mode,iZ it.time]++
  (if it.kind=1 then ka it.chunks.length::it.chunks.flatMap eM else if it.kind=2 then eM it.node else [ov it.link])
def lX (l:List cj) (k:Nat):List jQ:=ka l.length::(l.take k).flatMap gh
def iF (l:List cj):List jQ:=ka l.length::l.flatMap gh
theorem vw {l:List cj} {k:Nat} {it:cj} (h:l[k]? =some it):lX l (k+1)=lX l k++gh it:=by unfold lX;obtain⟨hk,rfl⟩:=aD.1 h;rw[List.take_succ_eq_append_getElem hk,bV]; simp
theorem GG (l:List cj):lX l l.length=iF l:=by unfold lX iF; rw[bw (ai _)]
theorem Lv (l:List cj) (k:Nat):(lX l k).length<=(iF l).length:=by
 unfold lX iF;have h:l.flatMap gh=(l.take k).flatMap gh++(l.drop k).flatMap gh:=by rw[<-bV,dx]
 rw[h];simp
structure vL (it : cj) : Prop where
 nm:it.name.size<=65536
 lk:it.link.size<=65536
 nd:it.node.name.size<=65536
 ch: ∀c∈it.chunks,c.name.size<=65536
def tH (l:List cj):List UInt8:=match yD (iF l)with
 | .error _=>[]
 | .ok b=>b
structure Be (w : World) (xb : Nat) (cs : Array Value) (wq : World) (lv : Value) (vals : List jQ) : Prop where
 row:wq.ownsRow w.heap.size 96 6 lv vals.length (vals.flatMap sP)
 box:wq.heap[xb]? =some (.cells cs 28 (0,0))
 below:Below w.heap.size w wq
section
variable {w wq w' : World} {xb : Nat} {cs : Array Value} {lv v' : Value} {vals news : List jQ}
theorem Be.next (h:Be w xb cs wq lv vals) (hb:Below wq.heap.size wq w'):Be w xb cs w' lv vals:=
 ⟨jH h.row hb,(hb.block xb (am h.box)).trans h.box,aj h.below hb⟩
theorem Be.app (h:Be w xb cs wq lv vals) (ho:w'.ownsRow w.heap.size 96 6 v' (vals.length+news.length) (vals.flatMap sP++news.flatMap sP)) (hg:wq.grownBy w' lv.ownBlock):Be w xb cs w' v' (vals++news):=by refine⟨by rw[ag,bV]; exact ho,(hg.block xb (am h.box) (fun e=> ?_)).trans h.box,bZ h.below h.row hg (ai _) h.below.size⟩;obtain⟨c,hc⟩:=sO h.row e.symm;have:=h.box.symm.trans hc;simp at this
end
theorem Tryz.appVals :kw Tryz.prog 97 96 6 56:=kw.mk' (z:= .agg #[.int .i64 0, .int .u64 0, .int .i64 0, .bool false, .string ⟨#[]⟩, .int .i64 0]) Tryz.underlying97 (by kernel_rfl) rfl (by decide) (by decide)
theorem tO {l:List jQ} : ∀u∈l.flatMap sP,u.oneCell'=true:=by
 intro u hu;obtain⟨x,_,hx⟩:=cO.1 hu;simp only[sP,aT,dz,or_false]at hx
 rcases hx with rfl | rfl | rfl | rfl | rfl | rfl<;> rfl
theorem eP.lts {S:Nat->Prop} {w:World} {v:Value} {l:List cj} (h:eP S w v l):eP (· <w.heap.size) w v l:=by obtain⟨cells,hr,ha⟩:=h;exact⟨cells,hr.mono (fun k hk hS=>hk) (by omega),ha.mono (fun c x _ ⟨cv,h1,⟨cells,h2,h3⟩,h4⟩=>⟨cv,h1,⟨cells,h2.mono (fun k hk _=>hk) (by omega),h3⟩,h4⟩)⟩
theorem oO : ∀(l:List cH),(l.flatMap eM).length=3*l.length
 | []=>rfl
 | x::l=>by rw[bm,ag,oO l,az]; simp[eM]; omega
def Is (it:cj):List jQ:=[ov it.name,iZ it.kind,iZ it.mode,iZ it.time]
theorem vd {it:cj} (h:it.kind=1):gh it=Is it++(ka it.chunks.length::it.chunks.flatMap eM):=by unfold gh Is; rw[if_pos h]
theorem Fz {it:cj} (h:it.kind=2):gh it=Is it++eM it.node:=by unfold gh Is; rw[if_neg (by omega),if_pos h]
theorem Dj {it:cj} (h1: ¬it.kind=1) (h2: ¬it.kind=2):gh it=Is it++[ov it.link]:=by unfold gh Is; rw[if_neg h1,if_neg h2]
theorem OW (it:cj):(Is it).length=4:=rfl
theorem JU {it:cj} (h:vL it) (hc:it.chunks.length<=1000000): ∀x∈gh it,yz x:=by
 intro x hx;unfold gh at hx
 rcases aN.1 hx with hx | hx
 ·simp only[aT,dz,or_false]at hx
  rcases hx with rfl | rfl | rfl | rfl
  ·exact tU h.nm
  ·exact oL _
  ·exact oL _
  ·exact oL _
 ·split at hx
  ·rcases aT.1 hx with rfl | hx
   ·exact zv hc
   ·obtain⟨c,ha,hb⟩:=cO.1 hx;exact qh (h.ch c ha) x hb
  ·split at hx
   ·exact qh h.nd x hx
   ·simp only[aE]at hx; subst hx; exact tU h.lk
theorem DP {l:List cj} (hs: ∀it∈l,vL it) (hl:l.length<=1000000) (hn:(iF l).length<=1000000): ∀x∈iF l,yz x:=by
 intro x hx;unfold iF at hx
 rcases aT.1 hx with rfl | hx
 ·exact zv hl
 ·obtain⟨it,h1,h2⟩:=cO.1 hx
  by_cases hk:it.kind=1
  ·refine JU (hs it h1) ?_ x h2;have h3:(gh it).length<=(l.flatMap gh).length:=by obtain⟨a,b,rfl⟩:=jy h1;rw[bV,bm,ag,ag]; omega
   have h4:it.chunks.length<=(gh it).length:=by rw[vd hk,ag,az,oO]; omega
   unfold iF at hn;rw[az]at hn;omega
  ·unfold gh at h2;rw[if_neg hk]at h2
   rcases aN.1 h2 with hx | hx
   ·simp only[aT,dz,or_false]at hx
    rcases hx with rfl | rfl | rfl | rfl
    ·exact tU (hs it h1).nm
    ·exact oL _
    ·exact oL _
    ·exact oL _
   ·split at hx
    ·exact qh (hs it h1).nd x hx
    ·simp only[aE]at hx; subst hx; exact tU (hs it h1).lk
theorem IW {S:Nat->Prop} {w:World} {v:Value} {l:List jQ} (h:zh S w v l):cD S w 6 v l.length (l.flatMap sP):=by
 obtain⟨cells,h1,h2⟩:=h;have: ∀(l:List jQ) (cells:List Value),eO OC cells l->cells=l.flatMap sP:=by
  intro l
  induction l with
  | nil=>intro cells h; exact h
  | cons x l ih=>
   rintro cells ⟨c,rest,rfl,⟨rfl,_⟩,hr⟩;rw[ih rest hr]; rfl
 rw[<-this l cells h2]; exact h1
def lQ (v4:List jQ) (cs:List cH) (j:Nat):List jQ:=v4++(ka cs.length::(cs.take j).flatMap eM)
theorem CV {v4:List jQ} {cs:List cH} {j:Nat} {c:cH} (h:cs[j]? =some c):lQ v4 cs (j+1)=lQ v4 cs j++eM c:=by unfold lQ;rw[dZ h,bV]; simp
theorem Fp (v4:List jQ) (cs:List cH):lQ v4 cs cs.length=v4++(ka cs.length::cs.flatMap eM):=by unfold lQ; rw[bw (ai _)]
theorem JM (v4:List jQ) (cs:List cH) (j:Nat):(lQ v4 cs j).length<=(v4++(ka cs.length::cs.flatMap eM)).length:=by unfold lQ;rw[ag,ag,az,az,oO,oO,bn];omega
def GR (l:List cj) (w:World) (e:Ending) (w':World):Prop:= ∃v,e= .returned v/\w'.ownsRow w.heap.size 5 1 v (tH l).length ((tH l).map aY)/\Below w.heap.size w w'
theorem Ky {w:World} {base base' size n:Nat} {e:TypeId} {v:Value} {xs:List Value} (h:w.ownsRow base e size v n xs) (hb:base'<=base):w.ownsRow base' e size v n xs:=
 ⟨h.1,h.2.imp id (fun⟨g,cap,cur,e1,h1,h2⟩=>⟨g,cap,cur,e1,an hb h1,h2⟩)⟩
theorem FO (S:Nat->Prop) (v:Value) (l:List cj) (w:World) (hv:eP S w v l) (hs: ∀it∈l,vL it) (hl:(iF l).length<=1000000) (hll:l.length<=1000000):Calls Tryz.prog 17 #[v] w (GR l w):=by
 obtain⟨a,cap,rfl,hc,hm,-⟩:=cN.shape hv lG.len;unfold maxLen at hm;have HV:=ah hv.lts;have HS:=ah hs;have HL:=ah hl;have Hh:=ah (dp (e:=96) (size:=6) (base:=w.heap.size) w #[.int .i64 7, .int .u64 0, .int .i64 (l.length:Int), .bool false, .string ⟨#[]⟩, .int .i64 0] 1 (ai _) (by unfold maxLen; omega) rfl);have Hd:=ah ((ak w.heap.size w).alloc (ai _) (.cells #[.int .i64 7, .int .u64 0, .int .i64 (l.length:Int), .bool false, .string ⟨#[]⟩, .int .i64 0] 96))
 clear hv hs hl
 go_enter Tryz.func17,Tryz.ntmps17
 go_wp2_with fail
 go_loopw [3,4] (fun lv i wr=> ∃(k:Nat),k<=l.length/\i= .int .i64 k/\wr.ownsRow w.heap.size 96 6 lv (lX l k).length ((lX l k).flatMap sP)/\Below w.heap.size w wr) (fun _ i _=>l.length-(intOf i).toNat)
 ·exact⟨0,aU _,rfl,Hh.o,Hd.o⟩
 ·obtain⟨k,hk,rfl,hu,hb⟩:=hrel;have HO:=ah hu;have HB:=ah hb;obtain⟨ao,co,rfl,HC,HH⟩:=aH hu;clear hu hb Hh Hd
  by_cases HA:k<l.length
  ·obtain⟨it,hI⟩: ∃it,l[k]? =some it:=⟨l[k],by simp[HA]⟩;obtain⟨b,o,ca,cc,rfl,Hl,Hm,-,-,hg⟩:=mT HV.o HB.o hI;have Hf:=ah (HS.o it (aQ hI));have hR:=ah (vw hI);have hT:=ah (show(lX l k++gh it).length<=1000000 by rw[<-vw hI]; exact an (Lv _ _) HL.o);have q0:=hg 0 (by omega);have q1:=hg 1 (by omega)
   have q2:=hg 2 (by omega);have q3:=hg 3 (by omega);have q4:=hg 4 (by omega);have q5:=hg 5 (by omega);have q6:=hg 6 (by omega);have q7:=hg 7 (by omega);have q8:=hg 8 (by omega);have q9:=hg 9 (by omega);simp only[fu,aB,cQ,cZ]at q0 q1 q2 q3 q4 q5 q6 q7 q8 q9;obtain⟨W,hW⟩:=bI (wr.alloc (.cells #[.string it.name, .int .i64 it.kind, .int .i64 it.mode, .int .i64 it.time, .int .i64 it.size, .string it.link, .slice ca it.chunks.length cc, .string it.node.name, .int .i64 it.node.gen, .int .i64 it.node.size] 28))
   have Hc:=ah (show Below wr.heap.size wr W by rw[hW]; exact eW);have hU:=ah (show Be w wr.heap.size #[.string it.name, .int .i64 it.kind, .int .i64 it.mode, .int .i64 it.time, .int .i64 it.size, .string it.link, .slice ca it.chunks.length cc, .string it.node.name, .int .i64 it.node.gen, .int .i64 it.node.size] W (.slice ao (lX l k).length co) (lX l k)from⟨jH HO.o Hc.o,by rw[hW]; exact aG wr _,aj HB.o Hc.o⟩)
   have Hi:=ah Hm;have HD:=Hl;clear hI hg Hl HD Hm;obtain⟨vk,Hn⟩:=bI (lX l k);rw[<-Hn]at hR hT hU HC ⊢;clear Hn
   go_upto_region 6 with(fail)
   rw[<-hW];clear hW q0 q1 q2 q3 q4 q5 q6 q7 q8 q9 HO;refine fd (fun w'=>w'.cell? ⟨wr.heap.size,0,none⟩=some (.string it.name)/\w'.cell? ⟨wr.heap.size,1,none⟩=some (.int .i64 it.kind)/\w'.cell? ⟨wr.heap.size,2,none⟩=some (.int .i64 it.mode)/\w'.cell? ⟨wr.heap.size,3,none⟩=some (.int .i64 it.time)) (by kernel_rfl) ?_;obtain⟨W2,h4⟩:=bI W.drew;rw[<-h4];have hV:=ah (hU.o.next (show Below W.heap.size W W2 by rw[h4]; exact(ak _ _).drew))
   clear h4 hU;obtain⟨c0,c1,c2,c3,_⟩:=aS hV.o.box
   iterate 6 (refine cI rfl (by go_simp) (by rintro w' ⟨hL,hM,hN,hn⟩; go_simp; rfl) ?_; simp only[bN])
   refine dy 7 rfl (by go_simp) (by rintro w' ⟨hL,hM,hN,hn⟩; go_simp; rfl) ?_;simp only[bN];refine dy 8 rfl (by go_simp) (by rintro w' ⟨hL,hM,hN,hn⟩; go_simp; rfl) ?_;simp only[bN];refine dy 10 rfl (by go_simp) (by rintro w' ⟨hL,hM,hN,hn⟩; go_simp; rfl) ?_;simp only[bN];refine dy 11 rfl (by go_simp) (by rintro w' ⟨hL,hM,hN,hn⟩; go_simp; rfl) ?_;simp only[bN]
   refine cC 6 rfl (fun K hK=> ?_);go_wp2_with (go_at_call 55; refine(lS it.kind _).mono ?_; rintro e w1 ⟨rfl,hF⟩);have hX:=ah (hV.o.next hF);clear hF c0 c1 c2 c3;obtain⟨c0,c1,c2,c3,_⟩:=aS hX.o.box;refine⟨⟨c0,c1,c2,c3⟩, ?_⟩;refine cC 9 rfl (fun K hK=> ?_);go_wp2_with (go_at_call 55; refine(lS it.mode _).mono ?_; rintro e w2 ⟨rfl,Hj⟩);have hY:=ah (hX.o.next Hj)
   clear Hj c0 c1 c2 c3;obtain⟨c0,c1,c2,c3,_⟩:=aS hY.o.box;refine⟨⟨c0,c1,c2,c3⟩, ?_⟩;refine cC 12 rfl (fun K hK=> ?_);go_wp2_with (go_at_call 55; refine(lS it.time _).mono ?_; rintro e w3 ⟨rfl,Hk⟩);have hO:=ah (hY.o.next Hk);clear Hk c0 c1 c2 c3;obtain⟨c0,c1,c2,c3,_⟩:=aS hO.o.box;refine⟨⟨c0,c1,c2,c3⟩, ?_⟩;refine cC 13 rfl (fun K hK=> ?_)
   unfold rvV;go_wp2_with fail;have hf:(#[Value.int .i64 5, .int .u64 0, .int .i64 0, .bool false, .string it.name, .int .i64 0, .int .i64 (iZ it.kind).kind, .int .u64 (iZ it.kind).u, .int .i64 (iZ it.kind).n, .bool (iZ it.kind).b, .string (iZ it.kind).s, .int .i64 (iZ it.kind).most, .int .i64 (iZ it.mode).kind, .int .u64 (iZ it.mode).u, .int .i64 (iZ it.mode).n, .bool (iZ it.mode).b, .string (iZ it.mode).s, .int .i64 (iZ it.mode).most, .int .i64 (iZ it.time).kind, .int .u64 (iZ it.time).u, .int .i64 (iZ it.time).n, .bool (iZ it.time).b, .string (iZ it.time).s, .int .i64 (iZ it.time).most]:Array Value)=((Is it).flatMap sP).toArray:=rfl
   rw[hf];obtain⟨w4,hn⟩:=bI (w3.alloc (.cells ((Is it).flatMap sP).toArray 96));have hE:=ah (hO.o.next (show Below w3.heap.size w3 w4 by rw[hn]; exact eW));have Hg:=ah (show cD (w.heap.size<= ·) w4 6 (.slice (some ⟨w3.heap.size,0,none⟩) 4 4) 4 ((Is it).flatMap sP) by have h1:=cJ (dp (base:=w3.heap.size) (e:=96) (size:=6) w3 ((Is it).flatMap sP).toArray 4 (ai _) (by unfold maxLen; omega) rfl);rw[hn];exact h1.weak (fun k hk=>an hO.o.below.size hk.1))
   rw[<-hn];clear hn hf hV hX hY hO c0 c1 c2 c3;obtain⟨c0,c1,c2,c3,_⟩:=aS hE.o.box;have Hz:vk.length+4<=1000000:=by
    have h1:=hT.o;rw[ag]at h1;have h2:4<=(gh it).length:=by unfold gh; simp
    omega
   have hH:=hE.o.below.size;refine⟨⟨c0,c1,c2,c3⟩, ?_⟩;refine cC 14 rfl (fun K hK=> ?_);go_wp2_with (at_builtin; go_must (refine ew Tryz.appVals rfl _ _ rfl w.heap.size (.slice ao vk.length co) vk.length (vk.flatMap sP) rfl hE.o.row _ 4 ((Is it).flatMap sP) rfl Hg.o tO (by omega) hH ?_); intro v' wc hd ha);have h7:=hE.o.app (news:=Is it) hd ha;obtain⟨v4,hp⟩:=bI (vk++Is it)
   rw[<-hp]at h7;have he:=ah h7;have h0:=ah hp;have HK:v4.length<=1000000:=by rw[hp,ag,OW]; omega
   clear h7 hp;obtain⟨a7,c7',rfl,-,-⟩:=aH he.o.row;clear hd ha c0 c1 c2 c3 Hg hE hH;obtain⟨c0,c1,c2,c3,_⟩:=aS he.o.box;refine⟨⟨c0,c1,c2,c3⟩, ?_⟩;refine cI rfl (by go_simp) (by rintro w' ⟨hL,hM,hN,hn⟩; go_simp; rfl) ?_;simp only[bN];refine cL (by kernel_rfl) ?_;clear c0 c1 c2 c3;have hH:=he.o.below.size
   by_cases hq:it.kind=1
   ·have hA:=ah (show vk++gh it=v4++(ka it.chunks.length::it.chunks.flatMap eM) by rw[vd hq,h0.o,bp]);have Hq:=ah (show ∀j,(lQ v4 it.chunks j).length<=1000000 from fun j=>an (JM v4 it.chunks j) (by rw[<-hA.o]; exact hT.o));obtain⟨_,_,Hy,Hx,h9,-⟩:=cN.shape Hi.o qA.len
    cases Hy
    unfold maxLen at h9;have e1:(it.kind == 1)=true:=by simpa using hq
    clear hq;obtain⟨c0,c1,c2,c3,c4,c5,c6,c7,c8,c9,_⟩:=aS he.o.box;go_wp2_with (at_builtin; go_must (refine iS Tryz.appVals rfl _ _ rfl w.heap.size (.slice a7 v4.length c7') v4.length (v4.flatMap sP) rfl wc (sP (ka it.chunks.length)) _ rfl rfl (by have:=tO (l:=[ka it.chunks.length]); simpa using this) he.o.row (by omega) hH ?_); intro v' wd hd ha _; have h8:=he.o.app (news:=[ka it.chunks.length]) (by simpa using hd) ha; have hh:=ah (show Be w wr.heap.size _ wd v' (lQ v4 it.chunks 0)from h8); obtain⟨a8,c8',rfl,-,-⟩:=aH hh.o.row; clear hd ha h8)
    clear c0 c1 c2 c3 c4 c5 c6 c7 c8 c9;obtain⟨wo,HE⟩:=bI wr;subst HE
    go_loopw [3,6] (fun lv i wq=> ∃j:Nat,j<=it.chunks.length/\i= .int .i64 j/\Be w wo.heap.size #[.string it.name, .int .i64 it.kind, .int .i64 it.mode, .int .i64 it.time, .int .i64 it.size, .string it.link, .slice ca it.chunks.length cc, .string it.node.name, .int .i64 it.node.gen, .int .i64 it.node.size] wq lv (lQ v4 it.chunks j)) (fun _ i _=>it.chunks.length-(intOf i).toNat)
    ·exact⟨0,aU _,rfl,hh.o⟩
    ·obtain⟨j,hj,rfl,hJ⟩:=hrel;have hP:=ah hJ;have HG:=Hq.o j;have HF:=hJ.below.size;obtain⟨a9,c9',rfl,-,-⟩:=aH hJ.row;have c6:=bQ (k:=6) hJ.box;simp only[gd]at c6;clear hJ hh he
     by_cases Hb:j<it.chunks.length
     ·obtain⟨c,hc⟩: ∃c,it.chunks[j]? =some c:=⟨it.chunks[j],by simp[Hb]⟩;have Hu:=ah (show dN (fun k=>k<w.heap.size) wr (.slice ca it.chunks.length cc) it.chunks from dN.same Hi.o (fun k hk hS=>⟨hS,(hP.o.below.block k hS).trans (HB.o.block k hS).symm⟩));obtain⟨b2,o2,rfl,Ha,p0,p1,p2⟩:=nE Hu.o (ak _ _) hc;have Hr:=ah (CV (v4:=v4) hc)
      have Ho:=ah (Hf.o.ch c (aQ hc));clear hc Ha;go_wp2_with fail;refine(qx c _ Ho.o).mono ?_;rintro e w8 ⟨rv,rfl,hw,hG⟩;have hB:=ah (hP.o.next hG);have hZ:=ah (IW hw);have hr:=hB.o.below.size;obtain⟨ra,rc,rfl,-,-,-⟩:=cN.shape hw OC.len;clear hw hG p0 p1 p2 c6;go_wp2_with (at_builtin; go_must (refine ew Tryz.appVals rfl _ _ rfl w.heap.size (.slice a9 (lQ v4 it.chunks j).length c9') (lQ v4 it.chunks j).length ((lQ v4 it.chunks j).flatMap sP) rfl hB.o.row _ (eM c).length ((eM c).flatMap sP) rfl hZ.o tO (by simp only[eM,az,bo]; omega) hr ?_); intro v' we hd ha; have h8:=hB.o.app (news:=eM c) hd ha; rw[<-Hr.o]at h8; have Ht:=ah h8; obtain⟨ae,ce,rfl,-,-⟩:=aH h8.row; clear hd ha h8)
      go_roundw
      ·exact⟨j+1,by omega,by go_num,Ht.o⟩
      simp[intOf]; omega
     ·obtain rfl:j=it.chunks.length:=by omega
      have Hp:=ah (show vk++gh it=lQ v4 it.chunks it.chunks.length by rw[Fp,hA.o]);go_wp2_with fail
      go_roundw
      ·exact⟨k+1,by omega,by go_num,by rw[hR.o,Hp.o]; exact hP.o.row,hP.o.below⟩
      simp[intOf]; omega
   ·by_cases hD:it.kind=2
    ·have hA:=ah (show vk++gh it=v4++eM it.node by rw[Fz hD,h0.o,bp]);have e1:(it.kind == 1)=false:=by simpa using hq
     have e2:(it.kind == 2)=true:=by simpa using hD
     clear hq hD;obtain⟨c0,c1,c2,c3,c4,c5,c6,c7,c8,c9,_⟩:=aS he.o.box;go_wp2_with fail;refine(qx it.node _ Hf.o.nd).mono ?_;rintro e w8 ⟨rv,rfl,hw,hG⟩;have hh:=ah (he.o.next hG);have hZ:=ah (IW hw);have hr:=hh.o.below.size;obtain⟨ra,rc,rfl,-,-,-⟩:=cN.shape hw OC.len;clear hw hG c0 c1 c2 c3 c4 c5 c6 c7 c8 c9;go_wp2_with (at_builtin; go_must (refine ew Tryz.appVals rfl _ _ rfl w.heap.size (.slice a7 v4.length c7') v4.length (v4.flatMap sP) rfl hh.o.row _ (eM it.node).length ((eM it.node).flatMap sP) rfl hZ.o tO (by simp only[eM,az,bo]; omega) hr ?_); intro v' wd hd ha; have h8:=hh.o.app (news:=eM it.node) hd ha; rw[<-hA.o]at h8; obtain⟨v8,hy⟩:=bI (vk++gh it); have h3:=ah hy; rw[<-hy]at h8; have hB:=ah h8; obtain⟨a8,c8',rfl,-,-⟩:=aH h8.row; clear hd ha h8 hy)
     go_roundw
     ·exact⟨k+1,by omega,by go_num,by rw[hR.o,<-h3.o]; exact hB.o.row,hB.o.below⟩
     simp[intOf]; omega
    ·have hA:=ah (show vk++gh it=v4++[ov it.link] by rw[Dj hq hD,h0.o,bp]);have e1:(it.kind == 1)=false:=by simpa using hq
     have e2:(it.kind == 2)=false:=by simpa using hD
     clear hq hD;obtain⟨c0,c1,c2,c3,c4,c5,c6,c7,c8,c9,_⟩:=aS he.o.box;go_wp2_with (at_builtin; go_must (refine iS Tryz.appVals rfl _ _ rfl w.heap.size (.slice a7 v4.length c7') v4.length (v4.flatMap sP) rfl wc (sP (ov it.link)) _ rfl rfl (by have:=tO (l:=[ov it.link]); simpa using this) he.o.row (by omega) hH ?_); intro v' wd hd ha _; have h8:=he.o.app (news:=[ov it.link]) (by simpa using hd) ha; rw[<-hA.o]at h8; obtain⟨v8,hy⟩:=bI (vk++gh it); have h3:=ah hy; rw[<-hy]at h8; have hh:=ah h8; obtain⟨a8,c8',rfl,-,-⟩:=aH h8.row; clear hd ha h8 hy)
     go_roundw
     ·exact⟨k+1,by omega,by go_num,by rw[hR.o,<-h3.o]; exact hh.o.row,hh.o.below⟩
     simp[intOf]; omega
  ·obtain rfl:k=l.length:=by omega
   have Hv:=ah (show zh (fun _=>True) wr (.slice ao (lX l l.length).length co) (iF l) by have h1:=cJ HO.o;have h2:=GG l;rw[h2]at h1 ⊢;exact⟨_,h1.weak (fun _ _=>trivial),BT (DP HS.o (by omega) HL.o)⟩)
   have Hs:=HL;go_wp2_with fail;refine(Fo _ _ _ _ Hv.o Hs.o).mono ?_;rintro e w1 ⟨hF,ho⟩;have He:=ah (aj HB.o hF);have hz:=HB.o.size;clear hF
   cases hC:yD (iF l)with
   | error x=>
    rw[hC]at ho;obtain⟨rfl,hx⟩:=ho;have HX:=ah (show tH l=[] by unfold tH; rw[hC]);clear hC hx;go_wp2_with fail;go_ret;exact⟨_,rfl,by rw[HX.o]; exact bM _ _ _ _,He.o⟩
   | ok bs=>
    rw[hC]at ho;obtain⟨v,rfl,hv⟩:=ho;have HX:=ah (show tH l=bs by unfold tH; rw[hC]);have Hw:=ah hv;obtain⟨va,vc,rfl,HI,HJ⟩:=aH hv;clear hv;clear hC;go_wp2_with fail;go_ret;exact⟨_,rfl,by rw[HX.o]; exact Ky Hw.o hz,He.o⟩
theorem yh {n:Nat} (h:n<256):(UInt8.ofNat n).toNat=n:=ef (by exact h)
theorem Am : ∀(f n:Nat),n<2^(7*(f+1))-> ∃l c,jW f n=l++[c]/\(∀b∈l,128<=b.toNat)/\c.toNat<128
 | 0,n,h=>⟨[],UInt8.ofNat n,rfl,by simp,by rw[yh (by simp at h; omega)]; simpa using h⟩
 | f+1,n,h=>by
  rw[jW]
  by_cases hn:127<n
  ·rw[if_pos hn];obtain⟨l,c,h1,h2,h3⟩:=Am f (n/128) (by rw[show 7*(f+1+1)=7*(f+1)+7 by omega,gp]at h;exact fg (by omega))
   refine⟨UInt8.ofNat (n%128+128)::l,c,by rw[h1]; rfl,fun b hb=> ?_,h3⟩
   rcases aT.1 hb with rfl | hb
   ·rw[yh (by omega)]; omega
   ·exact h2 b hb
  ·rw[if_neg hn];exact⟨[],UInt8.ofNat n,rfl,by simp,by rw[yh (by omega)]; omega⟩
theorem xD : ∀(f n j:Nat),1<=j->n<2^(7*j)->(jW f n).length<=j
 | 0,n,j,hj,_=>by simpa [jW]using hj
 | f+1,n,j,hj,h=>by
  rw[jW]
  by_cases hn:127<n
  ·rw[if_pos hn,az];obtain⟨j,rfl⟩: ∃k,j=k+1:=⟨j-1,by omega⟩;have hj1:1<=j:=by
    rcases eC j with e | e
    ·subst e; simp at h; omega
    ·exact e
   have:=xD f (n/128) j hj1 (by rw[show 7*(j+1)=7*j+7 by omega,gp]at h;exact fg (by omega))
   omega
  ·rw[if_neg hn]; simpa using hj
theorem iL {n:Nat} (h:n<18446744073709551616):(bE n).length<=10:=xD 10 n 10 (by decide) (jg h (by decide))
theorem sC (n:Nat):1<=(bE n).length:=by unfold bE jW; split<;> simp
theorem IG {data:List UInt8} {off:Nat} {c:UInt8} (hc:c.toNat<128) (rest:List UInt8): ∀(q p:List UInt8) (f:Nat),data.drop off=(p++q++[c])++rest->(∀b∈q,128<=b.toNat)->
  bE (uI (p++q++[c]))=p++q++[c]->q.length<f->yO data off f p.length= .ok (uI (p++q++[c]),off+(p++q++[c]).length)
 | [],p,f,hd,_,he,hf=>by
  obtain⟨f,rfl⟩: ∃g,f=g+1:=⟨f-1,by simp at hf; omega⟩;rw[ci]at hd he ⊢;have h1:data[off+p.length]? =some c:=by rw[<-fG,hd]; simp
  have h2:(data.drop off).take (p.length+1)=p++[c]:=by rw[hd,List.take_left' (by simp)]
  rw[Ph h1 (by omega) (by rw[h2]; exact he),h2,ag,bB,<-dk]
 | b::q,p,f,hd,hq,he,hf=>by
  obtain⟨f,rfl⟩: ∃g,f=g+1:=⟨f-1,by simp at hf; omega⟩;have h1:data[off+p.length]? =some b:=by rw[<-fG,hd]; simp
  rw[Kv h1 (hq b (by simp))];have:=IG hc rest q (p++[b]) f (by rw[hd]; simp) (fun x hx=>hq x (by simp[hx])) (by simpa using he) (by simp at hf; omega);rw[ag,bB]at this;rw[this]; simp
theorem xF {data rest:List UInt8} {off n:Nat} (ho:off<=data.length) (hn:n<18446744073709551616) (h:data.drop off=bE n++rest):oB data off= .ok (n,off+(bE n).length):=by
 obtain⟨l,c,h1,h2,h3⟩:=Am 10 n (jg hn (by decide));have hv:uI (bE n)=n:=by unfold uI bE;rw[yo 10 n (jg hn (by decide)),eH hn]
 have hs:=iL hn;have he:bE n=l++[c]:=h1;rw[Nc data off ho];have:=IG (data:=data) (off:=off) h3 rest l [] 10 (by rw[h,he]; simp) h2 (by rw[aI,<-he,hv]) (by rw[he]at hs; simp at hs; omega);rw[bo,aI,<-he,hv]at this;exact this
def Ok (data:List UInt8) (s:RS):Prop:=s.err=0/\s.off<=data.length
theorem IV {α:Type} {z x:α} {r:Except Int (α×Nat)} {s:RS} {o:Nat} (h:s.err=0) (hr:r= .ok (x,o)):rv z r s=(x,⟨o,s.off,0⟩):=by unfold rv; rw[if_pos h,hr]
theorem oe {data a rest:List UInt8} {off:Nat} (ho:off<=data.length) (h:data.drop off=a++rest):off+a.length<=data.length/\data.drop (off+a.length)=rest:=by have h1:=congrArg List.length h;rw[bz,ag]at h1;refine⟨by omega, ?_⟩;rw[<-fR,h,List.drop_left]
theorem yj {data rest:List UInt8} {s:RS} {n:Nat} (hs:Ok data s) (hn:n<18446744073709551616) (h:data.drop s.off=bE n++rest): ∃s',vG data s=(n,s')/\Ok data s'/\data.drop s'.off=rest:=by have h1:=oe hs.2 h;exact⟨_,IV hs.1 (xF hs.2 hn h),⟨rfl,h1.1⟩,h1.2⟩
theorem Mj {data rest:List UInt8} {s:RS} {n most:Nat} (hs:Ok data s) (hn:n<18446744073709551616) (hm:n<=most) (h:data.drop s.off=bE n++rest): ∃s',Bq data most s=(n,s')/\Ok data s'/\data.drop s'.off=rest:=by have h1:=oe hs.2 h;refine⟨_,IV hs.1 (o:=s.off+(bE n).length) ?_,⟨rfl,h1.1⟩,h1.2⟩;unfold nf;rw[xF hs.2 hn h];simp only;rw[if_neg (by omega)]
theorem ED {data a rest:List UInt8} {off:Nat} (ho:off<=data.length) (h:data.drop off=a++rest):kK data off a.length= .ok (a,off+a.length):=by have h1:=(oe ho h).1;unfold kK;rw[if_neg (by omega),h,List.take_left]
theorem Qr {data a rest:List UInt8} {s:RS} (hs:Ok data s) (ha:a.length=32) (h:data.drop s.off=a++rest): ∃s',smP data s=(a,s')/\Ok data s'/\data.drop s'.off=rest:=by have h1:=oe hs.2 h;have h2:=ED hs.2 h;rw[ha]at h2 h1;exact⟨_,IV hs.1 h2,⟨rfl,h1.1⟩,h1.2⟩
theorem Ob {data a rest:List UInt8} {s:RS} {most:Nat} (hs:Ok data s) (ha:a.length<=most) (hm:most<18446744073709551616) (h:data.drop s.off=bE a.length++(a++rest)): ∃s',EF data most s=(a,s')/\Ok data s'/\data.drop s'.off=rest:=by have h1:=oe hs.2 h;have h3:=oe h1.1 h1.2;refine⟨_,IV hs.1 (o:=s.off+(bE a.length).length+a.length) ?_,⟨rfl,h3.1⟩,h3.2⟩;unfold kt nf;rw[xF hs.2 (by omega) h];simp only;rw[if_neg (by omega)];simp only;exact ED h1.1 h1.2
def fE (r:cH):List UInt8:=bl r.name++(bE r.gen.toNat++bE r.size.toNat)
theorem tV {n:Nat} (h:n<9223372036854775808):ow n=(n:Int):=by unfold ow wrap64; omega
theorem mV {r:cH} :lF r=true<->r.name.size=32/\0<=r.gen/\r.gen<=1099511627776/\0<=r.size/\r.size<=32768:=by unfold lF; simp[and_assoc]
theorem IU {data rest:List UInt8} {s:RS} {r:cH} (hs:Ok data s) (hr:lF r=true) (h:data.drop s.off=fE r++rest): ∃s',rT data s=(r,s')/\Ok data s'/\data.drop s'.off=rest:=by
 obtain⟨h1,h2,h3,h4,h5⟩:=mV.1 hr;unfold fE at h;rw[bp,bp]at h;obtain⟨s1,e1,o1,d1⟩:=Qr hs (by rw[<-bi]; exact h1) h;obtain⟨s2,e2,o2,d2⟩:=yj o1 (by omega) d1;obtain⟨s3,e3,o3,d3⟩:=yj o2 (by omega) d2;refine⟨s3, ?_,o3,d3⟩;unfold rT;rw[e1];simp only;rw[e2];simp only;rw[e3,tF,tV (by omega),tV (by omega)]
 congr 1
 cases r
 simp only[cH.mk.injEq,true_and]at *;omega
theorem wF {data:List UInt8} : ∀(l pre:List cH) (rest:List UInt8) (s0 s:RS),jn data s0 pre.length=(pre,s)->Ok data s->(∀r∈l,lF r=true)->data.drop s.off=l.flatMap fE++rest->
  ∃s',jn data s0 (pre.length+l.length)=(pre++l,s')/\Ok data s'/\data.drop s'.off=rest
 | [],pre,rest,s0,s,h,hs,_,hd=>⟨s,by simpa using h,hs,by simpa using hd⟩
 | r::l,pre,rest,s0,s,h,hs,hv,hd=>by
  rw[bm,bp]at hd;obtain⟨s1,e1,o1,d1⟩:=IU hs (hv r (by simp)) hd;have h1:=uT h e1;obtain⟨s2,e2,o2,d2⟩:=wF l (pre++[r]) rest s0 s1 (by simpa using h1) o1 (fun x hx=>hv x (by simp[hx])) d1;refine⟨s2, ?_,o2,d2⟩;rw[ag,bB]at e2;rw[az,show pre.length+(l.length+1)=pre.length+1+l.length by omega,e2]
  simp
theorem Fb (l:List UInt8):iO l=(dH l && !l.contains 47):=by
 by_cases h:(47:UInt8)∈l
 ·have h1:l.contains 47=true:=by simpa using h
  have h2:iO l=false:=by unfold iO; rw[h1]; simp
  rw[h1,h2]; simp
 ·have h1:l.contains 47=false:=by simpa using h
  rw[h1];unfold dH;rw[fP 47 l h]
  cases hc:iO l
  ·simp[hc]
  ·have h2:l.length<=64:=by unfold iO at hc;simp only[aF,aJ]at hc;exact hc.1.1.1.1.2
   simp[hc]; omega
def ly (it:cj):List UInt8:=
 if it.kind=1 then bE it.chunks.length++it.chunks.flatMap fE else if it.kind=2 then fE it.node else bE it.link.size++bl it.link
def gx (it:cj):List UInt8:=bE it.name.size++(bl it.name++(bE it.kind.toNat++(bE it.mode.toNat++(bE it.time.toNat++ly it))))
def gk (l:List cj):List UInt8:=bE l.length++l.flatMap gx
theorem Fl {r:cH} (h:lF r=true):34<=(fE r).length:=by
 obtain⟨h1,_⟩:=mV.1 h;unfold fE;rw[ag,ag,<-bi,h1];have:=sC r.gen.toNat
 have:=sC r.size.toNat
 omega
theorem uV : ∀ {l:List cH},(∀r∈l,lF r=true)->34*l.length<=(l.flatMap fE).length
 | [],_=>by simp
 | r::l,h=>by have h1:=Fl (h r (by simp));have h2:=uV (l:=l) (fun x hx=>h x (by simp[hx]));rw[bm,ag,az]; omega
structure LH (it : cj) : Prop where
 val:dH (bl it.name)=true
 nos:(bl it.name).contains 47=false
 md0:0<=it.mode
 md1:it.mode<=511
 tm0:0<=it.time
theorem pw {it:cj} :tW it=true<->LH it:=by
 unfold tW
 constructor
 ·intro h;simp only[aF,aJ,gP]at h;exact⟨h.1.1,h.1.2,h.2.1.1,h.2.1.2,h.2.2⟩
 ·intro h;simp only[aF,aJ,gP];exact⟨⟨h.val,h.nos⟩,⟨h.md0,h.md1⟩,h.tm0⟩
theorem ms {it:cj} (hk:it.kind=1) (h:kX it=true):it.link=⟨#[]⟩/\it.node=eq/\(∀c∈it.chunks,lF c=true/\1<=c.size)/\it.size=ni it.chunks/\it.size<=1048576:=by
 unfold kX at h;rw[if_pos hk]at h;unfold lz at h;simp only[aF,aJ,cu]at h;refine⟨?_,h.1.2,fun c hc=> ?_,h.2.2.1,h.2.2.2⟩
 ·apply kr
  have:=h.1.1;rw[bi]at this;rw[bq this]; rfl
 ·have:=h.2.1 c hc;unfold rm at this;simp only[aF,aJ]at this;exact⟨this.1,by have:=this.2; omega⟩
theorem qB {it:cj} (hk:it.kind=2) (h:kX it=true):it.link=⟨#[]⟩/\it.size=0/\it.chunks=[]/\lF it.node=true:=by
 unfold kX at h;rw[if_neg (by omega),if_pos hk]at h;simp only[aF,aJ]at h;refine⟨?_,h.1.1.2,bq h.1.2,h.2⟩
 apply kr
 have:=h.1.1.1;rw[bi]at this;rw[bq this]; rfl
theorem rz {it:cj} (hk:it.kind=3) (h:kX it=true):it.size=0/\it.chunks=[]/\it.node=eq/\1<=it.link.size/\it.link.size<=512/\(bl it.link).contains 0=false:=by unfold kX at h;rw[if_neg (by omega),if_neg (by omega),if_pos hk]at h;simp only[aF,aJ,gP]at h;exact⟨h.1.1.1,bq h.1.1.2,h.1.2,h.2.1.1,h.2.1.2,h.2.2⟩
theorem nI {it:cj} (h:kX it=true):it.kind=1\/it.kind=2\/it.kind=3:=by
 unfold kX at h
 by_cases h1:it.kind=1
 ·exact .inl h1
 ·by_cases h2:it.kind=2
  ·exact .inr (.inl h2)
  ·by_cases h3:it.kind=3
   ·exact .inr (.inr h3)
   ·rw[if_neg h1,if_neg h2,if_neg h3]at h; cases h
theorem tn {l:List UInt8} (h:dH l=true) (h2:l.contains 47=false):l.length<=64:=by have:=Fb l;rw[h,h2]at this;unfold iO at this;simp only[Bool.not_false,Bool.and_self,aF,aJ]at this;omega
theorem MJ {data rest:List UInt8} {s:RS} {it:cj} (hs:Ok data s) (hv:iG it=true) (ht:it.time<9223372036854775808) (hl:data.length<=32768) (h:data.drop s.off=gx it++rest):
  ∃s',nj data s=some (it,s')/\Ok data s'/\data.drop s'.off=rest:=by
 unfold iG at hv;rw[aF]at hv;have hh:=pw.1 hv.1;have hk:=nI hv.2;unfold gx at h;simp only[bp]at h;rw[bi]at h;obtain⟨s2,e2,o2,d2⟩:=Ob (most:=64) hs (tn hh.val hh.nos) (by decide) h;have b0:=hh.md0;have b1:=hh.md1;have b2:=hh.tm0;obtain⟨s3,e3,o3,d3⟩:=yj o2 (by omega) d2;obtain⟨s4,e4,o4,d4⟩:=yj o3 (by omega) d3
 obtain⟨s5,e5,o5,d5⟩:=yj o4 (by omega) d4;rw[xk e2 e3 e4 e5];have tk:ow it.kind.toNat=it.kind:=by rw[tV (by omega)]; omega
 have tm:ow it.mode.toNat=it.mode:=by rw[tV (by omega)]; omega
 have tt:ow it.time.toNat=it.time:=by rw[tV (by omega)]; omega
 rcases hk with hk | hk | hk
 ·obtain⟨f1,f2,f3,f4,_⟩:=ms hk hv.2;unfold ly at d5;rw[if_pos hk,bp]at d5;have h6:=oe o5.2 d5;have h7:34*it.chunks.length<=(it.chunks.flatMap fE).length:=uV (fun r hr=>(f3 r hr).1);have h8:=congrArg List.length h6.2;rw[bz,ag]at h8;obtain⟨s6,e6,o6,d6⟩:=Mj (most:=963) o5 (by omega) (by omega) d5
  obtain⟨s7,e7,o7,d7⟩:=wF it.chunks [] rest s6 s6 rfl o6 (fun r hr=>(f3 r hr).1) d6;rw[bo,bT,aI]at e7;refine⟨s7, ?_,o7,d7⟩;rw[xi (by rw[tk]; exact hk) e6 e7,tk,tm,tt,tF,<-f4,<-f1,<-f2]
 ·obtain⟨f1,f2,f3,f4⟩:=qB hk hv.2;unfold ly at d5;rw[if_neg (by omega),if_pos hk]at d5;obtain⟨s6,e6,o6,d6⟩:=IU o5 f4 d5;refine⟨s6, ?_,o6,d6⟩;rw[zS (by rw[tk]; exact hk) e6,tk,tm,tt,tF,<-f1,<-f3];rw[show(0:Int)=it.size from f2.symm]
 ·obtain⟨f1,f2,f3,f4,f5,_⟩:=rz hk hv.2;unfold ly at d5;rw[if_neg (by omega),if_neg (by omega),bp,bi]at d5;obtain⟨s6,e6,o6,d6⟩:=Ob (most:=512) o5 (by rw[<-bi]; omega) (by decide) d5;refine⟨s6, ?_,o6,d6⟩;rw[xj (by rw[tk]; exact hk) e6,tk,tm,tt,tF,tF,<-f3,<-f2];rw[show(0:Int)=it.size from f1.symm]
theorem ym : ∀ {l:List cj} {p:Option ByteArray},ke p l=true-> ∀it∈l,iG it=true
 | it::l,p,h,x,hx=>by
  rw[ke,aF,aF]at h
  rcases aT.1 hx with rfl | hx
  ·exact h.1.1
  ·exact ym h.2 x hx
theorem nN {l:List cj} (h:jL l=true):l.length<=4096/\ ∀it∈l,iG it=true:=by unfold jL at h;rw[aF,aJ]at h;exact⟨h.1,ym h.2⟩
theorem zX {data:List UInt8} (hl:data.length<=32768): ∀(l pre:List cj) (rest:List UInt8) (s0 s:RS),jo data s0 pre.length=some (pre,s)->Ok data s->(∀it∈l,iG it=true/\it.time<9223372036854775808)->data.drop s.off=l.flatMap gx++rest->
  ∃s',jo data s0 (pre.length+l.length)=some (pre++l,s')/\Ok data s'/\data.drop s'.off=rest
 | [],pre,rest,s0,s,h,hs,_,hd=>⟨s,by simpa using h,hs,by simpa using hd⟩
 | it::l,pre,rest,s0,s,h,hs,hv,hd=>by
  rw[bm,bp]at hd;obtain⟨s1,e1,o1,d1⟩:=MJ hs (hv it (by simp)).1 (hv it (by simp)).2 hl hd;have h1:=mR h e1;obtain⟨s2,e2,o2,d2⟩:=zX hl l (pre++[it]) rest s0 s1 (by simpa using h1) o1 (fun x hx=>hv x (by simp[hx])) d1;refine⟨s2, ?_,o2,d2⟩;rw[ag,bB]at e2;rw[az,show pre.length+(l.length+1)=pre.length+1+l.length by omega,e2]
  simp
theorem DQ {l:List cj} (hv:jL l=true) (ht: ∀it∈l,it.time<9223372036854775808) (hl:(gk l).length<=32768):iY (gk l)=some l:=by
 obtain⟨h1,h2⟩:=nN hv;have hs:Ok (gk l) ⟨0,0,0⟩:=⟨rfl,aU _⟩;obtain⟨s1,e1,o1,d1⟩:=Mj (rest:=l.flatMap gx) (most:=4096) (n:=l.length) hs (by omega) h1 rfl;obtain⟨s2,e2,o2,d2⟩:=zX hl l [] [] s1 s1 rfl o1 (fun it hi=>⟨h2 it hi,ht it hi⟩) (by simpa using d1);rw[bo,bT,aI]at e2;rw[qN (by omega) e1 e2]
 have h3:=congrArg List.length d2;rw[bz,bo]at h3;have h4:uj (gk l) s2=0:=by unfold uj; rw[if_pos o2.1,if_neg (by omega)]
 rw[if_pos ⟨h4,hv⟩]
open Go Go.RowKit
theorem QN {x:Nat} (h:x<256):x ||| 128=x%128+128:=by
 have: ∀y:Fin 256,y.val ||| 128=y.val%128+128:=by decide
 exact this ⟨x,h⟩
theorem JA (n:Nat):Value.int .u8 (bits BinOp.or IntKind.u8 ((n:Int)%256) 128)=aY (UInt8.ofNat (n%128+128)):=by
 rw[mu (by omega),show((n:Int)%256)=((n%256:Nat):Int) by omega,show(128:Int)=((128:Nat):Int)from rfl,u8_or_nat _ _ (by omega) (by decide),QN (by omega)]
 congr 2
 omega
theorem Jz {n:Nat} (h:n<256):Value.int .u8 (n:Int)=aY (UInt8.ofNat n):=(mu h).symm
def me (w:World) (base:Nat) (v:Value) (acc:List UInt8):Prop:=w.ownsRow base 5 1 v acc.length (acc.map aY)
def PR (base:Nat) (v:Value) (acc:List UInt8) (w:World) (e:Ending) (w':World):Prop:= ∃v',e= .returned v'/\me w' base v' acc/\w.grownBy w' v.ownBlock/\(∀k,v'.ownBlock=some k->v.ownBlock=some k\/w.heap.size<=k)
structure Ox (base : Nat) (v : Value) (w : World) (x : Value) (ac : List UInt8) (wr : World) : Prop where
 own:me wr base x ac
 grown:w.grownBy wr v.ownBlock
 place: ∀k,x.ownBlock=some k->v.ownBlock=some k\/w.heap.size<=k
theorem Ox.next {base:Nat} {v:Value} {w:World} {x:Value} {ac:List UInt8} {wr wc:World} {v' u:Value} {n:Nat} {b:UInt8} (h:Ox base v w x ac wr) (h1:wc.ownsRow base 5 1 v' (n+1) (ac.map aY++[u])) (h2:wr.grownBy wc x.ownBlock) (h3: ∀k,v'.ownBlock=some k->x.ownBlock=some k\/wr.heap.size<=k)
  (hn:n=ac.length) (hu:u=aY b):Ox base v w v' (ac++[b]) wc:=by
 subst hn hu;refine⟨by unfold me; simpa using h1,⟨h2.os.trans h.grown.os,h2.tape.trans h.grown.tape,h2.output.trans h.grown.output,an h.grown.size h2.size,fun k hk ha=> ?_⟩,fun k hk=> ?_⟩
 ·rw[h2.block k (aO hk h.grown.size) (fun e=> ?_)]
  ·exact h.grown.block k hk ha
  ·rcases h.place k e.symm with e2 | e2
   ·exact ha e2.symm
   ·omega
 ·rcases h3 k hk with e | e
  ·exact h.place k e
  ·exact .inr (an h.grown.size e)
theorem sD (base:Nat) (v:Value) (acc:List UInt8) (n:Nat) (w:World) (hv:me w base v acc) (hb:base<=w.heap.size) (hl:acc.length<1099511000000) (hn:n<18446744073709551616):
  Calls Tryz.prog 100 #[v, .int .u64 (n:Int)] w (PR base v (acc++bE n) w):=by
 have HV:=ah hv;obtain⟨a0,c0,rfl,hx,hy⟩:=aH hv;clear hv
 go_enter Tryz.func100,Tryz.ntmps100
 go_wp2_with fail
 go_loopw [0,1] (fun x y wr=> ∃(f m:Nat) (ac:List UInt8),y= .int .u64 (m:Int)/\m<18446744073709551616/\m<2^(7*f)/\ac++jW f m=acc++bE n/\Ox base (.slice a0 acc.length c0) w x ac wr) (fun _ y _=>(intOf y).toNat)
 ·exact⟨10,n,acc,rfl,hn,jg hn (by decide),rfl,HV.o,pT _ _,fun k hk=> .inl hk⟩
 ·obtain⟨f,m,ac,rfl,hm,hu,hf,hd⟩:=hrel;obtain⟨ax,cx,rfl,h1,h2⟩:=aH hd.own;obtain⟨xl,hh⟩:=bI ac.length;rw[<-hh]at hd h1 ⊢;have HI:=ah hd;have hq:=ah hh;have HO:=ah (show wr.ownsRow base 5 1 (.slice ax xl cx) xl (ac.map aY) by have:=hd.own; unfold me at this; rw[<-hh]at this; exact this);have HE:=ah hf;have hp:=ah hu;have hr:base<=wr.heap.size:=by have:=hd.grown.size; omega
  have hg:=congrArg List.length hf;rw[ag,ag]at hg;have:=dD n;have hw:xl<1099511627775:=by omega
  clear hd hf hu hg this hh
  by_cases hs:127<m
  ·have HV:=ah (JA m);have HZ:=ah (show ∀u∈[(Value.int .u8 (bits BinOp.or IntKind.u8 ((m:Int)%256) 128))],u.oneCell'=true by simp[Value.oneCell']);obtain⟨f,rfl⟩: ∃g,f=g+1:=⟨f-1,by
    cases f with
    | zero=>have:=hp.o; simp at this; omega
    | succ g=>rfl⟩
   have hj:=ah (show(ac++[UInt8.ofNat (m%128+128)])++jW f (m/128)=acc++bE n by rw[<-HE.o,jW,if_pos hs]; simp);have ho:=ah (show m/128<2^(7*f) by have h3:=hp.o;rw[show 7*(f+1)=7*f+7 by omega,gp]at h3;exact fg (by omega))
   go_wp2_with (at_builtin; go_loud (refine bO Tryz.appBytes rfl _ _ rfl base (.slice ax xl cx) xl (ac.map aY) rfl wr [Value.int .u8 (bits BinOp.or IntKind.u8 ((m:Int)%256) 128)] _ rfl rfl HZ.o HO.o hw hr ?_); intro v' wc hc ha _ he; go_loud (have HP:=ah (HI.o.next hc ha he hq.o HV.o)); obtain⟨ae,ce,rfl,-,-⟩:=aH hc; clear hc ha he)
   go_roundw
   ·exact⟨f,m/128,_,by simp,by omega,ho.o,hj.o,HP.o⟩
   simp[intOf]; omega
  ·have HV:=ah (Jz (n:=m) (by omega));have HZ:=ah (show ∀u∈[(Value.int .u8 (m:Int))],u.oneCell'=true by simp[Value.oneCell']);have hj:=ah (show ac++[UInt8.ofNat m]=acc++bE n by
    rw[<-HE.o]
    cases f with
    | zero=>rfl
    | succ f=>rw[jW,if_neg hs])
   go_wp2_with (at_builtin; go_loud (refine bO Tryz.appBytes rfl _ _ rfl base (.slice ax xl cx) xl (ac.map aY) rfl wr [Value.int .u8 (m:Int)] _ rfl rfl HZ.o HO.o hw hr ?_); intro v' wc hc ha _ he; go_loud (have HP:=ah (HI.o.next hc ha he hq.o HV.o)); obtain⟨ae,ce,rfl,-,-⟩:=aH hc; clear hc ha he);go_ret;rw[<-hj.o];exact⟨_,rfl,HP.o.own,HP.o.grown,HP.o.place⟩
theorem wm (n:Nat) (w:World) (hn:n<18446744073709551616):
  Calls Tryz.prog 176 #[.slice none 0 0, .int .u64 (n:Int)] w fun e w'=> ∃v,e= .returned v/\me w' w.heap.size v (bE n)/\Below w.heap.size w w':=by
 obtain⟨hr,⟨i9,z9,he,hf,hg,hh,hq⟩,-,-⟩:=Tryz.appBytes;have hb:i9.bytes*10<=281474976710656:=by rw[hh]; decide
 have H9:=ah (aA he (aA hf (aA hg hb)));clear he hf hg hh hq hb
 go_enter Tryz.func176,Tryz.ntmps176
 go_wp2_with (first | (refine wpList_make_own _ rfl _ _ 29 rfl w.heap.size 5 i9 z9 1 dm H9.o.1 H9.o.2.1 H9.o.2.2.1 .i64 .i64 10 10 rfl rfl rfl H9.o.2.2.2 (by decide) (ai _) ?_; intro w4 ha hj; have ho:=ah ha; have hd:=ah hj; clear ha hj));refine(sD w.heap.size _ [] n w4 ho.o hd.o.size (by simp) hn).mono ?_;rintro e w5 ⟨v',rfl,hc,hl,-⟩
 rw[aI]at hc;have hp:=ah hc;have hm:=ah ((jD hd.o).grown hl hd.o.size (fun k hk=>by cases hk; exact ai _));obtain⟨a5,c5,rfl,-,-⟩:=aH hc;clear hc hl;go_wp2_with fail;go_ret;exact⟨_,rfl,hp.o,hm.o⟩
def lenOf (v:Value):Nat:=match v with
 | .slice _ n _=>n
 | _=>0
theorem lx {x:Nat} {y:Int} (h:y=(x:Int)%256):Value.int .u8 y=aY (UInt8.ofNat x):=by rw[h];simp[aY]
theorem Nj (S:Nat->Prop) (v:Value) (data:List UInt8) (w:World) (hv:bD S w v data) (hl:data.length<549755813888):
  Calls Tryz.prog 215 #[v] w fun e w'=> ∃a c,e= .returned (.slice a (data++pF data.length).length c)/\me w' w.heap.size (.slice a (data++pF data.length).length c) (data++pF data.length)/\Below w.heap.size w w':=by
 obtain⟨hS,a,cap,rfl,hn,hm,-⟩:=id hv;unfold maxLen at hm;have HV:=ah hv;obtain⟨n,hs⟩:=bI data.length;rw[<-hs]at hl hn ⊢;have HN:=ah hs;have hA:=ah (show(w.alloc (.cells #[] 5)).ownsRow w.heap.size 5 1 (.slice (some ⟨w.heap.size,0,none⟩) 0 0) 0 []from dp (e:=5) (size:=1) (base:=w.heap.size) w #[] 0 (ai _) (aU _) (by simp))
 have hL:=ah ((ak w.heap.size w).alloc (ai _) (.cells #[] 5));have hP:=ah (show cD S (w.alloc (.cells #[] 5)) 1 (.slice a n cap) n (data.map aY) by rw[hs]; exact cD.below hv (by omega) ((ak w.heap.size w).alloc (ai _) _));clear hv hS hs
 go_enter Tryz.func215,Tryz.ntmps215
 have hU:0+n<1099511627775:=by omega
 have hT:n<1099511627775:=by omega
 have hJ:w.heap.size<=(w.alloc (.cells #[] 5)).heap.size:=by simp
 go_wp2_with (at_builtin; first
  | (refine ew Tryz.appBytes rfl _ _ rfl w.heap.size (.slice (some ⟨w.heap.size,0,none⟩) 0 0) 0 [] rfl hA.o (.slice a n cap) n (data.map aY) rfl hP.o (fy data) hU hJ ?_; intro v1 w1 hg hE; rw[bT,aI]at hg; obtain⟨a1,c1,rfl,-,-⟩:=aH hg; have hB:=ah hg; have hu:=ah (bZ hL.o hA.o hE (ai _) hJ); clear hg hE)
  | (refine bO Tryz.appBytes rfl _ _ rfl w.heap.size (.slice a1 n c1) n (data.map aY) rfl w1 [Value.int .u8 128] _ rfl rfl (fy [128]) hB.o hT hu.o.size ?_; intro v2 w2 hh hF _ _; obtain⟨a2,c2,rfl,-,-⟩:=aH hh))
 have hO:=ah (show w2.ownsRow w.heap.size 5 1 (.slice a2 (n+1) c2) (n+1) ((data++128::List.replicate 0 0).map aY) by rw[aL]; exact hh);have hM:=ah (bZ hu.o hB.o hF (ai _) hu.o.size);clear hh hF
 go_loopw [3] (fun o wr=> ∃(k:Nat) (a c:_),k<=iN n/\o= .slice a (n+1+k) c/\wr.ownsRow w.heap.size 5 1 (.slice a (n+1+k) c) (n+1+k) ((data++128::List.replicate k 0).map aY)/\Below w.heap.size w wr) (fun o _=>iN n+n+1-lenOf o)
 ·exact⟨0,_,_,by omega,rfl,hO.o,hM.o⟩
 ·obtain⟨k,a3,c3,hk,rfl,ho,hb⟩:=hrel;obtain⟨m,hy⟩:=bI (n+1+k);rw[<-hy]at ho ⊢;have HM:=ah hy;have HO:=ah ho;have HB:=ah hb;have hz:=hb.size;clear ho hb hy;have hI:iN n<64:=cX _ (by decide)
  by_cases hR:m%64=56
  ·have e1:((m:Int)%64 != 56)=false:=by rw[bne_eq_false_iff_eq]; omega
   have hx:k=iN n:=by have:=HM.o; unfold iN at hk hI ⊢; omega
   subst hx;clear hR;go_wp2_with fail;obtain⟨w5,hV⟩:=bI wr;subst hV;obtain⟨pre,hq⟩:=bI (data++128::List.replicate (iN n) 0);rw[<-hq]at HO;have hw:=ah hq;have hG:pre.length=m:=by rw[hq,HM.o,HN.o]; simp; omega
   have hN:=ah hG;have hr:m+8<1099511627775:=by have:=HM.o; omega
   clear hq hG e1 hk hI
   go_loopw [3,5] (fun o i wr=> ∃(j:Nat) (a c:_),j<=8/\i= .int .i64 (7-(j:Int))/\o= .slice a (m+j) c/\wr.ownsRow w.heap.size 5 1 (.slice a (m+j) c) (m+j) ((pre++(nR (n*8)).take j).map aY)/\Below w.heap.size w wr) (fun _ i _=>(intOf i+1).toNat)
   ·exact⟨0,a3,c3,by omega,rfl,rfl,by simpa using HO.o,HB.o⟩
   ·obtain⟨j,a5,c5,hj,rfl,rfl,ho,hb⟩:=hrel;have hd:=ah ho;have hp:=ah hb;have hf:=hb.size;clear ho hb hz;have hc:j=0\/j=1\/j=2\/j=3\/j=4\/j=5\/j=6\/j=7\/j=8:=by omega
    rcases hc with rfl | rfl | rfl | rfl | rfl | rfl | rfl | rfl | rfl
    ·skip
     rw[show(7-((0:Nat):Int))=7 from rfl];go_wp2_with (at_builtin; go_must (refine bO Tryz.appBytes rfl _ _ rfl w.heap.size (.slice a5 (m+0) c5) (m+0) ((pre++(nR (n*8)).take 0).map aY) rfl wr [Value.int .u8 ((n:Int)*8/72057594037927936)] _ rfl rfl (by simp[Value.oneCell']) hd.o (by omega) hf ?_); intro v4 w4 ha he _ _; obtain⟨a4,c4,rfl,-,-⟩:=aH ha)
     go_roundw
     ·refine⟨0+1,a4,c4,by omega,by simp,rfl, ?_,bZ hp.o hd.o he (ai _) hf⟩;rw[show(nR (n*8)).take (0+1)=(nR (n*8)).take 0++[UInt8.ofNat (n*8/2^56)]from rfl,<-bp,aL,fa,<-lx (x:=n*8/2^56) (y:=((n:Int)*8/72057594037927936)) (by omega)];exact ha
     simp[intOf]
    ·skip
     rw[show(7-((1:Nat):Int))=6 from rfl];go_wp2_with (at_builtin; go_must (refine bO Tryz.appBytes rfl _ _ rfl w.heap.size (.slice a5 (m+1) c5) (m+1) ((pre++(nR (n*8)).take 1).map aY) rfl wr [Value.int .u8 ((n:Int)*8/281474976710656)] _ rfl rfl (by simp[Value.oneCell']) hd.o (by omega) hf ?_); intro v4 w4 ha he _ _; obtain⟨a4,c4,rfl,-,-⟩:=aH ha)
     go_roundw
     ·refine⟨1+1,a4,c4,by omega,by simp,rfl, ?_,bZ hp.o hd.o he (ai _) hf⟩;rw[show(nR (n*8)).take (1+1)=(nR (n*8)).take 1++[UInt8.ofNat (n*8/2^48)]from rfl,<-bp,aL,fa,<-lx (x:=n*8/2^48) (y:=((n:Int)*8/281474976710656)) (by omega)];exact ha
     simp[intOf]
    ·skip
     rw[show(7-((2:Nat):Int))=5 from rfl];go_wp2_with (at_builtin; go_must (refine bO Tryz.appBytes rfl _ _ rfl w.heap.size (.slice a5 (m+2) c5) (m+2) ((pre++(nR (n*8)).take 2).map aY) rfl wr [Value.int .u8 ((n:Int)*8/1099511627776)] _ rfl rfl (by simp[Value.oneCell']) hd.o (by omega) hf ?_); intro v4 w4 ha he _ _; obtain⟨a4,c4,rfl,-,-⟩:=aH ha)
     go_roundw
     ·refine⟨2+1,a4,c4,by omega,by simp,rfl, ?_,bZ hp.o hd.o he (ai _) hf⟩;rw[show(nR (n*8)).take (2+1)=(nR (n*8)).take 2++[UInt8.ofNat (n*8/2^40)]from rfl,<-bp,aL,fa,<-lx (x:=n*8/2^40) (y:=((n:Int)*8/1099511627776)) (by omega)];exact ha
     simp[intOf]
    ·skip
     rw[show(7-((3:Nat):Int))=4 from rfl];go_wp2_with (at_builtin; go_must (refine bO Tryz.appBytes rfl _ _ rfl w.heap.size (.slice a5 (m+3) c5) (m+3) ((pre++(nR (n*8)).take 3).map aY) rfl wr [Value.int .u8 ((n:Int)*8/4294967296%256)] _ rfl rfl (by simp[Value.oneCell']) hd.o (by omega) hf ?_); intro v4 w4 ha he _ _; obtain⟨a4,c4,rfl,-,-⟩:=aH ha)
     go_roundw
     ·refine⟨3+1,a4,c4,by omega,by simp,rfl, ?_,bZ hp.o hd.o he (ai _) hf⟩;rw[show(nR (n*8)).take (3+1)=(nR (n*8)).take 3++[UInt8.ofNat (n*8/2^32)]from rfl,<-bp,aL,fa,<-lx (x:=n*8/2^32) (y:=((n:Int)*8/4294967296%256)) (by omega)];exact ha
     simp[intOf]
    ·skip
     rw[show(7-((4:Nat):Int))=3 from rfl];go_wp2_with (at_builtin; go_must (refine bO Tryz.appBytes rfl _ _ rfl w.heap.size (.slice a5 (m+4) c5) (m+4) ((pre++(nR (n*8)).take 4).map aY) rfl wr [Value.int .u8 ((n:Int)*8/16777216%256)] _ rfl rfl (by simp[Value.oneCell']) hd.o (by omega) hf ?_); intro v4 w4 ha he _ _; obtain⟨a4,c4,rfl,-,-⟩:=aH ha)
     go_roundw
     ·refine⟨4+1,a4,c4,by omega,by simp,rfl, ?_,bZ hp.o hd.o he (ai _) hf⟩;rw[show(nR (n*8)).take (4+1)=(nR (n*8)).take 4++[UInt8.ofNat (n*8/2^24)]from rfl,<-bp,aL,fa,<-lx (x:=n*8/2^24) (y:=((n:Int)*8/16777216%256)) (by omega)];exact ha
     simp[intOf]
    ·skip
     rw[show(7-((5:Nat):Int))=2 from rfl];go_wp2_with (at_builtin; go_must (refine bO Tryz.appBytes rfl _ _ rfl w.heap.size (.slice a5 (m+5) c5) (m+5) ((pre++(nR (n*8)).take 5).map aY) rfl wr [Value.int .u8 ((n:Int)*8/65536%256)] _ rfl rfl (by simp[Value.oneCell']) hd.o (by omega) hf ?_); intro v4 w4 ha he _ _; obtain⟨a4,c4,rfl,-,-⟩:=aH ha)
     go_roundw
     ·refine⟨5+1,a4,c4,by omega,by simp,rfl, ?_,bZ hp.o hd.o he (ai _) hf⟩;rw[show(nR (n*8)).take (5+1)=(nR (n*8)).take 5++[UInt8.ofNat (n*8/2^16)]from rfl,<-bp,aL,fa,<-lx (x:=n*8/2^16) (y:=((n:Int)*8/65536%256)) (by omega)];exact ha
     simp[intOf]
    ·skip
     rw[show(7-((6:Nat):Int))=1 from rfl];go_wp2_with (at_builtin; go_must (refine bO Tryz.appBytes rfl _ _ rfl w.heap.size (.slice a5 (m+6) c5) (m+6) ((pre++(nR (n*8)).take 6).map aY) rfl wr [Value.int .u8 ((n:Int)*8/256%256)] _ rfl rfl (by simp[Value.oneCell']) hd.o (by omega) hf ?_); intro v4 w4 ha he _ _; obtain⟨a4,c4,rfl,-,-⟩:=aH ha)
     go_roundw
     ·refine⟨6+1,a4,c4,by omega,by simp,rfl, ?_,bZ hp.o hd.o he (ai _) hf⟩;rw[show(nR (n*8)).take (6+1)=(nR (n*8)).take 6++[UInt8.ofNat (n*8/2^8)]from rfl,<-bp,aL,fa,<-lx (x:=n*8/2^8) (y:=((n:Int)*8/256%256)) (by omega)];exact ha
     simp[intOf]
    ·skip
     rw[show(7-((7:Nat):Int))=0 from rfl];go_wp2_with (at_builtin; go_must (refine bO Tryz.appBytes rfl _ _ rfl w.heap.size (.slice a5 (m+7) c5) (m+7) ((pre++(nR (n*8)).take 7).map aY) rfl wr [Value.int .u8 ((n:Int)*8%256)] _ rfl rfl (by simp[Value.oneCell']) hd.o (by omega) hf ?_); intro v4 w4 ha he _ _; obtain⟨a4,c4,rfl,-,-⟩:=aH ha)
     go_roundw
     ·refine⟨7+1,a4,c4,by omega,by simp,rfl, ?_,bZ hp.o hd.o he (ai _) hf⟩;rw[show(nR (n*8)).take (7+1)=(nR (n*8)).take 7++[UInt8.ofNat (n*8)]from rfl,<-bp,aL,fa,<-lx (x:=n*8) (y:=((n:Int)*8%256)) (by omega)];exact ha
     simp[intOf]
    ·rw[show(7-((8:Nat):Int))= -1 from rfl];have hD:=ah (show data++pF n=pre++nR (n*8) by
      rw[hw.o];unfold pF;rw[eH (by omega)]
      simp)
     have hC:=ah (show m+8=(data++pF n).length by rw[hD.o,ag,hN.o]; rfl);go_wp2_with fail;go_ret;refine⟨a5,c5,by rw[hC.o]; rfl, ?_,hp.o⟩;have h:=hd.o;rw[show(nR (n*8)).take 8=nR (n*8)from rfl,<-hD.o,hC.o]at h;exact h
  ·have e1:((m:Int)%64 != 56)=true:=by rw[bne_iff_ne]; omega
   have hx:k+1<=iN n:=by
    have:=HM.o
    rcases dK k (iN n)with h | h
    ·exact h
    ·exfalso
     have:k=iN n:=by omega
     unfold iN at this;omega
   have hr:m<1099511627775:=by have:=HM.o; omega
   go_wp2_with (at_builtin; go_must (refine bO Tryz.appBytes rfl _ _ rfl w.heap.size (.slice a3 m c3) m ((data++128::List.replicate k 0).map aY) rfl wr [Value.int .u8 0] _ rfl rfl (fy [0]) HO.o hr hz ?_); intro v4 w4 ha he _ _; obtain⟨a4,c4,rfl,-,-⟩:=aH ha)
   go_roundw
   case rel=>
    have hH:m+1=n+1+(k+1):=by rw[HM.o]; omega
    refine⟨k+1,a4,c4,hx,by rw[hH], ?_,bZ HB.o HO.o he (ai _) hz⟩;rw[<-hH,List.replicate_succ',<-aK,<-bp,aL];exact ha
   case measure=>
    have:=HM.o
    show iN n+n+1-(m+1)<iN n+n+1-m
    omega
end
section
def ki (x k:Nat):Nat:=(x*2^k%18446744073709551616) ||| (x/2^(64-k))
def pH :Nat->Nat->Nat
 | 0,x=>x
 | n+1,x=>ki (pH n x) 1
theorem mE {x k:Nat} (_hk:k<=64) (i:Nat):(ki x k).testBit i=((decide (i<64) && decide (k<=i) && x.testBit (i-k)) || x.testBit (64-k+i)):=by unfold ki;rw[Nat.testBit_or,show(18446744073709551616:Nat)=2^64 from rfl,Nat.testBit_mod_two_pow,Nat.testBit_mul_two_pow,Nat.testBit_div_two_pow,lZ i (64-k),Bool.and_assoc]
theorem nS {x:Nat} (hx:x<18446744073709551616) {i:Nat} (h:64<=i):x.testBit i=false:=
 Nat.testBit_lt_two_pow (aO hx (gM (by decide) h:2^64<=2^i))
theorem pG {x:Nat} (k:Nat) (hx:x<18446744073709551616):ki x k<18446744073709551616:=
 Nat.or_lt_two_pow (n:=64) (cX _ (by decide)) (dJ (eX _ _) hx)
theorem vW : ∀(n:Nat) {x:Nat},x<18446744073709551616->pH n x<18446744073709551616
 | 0,_,h=>h
 | n+1,_,h=>pG 1 (vW n h)
theorem xR {x:Nat} (hx:x<18446744073709551616):ki x 0=x:=by unfold ki;rw[show(2:Nat)^(64-0)=18446744073709551616 by decide,Nat.div_eq_of_lt hx,Nat.or_zero,Nat.pow_zero,jI,eH hx]
theorem Gh {x k:Nat} (hx:x<18446744073709551616) (hk:k<64):ki (ki x k) 1=ki x (k+1):=by
 apply Nat.eq_of_testBit_eq
 intro i;rw[mE (by decide),mE (by omega),mE (by omega),mE (by omega)]
 by_cases ha:i<64
 ·by_cases h0:i=0
  ·subst h0;have e1:x.testBit (64-k+(64-1+0))=false:=nS hx (by omega);have e2:64-1+0-k=64-(k+1)+0:=by omega
   have e3:x.testBit (64-0+0-k+64)=false:=nS hx (by omega);simp only[e1,e2];simp;omega
  ·have e1:x.testBit (64-k+(64-1+i))=false:=nS hx (by omega);have e2:(64-1+i<64)=False:=by simp; omega
   have e3:i-1-k=i-(k+1):=by omega
   have e4:64-k+(i-1)=64-(k+1)+i:=by omega
   have e5:(decide (k<=i-1))=decide (k+1<=i):=by rw[ji]; omega
   have e6:decide (1<=i)=true:=by simp; omega
   have e7:decide (i-1<64)=true:=by simp; omega
   have e8:decide (i<64)=true:=by simp; omega
   have e9:decide (64-1+i<64)=false:=by simp; omega
   simp only[e1,e3,e4,e5,e6,e7,e8,e9,gU,Bool.false_and,Bool.or_false]
 ·have e1:x.testBit (64-k+(64-1+i))=false:=nS hx (by omega);have e2:x.testBit (64-(k+1)+i)=false:=nS hx (by omega);have e8:decide (i<64)=false:=by simp; omega
  have e9:decide (64-1+i<64)=false:=by simp; omega
  simp only[e1,e2,e8,e9,Bool.false_and,Bool.or_false]
theorem vV {x:Nat} (hx:x<18446744073709551616): ∀ {k:Nat},k<=64->pH k x=ki x k
 | 0,_=>(xR hx).symm
 | k+1,h=>by rw[pH,vV hx (k:=k) (by omega),Gh hx (by omega)]
theorem KY {x:Nat} (hx:x<18446744073709551616):pH 64 x=x:=by rw[vV hx (by decide)];unfold ki;rw[show(2:Nat)^64=18446744073709551616 by decide,Nat.mul_mod_left,Nat.zero_or];simp
theorem Pt {x y:Nat} (hx:x<18446744073709551616) (hy:y<18446744073709551616) {k:Nat} (hk:k<=64):ki (x^^^y) k=ki x k^^^ki y k:=by
 apply Nat.eq_of_testBit_eq
 intro i;rw[Nat.testBit_xor,mE hk,mE hk,mE hk,Nat.testBit_xor,Nat.testBit_xor]
 by_cases h:i<64/\k<=i
 ·have e:decide (i<64)=true/\decide (k<=i)=true:=by simpa using h
  rw[e.1,e.2,nS hx (i:=64-k+i) (by omega),nS hy (i:=64-k+i) (by omega)];simp
 ·have e:(decide (i<64) && decide (k<=i))=false:=by simp; omega
  rw[e]; simp
theorem rr {x y:Nat} (hx:x<18446744073709551616) (hy:y<18446744073709551616):x^^^y<18446744073709551616:=Nat.xor_lt_two_pow (n:=64) hx hy
def FL (z:Nat):Nat:=((z^^^(z/2^30))*13787848793156543929)%18446744073709551616
def Kk (z:Nat):Nat:=((z^^^(z/2^27))*10723151780598845931)%18446744073709551616
def Qj (z:Nat):Nat:=z^^^(z/2^31)
def tQ (seed i:Nat):Nat:=(seed+(i+1)*11400714819323198485%18446744073709551616)%18446744073709551616
def ut (seed i:Nat):Nat:=Qj (Kk (FL (tQ seed i)))
theorem rG (seed i:Nat):ut seed i<18446744073709551616:=by unfold ut Qj;have h:Kk (FL (tQ seed i))<18446744073709551616:=cX _ (by decide);exact rr h (dJ (eX _ _) h)
theorem Dd {M:List UInt8->Prop} (h0:M []) (h1: ∀l b,M l->M (l++[b])) (l:List UInt8):M l:=by
 have: ∀r:List UInt8,M r.reverse:=by
  intro r
  induction r with
  | nil=>exact h0
  | cons b r ih=>rw[List.reverse_cons]; exact h1 _ _ ih
 have h:=this l.reverse;rw[List.reverse_reverse]at h; exact h
section
variable (T : Nat → Nat)
def kW (l:List UInt8):Nat:=l.foldl (fun s b=>ki s 1^^^T b.toNat) 0
theorem nZ (l:List UInt8) (b:UInt8):kW T (l++[b])=ki (kW T l) 1^^^T b.toNat:=by unfold kW; rw[eR,ez,List.foldl_nil]
theorem zN :kW T []=0:=rfl
theorem JQ (x:UInt8):kW T [x]=T x.toNat:=by unfold kW; rw[ez,List.foldl_nil,show ki 0 1=0 by decide,Nat.zero_xor]
def sI :List UInt8->Nat
 | []=>0
 | b::l=>pH l.length (T b.toNat)^^^sI l
variable {T}
theorem Dc (hT: ∀i,T i<18446744073709551616) (l:List UInt8):kW T l<18446744073709551616:=by
 refine Dd (M:=fun l=>kW T l<18446744073709551616) ?_ (fun l b ih=> ?_) l
 ·show kW T []<_
  rw[zN]; decide
 ·show kW T (l++[b])<_
  rw[nZ]; exact rr (pG 1 ih) (hT _)
theorem xe (hT: ∀i,T i<18446744073709551616) (x:UInt8) (l:List UInt8):kW T (x::l)=pH l.length (T x.toNat)^^^kW T l:=by
 refine Dd (M:=fun l=>kW T (x::l)=pH l.length (T x.toNat)^^^kW T l) ?_ (fun l b ih=> ?_) l
 ·show kW T [x]=pH 0 (T x.toNat)^^^kW T []
  rw[JQ,zN,Nat.xor_zero,pH]
 ·show kW T (x::(l++[b]))=pH (l++[b]).length (T x.toNat)^^^kW T (l++[b])
  rw[<-aK,nZ,nZ,ag,bB,pH,ih,Pt (vW _ (hT _)) (Dc hT _) (by decide),Nat.xor_assoc]
theorem Fs (hT: ∀i,T i<18446744073709551616) (x b:UInt8) (l:List UInt8) (h:l.length+1<=64):(ki (kW T (x::l)) 1^^^T b.toNat)^^^ki (T x.toNat) (l.length+1)=kW T (l++[b]):=by rw[<-nZ,aK,xe hT,ag,bB,<-vV (hT _) h,Nat.xor_comm (pH _ _),Nat.xor_assoc,Nat.xor_self,Nat.xor_zero]
theorem zM (hT: ∀i,T i<18446744073709551616): ∀l,sI T l=kW T l
 | []=>rfl
 | b::l=>by rw[sI,zM hT l,xe hT]
end
def qr (seed:Nat) (l:List UInt8):Nat:=kW (ut seed) l
theorem xd (seed:Nat) (l:List UInt8):qr seed l<18446744073709551616:=Dc (rG seed) l
def ox (W:Nat) (d:List UInt8):List UInt8:=d.drop (d.length-W)
theorem oy (W:Nat) (d:List UInt8):(ox W d).length=min W d.length:=by unfold ox; rw[bz]; omega
theorem AR {W:Nat} {d:List UInt8} (h:d.length<W) (b:UInt8):ox W (d++[b])=ox W d++[b]:=by unfold ox;rw[ag,bB,show d.length+1-W=0 by omega,show d.length-W=0 by omega]; rfl
theorem AU {W:Nat} {d:List UInt8} (hW:1<=W) (h:W<=d.length) (b:UInt8):ox W (d++[b])=(ox W d).tail++[b]:=by
 unfold ox;rw[ag,bB,List.tail_drop,fA (by omega)]
 congr 2; omega
def IA (seed W bits:Nat) (d:List UInt8):Bool:=decide (W<=d.length) && decide (bits<=Lib.ctz 64 (qr seed (ox W d)))
section
variable (mk : Nat → Bool) (mn mx len : Nat)
def qt :Nat->Int
 | 0=> -(mn:Int)
 | p+1=>if mk (p+1)then((p+1:Nat):Int)else qt p
def kI :Nat->Bool
 | 0=>false
 | p+1=>mk (p+1) && decide ((mn:Int)<=((p+1:Nat):Int)-qt mk mn p)
def mg (l:List Nat):Nat:=l.getLast?.getD 0
def mU (s q:Nat):Bool:=kI mk mn q || decide (s+mx<=q) || decide (len<=q)
def ld :Nat->List Nat
 | 0=>[]
 | p+1=>if mU mk mn mx len (mg (ld p)) (p+1)then ld p++[p+1]else ld p
def qI :List Nat:=ld mk mn mx len len
end
section
variable {mk : Nat → Bool} {mn mx len : Nat}
theorem mB (l:List Nat) (p:Nat):mg (l++[p])=p:=by simp[mg]
theorem sK (p:Nat):(qt mk mn p= -(mn:Int)/\ ∀q,1<=q->q<=p->mk q=false)\/ ∃L,qt mk mn p=((L:Nat):Int)/\1<=L/\L<=p/\mk L=true/\ ∀q,L<q->q<=p->mk q=false:=by
 induction p with
 | zero=>exact .inl ⟨rfl,fun q h1 h2=>by omega⟩
 | succ p ih=>
  rw[qt]
  by_cases h:mk (p+1)=true
  ·rw[if_pos h];exact .inr ⟨p+1,rfl,by omega,by omega,h,fun q h1 h2=>by omega⟩
  ·rw[if_neg h];have h0:mk (p+1)=false:=by simpa using h
   rcases ih with⟨h1,h2⟩ | ⟨L,h1,h2,h3,h4,h5⟩
   ·exact .inl ⟨h1,fun q ha hb=>by
     by_cases e:q=p+1
     ·rw[e]; exact h0
     ·exact h2 q ha (by omega)⟩
   ·exact .inr ⟨L,h1,h2,by omega,h4,fun q ha hb=>by
     by_cases e:q=p+1
     ·rw[e]; exact h0
     ·exact h5 q ha (by omega)⟩
theorem KF {p:Nat} :kI mk mn p=true<->1<=p/\mk p=true/\ ∀q,1<=q->q<p->p<q+mn->mk q=false:=by
 cases p with
 | zero=>simp[kI]
 | succ p=>
  rw[kI,aF,aJ]
  constructor
  ·rintro⟨h1,h2⟩;refine⟨by omega,h1,fun q ha hb hc=> ?_⟩
   rcases sK (mk:=mk) (mn:=mn) p with⟨h3,h4⟩ | ⟨L,h3,h4,h5,h6,h7⟩
   ·exact h4 q ha (by omega)
   ·rw[h3]at h2;exact h7 q (by omega) (by omega)
  ·rintro⟨_,h1,h2⟩;refine⟨h1, ?_⟩
   rcases sK (mk:=mk) (mn:=mn) p with⟨h3,_⟩ | ⟨L,h3,h4,h5,h6,_⟩
   ·rw[h3]; omega
   ·rw[h3]
    by_cases h8:p+1<L+mn
    ·have:=h2 L h4 (by omega) h8;rw[h6]at this; cases this
    ·omega
def Bh (mk:Nat->Bool) (mn mx len s q:Nat):Prop:=s<q/\q<=len/\mU mk mn mx len s q=true/\ ∀r,s<r->r<q->mU mk mn mx len s r=false
inductive yy (mk : Nat → Bool) (mn mx len : Nat) : List Nat → Nat → Prop
 | nil:yy mk mn mx len [] 0
 | snoc {l:List Nat} {s q:Nat} :yy mk mn mx len l s->Bh mk mn mx len s q->yy mk mn mx len (l++[q]) q
inductive uK (mk : Nat → Bool) (mn mx len : Nat) : Nat → List Nat → Prop
 | nil:uK mk mn mx len len []
 | cons {s q:Nat} {l:List Nat} :Bh mk mn mx len s q->uK mk mn mx len q l->uK mk mn mx len s (q::l)
theorem Bh.det {s q q':Nat} (h:Bh mk mn mx len s q) (h':Bh mk mn mx len s q'):q=q':=by
 rcases Nat.lt_trichotomy q q' with e | e | e
 ·have h1:=h'.2.2.2 q h.1 e;rw[h.2.2.1]at h1; cases h1
 ·exact e
 ·have h1:=h.2.2.2 q' h'.1 e;rw[h'.2.2.1]at h1; cases h1
theorem uK.det {s:Nat} {l:List Nat} (h:uK mk mn mx len s l): ∀ {l'},uK mk mn mx len s l'->l=l':=by
 induction h with
 | nil=>
  intro l' h'
  cases h' with
  | nil=>rfl
  | cons h1 _=>exact absurd h1.1 (by have:=h1.2.1; omega)
 | cons h1 _ ih=>
  intro l' h'
  cases h' with
  | nil=>exact absurd h1.1 (by have:=h1.2.1; omega)
  | cons h3 h4=>
   cases h1.det h3
   rw[ih h4]
theorem yy.chain {l:List Nat} {s:Nat} (h:yy mk mn mx len l s): ∀ {m},uK mk mn mx len s m->uK mk mn mx len 0 (l++m):=by
 induction h with
 | nil=>intro m hm; exact hm
 | snoc _ h2 ih=>
  intro m hm;rw[bp];exact ih (.cons h2 hm)
theorem yy.det {l l':List Nat} (h:yy mk mn mx len l len) (h':yy mk mn mx len l' len):l=l':=by have h1:=h.chain .nil;have h2:=h'.chain .nil;rw[ci]at h1 h2;exact h1.det h2
theorem yy.last {l:List Nat} {s:Nat} (h:yy mk mn mx len l s):mg l=s:=by
 cases h with
 | nil=>rfl
 | snoc _ _=>exact mB _ _
theorem yy.le {l:List Nat} {s:Nat} (h:yy mk mn mx len l s):s<=len:=by
 cases h with
 | nil=>omega
 | snoc _ h=>exact h.2.1
theorem wT : ∀ {p:Nat},p<=len-> ∃s,yy mk mn mx len (ld mk mn mx len p) s/\s<=p/\ ∀r,s<r->r<=p->mU mk mn mx len s r=false
 | 0,_=>⟨0, .nil,by omega,fun r h1 h2=>by omega⟩
 | p+1,hp=>by
  obtain⟨s,h1,h2,h3⟩:=wT (p:=p) (by omega);rw[ld,h1.last]
  by_cases h:mU mk mn mx len s (p+1)=true
  ·rw[if_pos h];exact⟨p+1,h1.snoc ⟨by omega,hp,h,fun r hr1 hr2=>h3 r hr1 (by omega)⟩,by omega,fun r hr1 hr2=>by omega⟩
  ·rw[if_neg h];exact⟨s,h1,by omega,fun r hr1 hr2=>by
    by_cases e:r=p+1
    ·rw[e]; simpa using h
    ·exact h3 r hr1 (by omega)⟩
theorem pq :yy mk mn mx len (qI mk mn mx len) len:=by
 obtain⟨s,h1,h2,h3⟩:=wT (mk:=mk) (mn:=mn) (mx:=mx) (len:=len) (ai len)
 by_cases e:s=len
 ·rw[e]at h1; exact h1
 ·have:=h3 len (by omega) (by omega);simp[mU]at this
theorem Bh.reach {s q:Nat} (hm:1<=mx) (h:Bh mk mn mx len s q):q<=s+mx:=by
 by_cases h1:s+mx<q
 ·have h2:=h.2.2.2 (s+mx) (by omega) h1;simp[mU]at h2
 ·omega
theorem NN {s e:Nat} (hm:1<=mx) (hs:s<e) (he:e<=len) (hst:kI mk mn e=true\/e=len) (hno: ∀r,s<r->r<e->kI mk mn r=false):Bh mk mn mx len s (min (s+mx) e):=by
 refine⟨by omega,by omega, ?_,fun r h1 h2=> ?_⟩
 ·unfold mU
  by_cases h:s+mx<=e
  ·rw[fx h]; simp
  ·rw[Nat.min_eq_right (by omega)]
   rcases hst with h' | h'
   ·rw[h']; rfl
   ·rw[h']; simp
 ·unfold mU;rw[hno r h1 (by omega)]
  simp; omega
def ja (data:List UInt8) (s e:Nat):List UInt8:=(data.drop s).take (e-s)
def jO (data:List UInt8):Nat->List Nat->List (List UInt8)
 | _,[]=>[]
 | s,e::l=>ja data s e::jO data e l
theorem lT (data:List UInt8): ∀(l:List Nat) (s e:Nat),jO data s (l++[e])=jO data s l++[ja data (l.getLast?.getD s) e]
 | [],_,_=>rfl
 | x::l,s,e=>by
  rw[aK,jO,lT data l x e,jO,aK]
  congr 3
  rw[List.getLast?_cons]; rfl
theorem DV {data:List UInt8} {l:List Nat} {s:Nat} (h:yy mk mn mx data.length l s):(jO data 0 l).flatten=data.take s:=by
 induction h with
 | nil=>simp[jO]
 | snoc h1 h2 ih=>
  rename_i l s q;rw[lT,List.flatten_append,ih];have:=h1.last;unfold mg at this;rw[this,iI,List.flatten_nil,ci];unfold ja;have h3:=h2.1;rw[show q=s+(q-s) by omega,List.take_add,show s+(q-s)-s=q-s by omega]
theorem xK {data:List UInt8} :(jO data 0 (qI mk mn mx data.length)).flatten=data:=by rw[DV pq,dw]
theorem As {data:List UInt8} {l:List Nat} {s:Nat} (hm:1<=mx) (h:yy mk mn mx data.length l s): ∀c∈jO data 0 l,1<=c.length/\c.length<=mx:=by
 induction h with
 | nil=>simp[jO]
 | snoc h1 h2 ih=>
  rename_i l s q;rw[lT];intro c hc
  rcases aN.1 hc with hc | hc
  ·exact ih c hc
  ·rw[aE.1 hc];have:=h1.last;unfold mg at this;rw[this];unfold ja;rw[bn,bz];have h3:=h2.reach hm;have h4:=h2.1;have h5:=h2.2.1;omega
end
open Go Go.RowKit
theorem AB {x s:Nat} (hx:x<18446744073709551616):bits .or .u64 ((x:Int)*2^s%18446744073709551616) ((x:Int)/2^(64-s))=((ki x s:Nat):Int):=by
 have e1:((x:Int)*2^s%18446744073709551616)=((x*2^s%18446744073709551616:Nat):Int):=by simp
 have e2:((x:Int)/2^(64-s))=((x/2^(64-s):Nat):Int):=by simp
 rw[e1,e2,u64_or_nat _ _ (cX _ (by decide)) (dJ (eX _ _) hx)]
 rfl
theorem AA (x k:Nat) (w:World) (hx:x<18446744073709551616) (hk:k<=64):Calls Tryz.prog 211 #[.int .u64 (x:Int), .int .i64 (k:Int)] w fun e w'=>e= .returned (.int .u64 ((ki x k:Nat):Int))/\w=w':=by
 obtain⟨s,hs⟩:=bI (k%64);have h1:bits BinOp.and IntKind.u64 (k:Int) 63=(s:Int):=by rw[show(63:Int)=((63:Nat):Int)from rfl,u64_and_nat _ _ (by omega) (by decide),nat_mask6,hs]
 have hc:s<64:=by omega
 have hb:min s 64=s:=by omega
 have ha:min (64-s) 64=64-s:=by omega
 have HR:=ah (show ki x s=ki x k by
  by_cases h:k=64
  ·have e:s=0:=by rw[hs,h]
   rw[e,h,xR hx,<-vV hx (ai 64),KY hx]
  ·rw[show s=k by omega])
 clear hs
 go_enter Tryz.func211,Tryz.ntmps211
 go_wp2_with fail;go_ret;refine⟨?_,rfl⟩;rw[<-HR.o,<-AB hx,cV]
 rfl
theorem Ql (a c:Nat):((a:Int)*(c:Int))%18446744073709551616=((a*c%18446744073709551616:Nat):Int):=by simp
theorem yw (z d:Nat) (hz:z<18446744073709551616):bits BinOp.xor IntKind.u64 (z:Int) ((z:Int)/(d:Int))=((z^^^(z/d):Nat):Int):=by rw[show((z:Int)/(d:Int))=((z/d:Nat):Int) by simp,u64_xor_nat _ _ hz (dJ (eX _ _) hz)]
theorem Kj (z:Nat) (hz:z<18446744073709551616):(bits BinOp.xor IntKind.u64 (z:Int) ((z:Int)/1073741824)*13787848793156543929)%18446744073709551616=((FL z:Nat):Int):=by have h:=yw z 1073741824 hz;rw[show((1073741824:Nat):Int)=1073741824 from rfl]at h;rw[h];exact Ql (z^^^(z/1073741824)) 13787848793156543929
theorem Kl (z:Nat) (hz:z<18446744073709551616):(bits BinOp.xor IntKind.u64 (z:Int) ((z:Int)/134217728)*10723151780598845931)%18446744073709551616=((Kk z:Nat):Int):=by have h:=yw z 134217728 hz;rw[show((134217728:Nat):Int)=134217728 from rfl]at h;rw[h];exact Ql (z^^^(z/134217728)) 10723151780598845931
theorem Ai (z:Nat) (hz:z<18446744073709551616):bits BinOp.xor IntKind.u64 (z:Int) ((z:Int)/2147483648)=((Qj z:Nat):Int):=by have h:=yw z 2147483648 hz;rw[show((2147483648:Nat):Int)=2147483648 from rfl]at h;exact h
theorem AE (s k:Nat):IntKind.u64.wrap ((s:Int)+IntKind.u64.wrap (((k:Int)+1)*11400714819323198485))=((tQ s k:Nat):Int):=by rw[cV,cV,show((k:Int)+1)=((k+1:Nat):Int) by omega,show(11400714819323198485:Int)=((11400714819323198485:Nat):Int)from rfl,Ql];unfold tQ;omega
theorem Ag (z:Nat) (hz:z<18446744073709551616):IntKind.u64.wrap (bits BinOp.xor IntKind.u64 (z:Int) ((z:Int)/1073741824)*13787848793156543929)=((FL z:Nat):Int):=by rw[cV,Kj z hz]
theorem Ah (z:Nat) (hz:z<18446744073709551616):IntKind.u64.wrap (bits BinOp.xor IntKind.u64 (z:Int) ((z:Int)/134217728)*10723151780598845931)=((Kk z:Nat):Int):=by rw[cV,Kl z hz]
theorem IB (z:Nat):FL z<18446744073709551616:=cX _ (by decide)
theorem IC (z:Nat):Kk z<18446744073709551616:=cX _ (by decide)
theorem Ep (s i:Nat):tQ s i<18446744073709551616:=cX _ (by decide)
def Ls (x:Nat):Value:= .int .u64 (x:Int)
structure oT (w : World) (seed k : Nat) (wr : World) : Prop where
 box:wr.heap[w.heap.size]? =some (.cells ((List.range k).map (fun i=>Ls (ut seed i))++List.replicate (256-k) (Ls 0)).toArray 43 (0,0))
 below:Below w.heap.size w wr
theorem oT.here {w wr:World} {seed k:Nat} (h:oT w seed k wr) (hk:k<256):wr.cell? ⟨w.heap.size,k,none⟩=some (.int .u64 0):=by
 rw[br wr _ _ _ _ _ h.box,aC,bC (by simp)];rw[aw,List.length_range,eV,show 256-k=(256-(k+1))+1 by omega,ii]
 rfl
theorem oT.put {w wr:World} {seed k:Nat} (h:oT w seed k wr) (hk:k<256):oT w seed (k+1) (wr.setCell ⟨w.heap.size,k,none⟩ (Ls (ut seed k))):=by
 refine⟨?_,h.below.trans ⟨rfl,rfl,rfl,by simp[World.setCell],fun j hj=>heap_setCell_other wr _ j _ (by show j≠w.heap.size; omega)⟩⟩;rw[gT wr _ _ _ _ _ h.box]
 congr 2
 rw[aW,fz _ _ (by simp),aw,List.length_range,eV,show 256-k=(256-(k+1))+1 by omega,ii,lY,aL];simp
theorem Pa (w:World):(Instr.makeSlice 262 (.int .i64 256) (.int .i64 256)).run Tryz.prog w= .ok (.slice (some ⟨w.heap.size,0,none⟩) 256 256) (w.alloc (.cells (List.replicate 256 (Ls 0)).toArray 43)):=by kernel_rfl
theorem Lp (seed:Nat) (w:World):Calls Tryz.prog 210 #[.int .u64 (seed:Int)] w fun e w'=>e= .returned (.slice (some ⟨w.heap.size,0,none⟩) 256 256)/\oT w seed 256 w':=by
 have hc:=Pa
 go_enter Tryz.func210,Tryz.ntmps210
 go_wp2_with fail;have hb:=ah (show oT w seed 0 (w.alloc (.cells (List.replicate 256 (Ls 0)).toArray 43))from⟨by rw[aG]; rfl,eW⟩);clear hc
 go_loopw [9] (fun i wr=> ∃k:Nat,k<=256/\i= .int .i64 (k:Int)/\oT w seed k wr) (fun i _=>256-(intOf i).toNat)
 ·exact⟨0,by omega,rfl,hb.o⟩
 ·obtain⟨k,hk,rfl,ht⟩:=hrel;have HT:=ah ht;have hz:=ht.below.size;clear ht
  by_cases ha:k<256
  ·have ch:=HT.o.here ha;have cf:=dO wr _ k _ _ HT.o.box;have hd:(k:Int)<256:=by omega
   go_wp2_with fail
   go_roundw
   ·rw[AE,Ag _ (Ep _ _),Ah _ (IB _),Ai _ (IC _)];exact⟨k+1,by omega,by simp,HT.o.put ha⟩
   simp[intOf]; omega
  ·obtain rfl:k=256:=by omega
   go_wp2_with fail;go_ret;exact⟨rfl,HT.o⟩
def uE (seed:Nat):List Value:=(List.range 256).map fun i=>Ls (ut seed i)
theorem tT (seed:Nat):(uE seed).length=256:=by simp[uE]
def lq (seed:Nat) (ring:List UInt8) (W s n h:Nat):List Value:=uE seed++(ring.map aY++[.int .i64 (W:Int), .int .i64 (s:Int), .int .i64 (n:Int), .int .u64 (h:Int)])
theorem oT.full {w wr:World} {seed:Nat} (h:oT w seed 256 wr):wr.heap[w.heap.size]? =some (.cells (uE seed).toArray 43 (0,0)):=by rw[h.box,eV,List.replicate_zero,ci]; rfl
def ru (W:Nat):List Value:=List.replicate 256 (.int .u64 0)++((List.replicate 64 (0:UInt8)).map aY++[.int .i64 (W:Int), .int .i64 0, .int .i64 0, .int .u64 0])
theorem Ek (seed W:Nat) (w:World) (hW:1<=W) (hW2:W<=64):Calls Tryz.prog 199 #[.int .u64 (seed:Int), .int .i64 (W:Int)] w fun e w'=> ∃rb,e= .returned (.pointer (some ⟨rb,0,none⟩))/\w.heap.size<=rb/\
  w'.heap[rb]? =some (.cells (lq seed (List.replicate 64 0) W 0 0 0).toArray 237 (0,0))/\Below w.heap.size w w':=by
 have hg:max (W:Int) 1=(W:Int):=by omega
 have hh:min (W:Int) 64=(W:Int):=by omega
 go_enter Tryz.func199,Tryz.ntmps199
 go_wp2_with fail;obtain⟨w1,ha⟩:=bI (w.alloc (.cells (Tryz.zeroCells237.setIfInBounds 320 (.int .i64 (W:Int))) 237));rw[<-ha];have hq:=ah (show w1.heap[w.heap.size]? =some (.cells (ru W).toArray 237 (0,0)) by rw[ha,aG,show Tryz.zeroCells237.setIfInBounds 320 (.int .i64 (W:Int))=(ru W).toArray by kernel_rfl]);have hl:=ah (show Below w.heap.size w w1 by rw[ha]; exact eW)
 clear ha hg hh;refine fd (fun _=>True) (by kernel_rfl) ?_;obtain⟨V,hV⟩:=bI w1.drew;rw[<-hV];have hf:=ah (show V.heap[w.heap.size]? =some (.cells (ru W).toArray 237 (0,0)) by rw[hV]; exact hq.o);have ho:=ah (show Below w.heap.size w V by rw[hV]; exact hl.o.trans (ak _ _).drew);clear hV
 iterate 5 (refine cI rfl trivial (by intro w' ha; go_simp; rfl) ?_; simp only[bN])
 refine cC 5 rfl (fun K hK=> ?_);go_wp2_with fail;refine(Lp seed V).mono ?_;rintro e w2 ⟨rfl,ht⟩;have hp:=ah ht.full;have hm:=ah (aj ho.o ht.below);have hk:=ah ((ht.below.block _ (am hf.o)).trans hf.o);have hs:=ah (am hf.o);clear ht;go_wp2_with fail
 try refine⟨trivial, ?_⟩
 refine cC 6 rfl (fun K hK=> ?_);have he:=ah (show ∀j v,(uE seed)[j]? =some v->w2.cell? ((⟨V.heap.size,0,none⟩:Addr).add j)=some v from fun j v hj=>by rw[jV,bT,br w2 _ _ _ _ _ hp.o,aC]; exact hj);have hc:=ah (show 0+(uE seed).length<=(ru W).toArray.size by rw[tT,bS]; simp[ru])
 have hd:=ah (show ∀v∈uE seed,v.oneCell'=true from fun v hv=>by obtain⟨x,_,rfl⟩:=aP.1 hv; rfl);go_wp2_with (refine wpList_copy_own rfl _ _ 262 262 rfl 43 Tryz.underlying262 (by kernel_rfl) w.heap.size 0 256 256 ⟨V.heap.size,0,none⟩ 256 256 rfl rfl (ru W).toArray 237 hk.o (uE seed) rfl he.o hc.o hd.o ?_);simp only[bN];obtain⟨w3,hb⟩:=bI (w2.setRow w.heap.size (List.take 0 (ru W)++(uE seed++List.drop (0+(uE seed).length) (ru W))).toArray)
 have hr:=ah (show w3.heap[w.heap.size]? =some (.cells (lq seed (List.replicate 64 0) W 0 0 0).toArray 237 (0,0)) by
  rw[hb,em w2 _ _ _ _ _ hk.o,aZ,aI,bT,tT]
  congr 3)
 have hn:=ah (show Below w.heap.size w w3 by rw[hb]; exact eE hm.o (ai _) _);refine⟨trivial, ?_⟩;refine cL (by kernel_rfl) ?_
 change Exit.then _ _ _ _ (w2.setRow w.heap.size (List.take 0 (ru W)++(uE seed++List.drop (0+(uE seed).length) (ru W))).toArray)
 rw[<-hb];clear hb;go_wp2_with fail;go_ret;exact⟨_,rfl,ai _,hr.o,hn.o⟩
structure fC where
 mn:Int
 mx:Int
 win:Int
 bits:Int
 seed:Nat
def fZ (c:fC):List Value:=[.int .i64 c.mn, .int .i64 c.mx, .int .i64 c.win, .int .i64 c.bits, .int .u64 (c.seed:Int)]
def kB (c:fC):Value:= .agg #[.int .i64 c.mn, .int .i64 c.mx, .int .i64 c.win, .int .i64 c.bits, .int .u64 (c.seed:Int)]
def jU (c:fC):Bool:=decide (1<=c.win) && decide (c.win<=64) && decide (c.win<=c.mn) && decide (c.mn<=c.mx) && decide (c.mx<=32768) && decide (0<=c.bits) && decide (c.bits<=20)
theorem lW {c:fC} :jU c=true<->1<=c.win/\c.win<=64/\c.win<=c.mn/\c.mn<=c.mx/\c.mx<=32768/\0<=c.bits/\c.bits<=20:=by unfold jU; simp[and_assoc]
theorem Bw (c:fC) (w:World):Calls Tryz.prog 70 #[kB c] w fun e w'=>e= .returned (.bool (jU c))/\Below w.heap.size w w':=by
 unfold kB
 go_enter Tryz.func70,Tryz.ntmps70
 go_wp2_with fail
 all_goals (go_ret; refine⟨bX ?_,eW⟩; rw[dq,lW]; simp; try omega)
theorem Mx {place:Nat->Option (Nat×Nat)} {cells:Array Value} {i off:Nat} {v:Value} {rest:List (Nat×Value)} (hp:place i=some (off,1)) (hv:v.cells= #[v]) (hf:off<cells.size):
  Instr.fill place cells ((i,v)::rest)=Instr.fill place (cells.setIfInBounds off v) rest:=by
 rw[Instr.fill,hp];simp only[hv];rw[if_neg (by simp; omega)]
 rfl
def Ol :List Value:=ru 0++([.int .i64 0, .int .i64 0, .int .i64 0, .int .i64 0, .int .u64 0]++[.int .i64 0, .int .i64 0])
theorem Lz :Ol.length=331:=by kernel_rfl
theorem uz (seed:Nat) {ring:List UInt8} (h:ring.length=64) (W s n x:Nat):(lq seed ring W s n x).length=324:=by unfold lq; rw[ag,tT,ag,aw,h]; rfl
theorem EY (r:List Value) (c:fC) (l:Int) (hr:r.length=324):Tryz.prog.built 239 [(0, .agg r.toArray),(1,kB c),(3, .int .i64 l)]=some (r++(fZ c++[Value.int .i64 0,Value.int .i64 l])).toArray:=by
 have h: ∀parts,Tryz.prog.built 239 parts=Instr.fill (fun i=>(#[(0,324),(324,5),(329,1),(330,1)]:Array (Nat×Nat))[i]?) Ol.toArray parts:=fun parts=>by kernel_rfl
 have e0:splice Ol 0 r=r++([.int .i64 0, .int .i64 0, .int .i64 0, .int .i64 0, .int .u64 0]++[.int .i64 0, .int .i64 0]):=by
  unfold splice;rw[aZ,aI,bT,hr]
  congr 1
 rw[h,pu (off:=0) (size:=324) rfl (by simpa using hr) (by rw[bS,Lz]; decide)];simp only;rw[e0];unfold kB;rw[pu (off:=324) (size:=5) rfl rfl (by rw[bS,ag,hr]; decide),Mx (off:=330) rfl rfl (by rw[bS,length_splice _ _ _ (by rw[ag,hr]; show 324+5<=324+7; decide),ag,hr]; show 330<324+7; decide)]
 simp only[Instr.fill]
 congr 1
 unfold splice;rw[aW]
 congr 1
 rw[fB (by omega),bw (by omega),jc,dT (by rw[hr]; show 324<=324+5; decide),fz _ _ (by omega),hr]
 rfl
def sk (c:fC) (roll:List Value) (pos last:Int):List Value:=roll++(fZ c++[Value.int .i64 pos,Value.int .i64 last])
theorem uq (c:fC) {roll:List Value} (h:roll.length=324) (p l:Int):(sk c roll p l).length=331:=by unfold sk; rw[ag,h]; rfl
theorem KN (seed:Nat) (ring:List UInt8) (W s n x:Nat): ∀v∈lq seed ring W s n x,v.oneCell'=true:=by
 intro v hv;unfold lq at hv
 rcases aN.1 hv with hv | hv
 ·obtain⟨y,_,rfl⟩:=aP.1 hv; rfl
 ·rcases aN.1 hv with hv | hv
  ·obtain⟨y,_,rfl⟩:=aP.1 hv; rfl
  ·simp only[aT,dz,or_false]at hv
   rcases hv with rfl | rfl | rfl | rfl<;> rfl
theorem Af (c:fC) (seed:Nat) (W:Nat) (l:Int): ∀v∈lq seed (List.replicate 64 0) W 0 0 0++(fZ c++[Value.int .i64 0,Value.int .i64 l]),v.oneCell'=true:=by
 intro v hv
 rcases aN.1 hv with hv | hv
 ·exact KN _ _ _ _ _ _ v hv
 ·simp only[fZ,aN,aT,dz,or_false]at hv
  rcases hv with(rfl | rfl | rfl | rfl | rfl) | rfl | rfl<;> rfl
theorem Gg (seed W:Nat) (wi:Int) (w:World) (hwi:wi=(W:Int)) (hW:1<=W) (hW2:W<=64):Calls Tryz.prog 199 #[.int .u64 (seed:Int), .int .i64 wi] w fun e w'=> ∃rb,e= .returned (.pointer (some ⟨rb,0,none⟩))/\w.heap.size<=rb/\
  w'.heap[rb]? =some (.cells (lq seed (List.replicate 64 0) W 0 0 0).toArray 237 (0,0))/\Below w.heap.size w w':=by
 subst hwi; exact Ek seed W w hW hW2
theorem yK (c:fC) (W:Nat) (w:World) (_hs:c.seed<18446744073709551616) (hW:c.win=(W:Int)) (h1:1<=W) (h2:W<=64) (hm:0<=c.mn/\c.mn<=32768):
  Calls Tryz.prog 187 #[kB c] w fun e w'=>e= .returned (.agg (sk c (lq c.seed (List.replicate 64 0) W 0 0 0) 0 (-c.mn)).toArray)/\Below w.heap.size w w':=by
 have HW:=ah hW;have hM:IntKind.i64.wrap (-c.mn)= -c.mn:=by rw[bF]; omega
 clear hW;unfold kB
 go_enter Tryz.func187,Tryz.ntmps187
 go_wp2_with fail;obtain⟨w1,ha⟩:=bI ((w.alloc (.cells #[.int .i64 c.mn, .int .i64 c.mx, .int .i64 c.win, .int .i64 c.bits, .int .u64 (c.seed:Int)] 45)).alloc (.cells Tryz.zeroCells239 239));rw[<-ha];have hI:=ah (show w1.heap[w.heap.size]? =some (.cells (fZ c).toArray 45 (0,0)) by rw[ha]; exact heap_alloc2_old w _ _);have hJ:=ah (show w1.heap[w.heap.size+1]? =some (.cells Tryz.zeroCells239 239 (0,0)) by rw[ha]; exact heap_alloc2_new w _ _)
 have hz:=ah (show Below w.heap.size w w1 by rw[ha]; exact(eW).alloc (by simp) _);clear ha;refine fd (fun w'=>w'.cell? ⟨w.heap.size,0,none⟩=some (.int .i64 c.mn)/\w'.cell? ⟨w.heap.size,1,none⟩=some (.int .i64 c.mx)/\w'.cell? ⟨w.heap.size,2,none⟩=some (.int .i64 c.win)/\w'.cell? ⟨w.heap.size,3,none⟩=some (.int .i64 c.bits)/\w'.cell? ⟨w.heap.size,4,none⟩=some (.int .u64 (c.seed:Int))) (by kernel_rfl) ?_
 obtain⟨V,hV⟩:=bI w1.drew;rw[<-hV];have he:=ah (show V.heap[w.heap.size]? =some (.cells (fZ c).toArray 45 (0,0)) by rw[hV]; exact hI.o);have hL:=ah (show V.heap[w.heap.size+1]? =some (.cells Tryz.zeroCells239 239 (0,0)) by rw[hV]; exact hJ.o);have hD:=ah (show Below w.heap.size w V by rw[hV]; exact hz.o.trans (ak _ _).drew);clear hV;have c0:V.cell? ⟨w.heap.size,0,none⟩=some (.int .i64 c.mn):=(br V _ _ _ _ _ he.o).trans rfl
 have c1:V.cell? ⟨w.heap.size,1,none⟩=some (.int .i64 c.mx):=(br V _ _ _ _ _ he.o).trans rfl;have c2:V.cell? ⟨w.heap.size,2,none⟩=some (.int .i64 c.win):=(br V _ _ _ _ _ he.o).trans rfl;have c3:V.cell? ⟨w.heap.size,3,none⟩=some (.int .i64 c.bits):=(br V _ _ _ _ _ he.o).trans rfl;have c4:V.cell? ⟨w.heap.size,4,none⟩=some (.int .u64 (c.seed:Int)):=(br V _ _ _ _ _ he.o).trans rfl
 iterate 4 (refine cI rfl ⟨c0,c1,c2,c3,c4⟩ (by rintro w' ⟨ha,hj,hb,hk,hl⟩; go_simp; rfl) ?_; simp only[bN])
 refine dy 7 rfl ⟨c0,c1,c2,c3,c4⟩ (by rintro w' ⟨ha,hj,hb,hk,hl⟩; go_simp; rfl) ?_;simp only[bN];refine dy 8 rfl ⟨c0,c1,c2,c3,c4⟩ (by rintro w' ⟨ha,hj,hb,hk,hl⟩; go_simp; rfl) ?_;simp only[bN];refine dy 9 rfl ⟨c0,c1,c2,c3,c4⟩ (by rintro w' ⟨ha,hj,hb,hk,hl⟩; go_simp; rfl) ?_;simp only[bN];refine dy 10 rfl ⟨c0,c1,c2,c3,c4⟩ (by rintro w' ⟨ha,hj,hb,hk,hl⟩; go_simp; rfl) ?_
 simp only[bN];refine cC 4 rfl (fun K hK=> ?_);go_wp2_with fail;refine(Gg c.seed W c.win V HW.o h1 h2).mono ?_;rintro e w2 ⟨rb,rfl,hN,hy,hn⟩;have hA:=ah (aj hD.o hn);have hd:=ah (er hn he.o);have hx:=ah (er hn hL.o);have hv:=ah hy;clear c0 c1 c2 c3 c4 hn hy;have c0:w2.cell? ⟨w.heap.size,0,none⟩=some (.int .i64 c.mn):=(br w2 _ _ _ _ _ hd.o).trans rfl
 have c1:w2.cell? ⟨w.heap.size,1,none⟩=some (.int .i64 c.mx):=(br w2 _ _ _ _ _ hd.o).trans rfl;have c2:w2.cell? ⟨w.heap.size,2,none⟩=some (.int .i64 c.win):=(br w2 _ _ _ _ _ hd.o).trans rfl;have c3:w2.cell? ⟨w.heap.size,3,none⟩=some (.int .i64 c.bits):=(br w2 _ _ _ _ _ hd.o).trans rfl;have c4:w2.cell? ⟨w.heap.size,4,none⟩=some (.int .u64 (c.seed:Int)):=(br w2 _ _ _ _ _ hd.o).trans rfl
 go_wp2_with fail;refine⟨⟨c0,c1,c2,c3,c4⟩, ?_⟩;refine dy 5 rfl ⟨c0,c1,c2,c3,c4⟩ (by rintro w' ⟨ha,hj,hb,hk,hl⟩; go_simp; rfl) ?_;simp only[bN];obtain⟨rc,ho⟩:=bI (lq c.seed (List.replicate 64 0) W 0 0 0);have hp:rc.length=324:=by rw[ho]; exact uz _ (by simp) _ _ _ _
 rw[<-ho]at hv;have hw:=ah ho;clear ho;have hg:=ah (show(Tryz.prog.info? 237).map (·.size)=some rc.length by rw[hp]; kernel_rfl);have hG:=ah (mF hv.o);have hC:=ah (EY rc c (-c.mn) hp);have hH:=ah hp;clear hp;refine cC 6 rfl (fun K hK=> ?_);go_wp2_with (refine dX rfl 237 _ rfl rb 0 rfl rc _ hG.o Tryz.underlying237 rfl hg.o ?_)
 refine⟨⟨c0,c1,c2,c3,c4⟩, ?_⟩;simp only[bN];refine cC 11 rfl (fun K hK=> ?_);go_wp2_with (go_loud (refine iM rfl 239 _ rfl [(0, .agg rc.toArray),(1,kB c),(3, .int .i64 (-c.mn))] (by kernel_rfl) _ hC.o ?_));refine⟨⟨c0,c1,c2,c3,c4⟩, ?_⟩;simp only[bN];refine cC 12 rfl (fun K hK=> ?_);obtain⟨mc,hh⟩:=bI (rc++(fZ c++[Value.int .i64 0,Value.int .i64 (-c.mn)]))
 have hu:mc.length=331:=by rw[hh]; exact uq c hH.o 0 (-c.mn)
 rw[<-hh];have hF:=ah hh;have hc:=ah (show(Tryz.prog.info? 239).map (·.size)=some mc.toArray.size by rw[bS,hu]; kernel_rfl);have hr:=ah (show Tryz.zeroCells239.size=mc.toArray.size by rw[show mc.toArray.size=331 from by rw[bS]; exact hu]; kernel_rfl);have hs:=ah (show mc.toArray.all (·.oneCell')=true from ei (by rw[hh,hw.o];exact Af c _ _ _))
 clear hu hh;go_wp2_with (go_loud (refine dA rfl 239 _ _ rfl (w.heap.size+1) _ rfl rfl _ _ hx.o hc.o hr.o hs.o ?_));simp only[Act.put];obtain⟨w3,hb⟩:=bI (w2.setRow (w.heap.size+1) mc.toArray);rw[<-hb];have hf:w3.heap[w.heap.size]? =some (.cells (fZ c).toArray 45 (0,0)):=by rw[hb,setRow_other w2 _ _ _ (by omega)]; exact hd.o
 have hE:=ah (show w3.heap[w.heap.size+1]? =some (.cells mc.toArray 239 (0,0)) by rw[hb]; exact em w2 _ _ _ _ _ hx.o);have hB:=ah (show Below w.heap.size w w3 by rw[hb]; exact eE hA.o (by omega) _);clear hb;refine⟨⟨(br w3 _ _ _ _ _ hf).trans rfl,(br w3 _ _ _ _ _ hf).trans rfl,(br w3 _ _ _ _ _ hf).trans rfl,(br w3 _ _ _ _ _ hf).trans rfl,(br w3 _ _ _ _ _ hf).trans rfl⟩, ?_⟩
 refine cL (by kernel_rfl) ?_;clear c0 c1 c2 c3 c4 hf;have hq:=ah (show Ending.returned (.agg mc.toArray)=Ending.returned (.agg (sk c (lq c.seed (List.replicate 64 0) W 0 0 0) 0 (-c.mn)).toArray) by rw[hF.o,hw.o]; rfl);go_wp2_with fail;refine cP (results_cell_row rfl _ _ (w.heap.size+1) _ _ _ _ rfl hE.o Tryz.underlying239 rfl hc.o) rfl ?_;exact⟨hq.o,hB.o⟩
end
end Go.Proofs.YtpffpjbkbaleiaaGreatDoor
