/- Texts of this proof, one after the other: R3B, HmacC, EncA, RNumP, RNum, EncB, EncC, RdrC, EncD, Codec, CompP, CodecB, SealA, R3C, RollP, ChkP, RollA, RollB, MarkA. -/
import Derived.Test.YtpffpjbkbaleiaaGreatDoorCReturnsB
set_option maxRecDepth 100000
set_option maxHeartbeats 8000000
namespace Go.Proofs.YtpffpjbkbaleiaaGreatDoor
open Go Go.RowKit
theorem nO (w:World) (n:Nat):Below w.heap.size w (w.drewN n):=⟨rfl,rfl,rfl,au _,fun _ _=>rfl⟩
theorem OP (a b c d e f g h:Int):Tryz.prog.built 216 [(0, .int .u32 a),(1, .int .u32 b),(2, .int .u32 c),(3, .int .u32 d),(4, .int .u32 e),(5, .int .u32 f),(6, .int .u32 g),(7, .int .u32 h)]=some #[.int .u32 a, .int .u32 b, .int .u32 c, .int .u32 d, .int .u32 e, .int .u32 f, .int .u32 g, .int .u32 h]:=by kernel_rfl
theorem Ik (v u:V8):AG v u=AG u v:=by unfold AG tM; simp only[lQ]
structure lu (vb : Nat) (W wq : World) (r : V8) : Prop where
 box:wq.heap[vb]? =some (.cells (r.list.map fc).toArray 216 (0,0))
 grown:W.grownBy wq (some vb)
theorem lu.next {vb:Nat} {W wq w':World} {r:V8} (h:lu vb W wq r) (hb:Below wq.heap.size wq w'):lu vb W w' r:=
 ⟨(hb.block vb (az h.box)).trans h.box,⟨hb.os.trans h.grown.os,hb.tape.trans h.grown.tape,hb.output.trans h.grown.output,aB h.grown.size hb.size,fun k hk hne=>(hb.block k (aR hk h.grown.size)).trans (h.grown.block k hk hne)⟩⟩
theorem lu.get {vb:Nat} {W wq:World} {r:V8} (h:lu vb W wq r) {j x:Nat} (hj:r.list[j]? =some x):wq.cell? ⟨vb,j,none⟩=some (.int .u32 (x:Int)):=by
 rw[bu wq _ j _ _ _ h.box,ak,bn,hj]; rfl
theorem lu.put {vb:Nat} {W wq:World} {r:V8} (h:lu vb W wq r) {r':V8} {c:Array Value} (hc:c=(r'.list.map fc).toArray):lu vb W (wq.setRow vb c) r':=
 ⟨by rw[dW _ _ _ _ _ _ h.box,hc],⟨h.grown.os,h.grown.tape,h.grown.output,by rw[size_setRow]; exact h.grown.size,fun k hk hne=>(setRow_other _ _ _ _ (fun e=>hne (by rw[e]))).trans (h.grown.block k hk hne)⟩⟩
theorem lu.keep {vb:Nat} {W wq:World} {r:V8} (h:lu vb W wq r) {b:Nat} {o:Obj} (hb:W.heap[b]? =some o) (hne:b≠vb):wq.heap[b]? =some o:=
 (h.grown.block b (az hb) (fun e=>hne (bK e))).trans hb
theorem Ei (v:V8) (bk o cap:Nat) (bs:List UInt8) (w:World) (hv:v.Ok) (hl:bs.length=64) (_hcap:64<=cap) (_hcapm:cap<=maxLen) (hbs: ∀j b,bs[j]? =some b->w.cell? ⟨bk,o+j,none⟩=some (u8W b)):
  Calls Tryz.prog 216 #[.agg (v.list.map fc).toArray, .slice (some ⟨bk,o,none⟩) 64 cap] w fun e w'=>e= .returned (.agg ((rI v bs).list.map fc).toArray)/\Below w.heap.size w w':=by
 have HS:=an hbs;obtain⟨W0,hD⟩: ∃W0:World,W0=(w.alloc (.cells (v.list.map fc).toArray 216)).alloc (.cells (List.replicate 8 (fc 0)).toArray 216):=⟨_,rfl⟩;have HD:=an (show Below w.heap.size w W0 by rw[hD]; exact(eN).alloc (by simp) _);have HH:=an (show W0.heap[w.heap.size]? =some (.cells (v.list.map fc).toArray 216 (0,0)) by rw[hD]; exact(cP _ _ _ (by simp)).trans (aH w _))
 have HT:=an (show W0.heap[w.heap.size+1]? =some (.cells (List.replicate 8 (fc 0)).toArray 216 (0,0)) by rw[hD]; have:=aH (w.alloc (.cells (v.list.map fc).toArray 216)) (.cells (List.replicate 8 (fc 0)).toArray 216); simpa using this);clear hbs
 go_enter Tryz.func216,Tryz.ntmps216
 go_upto_region 1 with(fail)
 change Code.wp _ _ _ _ ((w.alloc (.cells (v.list.map fc).toArray 216)).alloc (.cells (List.replicate 8 (fc 0)).toArray 216))
 rw[<-hD];clear hD;go_wp2_with fail;refine(yd _).mono ?_;rintro e w1 ⟨rfl,ho⟩;have HE:=an (aw HD.o ho);have HI:=an (dV ho HH.o);have HU:=an (dV ho HT.o);clear ho
 go_upto_region 2 with(first | (refine du rfl 252 _ _ rfl w1.heap.size nu rfl rfl _ _ (aH w1 _) (by kernel_rfl) (by kernel_rfl) (by kernel_rfl) ?_) | fail)
 obtain⟨W2,hO⟩: ∃W2:World,W2=(w1.alloc (.cells (List.replicate 64 (fc 0)).toArray 252)).setRow w1.heap.size nu:=⟨_,rfl⟩
 change Code.wp _ _ _ _ ((w1.alloc (.cells (List.replicate 64 (fc 0)).toArray 252)).setRow w1.heap.size nu)
 have hU:=an (show Below w1.heap.size w1 W2 by rw[hO]; exact er (eN) (au _) _);have Hi:=an (show W2.heap[w1.heap.size]? =some (.cells nu 252 (0,0)) by rw[hO]; exact dW _ _ _ _ _ _ (aH w1 _));have hL:=an (aw HE.o hU.o);have Hg:=an (dV hU.o HI.o);have Hl:=an (dV hU.o HU.o);rw[<-hO];clear hO
 go_upto_region 3 with(first | (refine iH rfl 252 _ rfl [] (by kernel_rfl) (List.replicate 64 (fc 0)).toArray (by kernel_rfl) ?_) | (refine du rfl 252 _ _ rfl W2.heap.size (List.replicate 64 (fc 0)).toArray rfl rfl _ _ (aH W2 _) (by kernel_rfl) (by kernel_rfl) (by kernel_rfl) ?_) | fail)
 obtain⟨W3,hP⟩: ∃W3:World,W3=(W2.alloc (.cells (List.replicate 64 (fc 0)).toArray 252)).setRow W2.heap.size (List.replicate 64 (fc 0)).toArray:=⟨_,rfl⟩
 change Code.wp _ _ _ _ ((W2.alloc (.cells (List.replicate 64 (fc 0)).toArray 252)).setRow W2.heap.size (List.replicate 64 (fc 0)).toArray)
 have Hd:=an (show kn W2 bs 0 W3 from⟨by rw[hP,dW _ _ _ _ _ _ (aH W2 _)]; rfl,by rw[hP]; exact er (eN) (au _) _⟩);rw[<-hP];clear hP;go_wp2_with fail
 go_loopw [7] (fun i wr=> ∃t:Nat,t<=16/\i= .int .i64 (t:Int)/\kn W2 bs t wr) (fun i _=>16-(intOf i).toNat)
 case atStart=>exact⟨0,by omega,rfl,Hd.o⟩
 case round=>
  obtain⟨t,ht,rfl,hs⟩:=hrel;have HA:=an hs;have hz:=hs.below.size;have hA:=an (hL.o.trans (hs.below.mono hL.o.size));clear hs
  by_cases H2:t<16
  ·obtain⟨q,hq⟩: ∃q,q=4*t:=⟨_,rfl⟩;have HQ:=an hq;have yp:IntKind.i64.wrap (4*(t:Int))=(q:Int):=by rw[bF]; omega
   obtain⟨r1,Hw⟩: ∃r,r=q+1:=⟨_,rfl⟩;obtain⟨r2,Hx⟩: ∃r,r=q+2:=⟨_,rfl⟩;obtain⟨r3,Hy⟩: ∃r,r=q+3:=⟨_,rfl⟩;have H7:(q:Int)<64:=by omega
   have H8:(r1:Int)<64:=by omega
   have H9:(r2:Int)<64:=by omega
   have ya:(r3:Int)<64:=by omega
   have hJ:(t:Int)<64:=by omega
   have yc:IntKind.i64.wrap ((q:Int)+1)=(r1:Int):=by rw[bF]; omega
   have yl:IntKind.i64.wrap ((q:Int)+2)=(r2:Int):=by rw[bF]; omega
   have yn:IntKind.i64.wrap ((q:Int)+3)=(r3:Int):=by rw[bF]; omega
   obtain⟨b0,h3⟩: ∃b,b=bs.getD q 0:=⟨_,rfl⟩;obtain⟨b1,ho⟩: ∃b,b=bs.getD r1 0:=⟨_,rfl⟩;obtain⟨b2,h4⟩: ∃b,b=bs.getD r2 0:=⟨_,rfl⟩;obtain⟨b3,h7⟩: ∃b,b=bs.getD r3 0:=⟨_,rfl⟩;have q0:=HS.o q (bs.getD q 0) (Cv (by omega));have q1:=HS.o r1 (bs.getD r1 0) (Cv (by omega));have q2:=HS.o r2 (bs.getD r2 0) (Cv (by omega));have q3:=HS.o r3 (bs.getD r3 0) (Cv (by omega))
   have HW:=an (show At bs t=DY b0 b1 b2 b3 by rw[h3,ho,h4,h7,Hw,Hx,Hy,hq]; rfl);rw[<-h3]at q0;rw[<-ho]at q1;rw[<-h4]at q2;rw[<-h7]at q3;have hQ:=block_lt_of_cell q0;simp only[u8W]at q0 q1 q2 q3;have c0:=(hA.o.cell (p:=⟨bk,o+q,none⟩) hQ).trans q0;have c1:=(hA.o.cell (p:=⟨bk,o+r1,none⟩) hQ).trans q1;have c2:=(hA.o.cell (p:=⟨bk,o+r2,none⟩) hQ).trans q2
   have c3:=(hA.o.cell (p:=⟨bk,o+r3,none⟩) hQ).trans q3;have ch:=HA.o.here (by omega);have cf:=HA.o.free t;clear q0 q1 q2 q3 h3 ho h4 h7 hq Hw Hx Hy;go_wp2_with fail;refine bP [some 35,none] (by kernel_rfl) (by kernel_rfl) (by kernel_rfl) ?_;simp only[dQ,aV,aZ,bB,bT]
   repeat (first | (refine cB rfl ?_; simp only[Act.put,ag,ai,ah]) | (refine cR rfl (fun K hK=> ?_); go_simp; refine hK _ ?_; clear hK K))
   refine cQ ?_;refine ei rfl (fun K hK=> ?_);go_wp2_with fail
   go_roundw
   case rel=>
    rw[xT,<-HW.o];exact⟨t+1,by omega,by simp,(HA.o.put (by omega) (Ic bs H2)).drew⟩
   case measure=>simp[intOf]; omega
  ·obtain rfl:t=16:=by omega
   obtain⟨W4,H4⟩: ∃x,x=wr:=⟨_,rfl⟩;subst H4;have He:=HA;clear HA hA hz;rw[show((16:Nat):Int)=(16:Int)from rfl];go_wp2_with fail
   go_loopw [8,9,10] (fun i x1 x2 wr=> ∃t:Nat,16<=t/\t<=64/\i= .int .i64 (t:Int)/\kn W2 bs t wr) (fun i _ _ _=>64-(intOf i).toNat)
   case atStart=>exact⟨16,by omega,by omega,rfl,He.o⟩
   case round=>
    obtain⟨t,H3,ht,rfl,hs⟩:=hrel;have HA:=an hs;have hz:=hs.below.size;clear hs
    by_cases H5:t<64
    ·obtain⟨j2,Ht⟩: ∃j,j=t-2:=⟨_,rfl⟩;obtain⟨j15,hF⟩: ∃j,j=t-15:=⟨_,rfl⟩;obtain⟨j7,Hu⟩: ∃j,j=t-7:=⟨_,rfl⟩;obtain⟨j16,hG⟩: ∃j,j=t-16:=⟨_,rfl⟩;have c2:=HA.o.get (j:=j2) (by omega);have c15:=HA.o.get (j:=j15) (by omega);have c7:=HA.o.get (j:=j7) (by omega);have c16:=HA.o.get (j:=j16) (by omega);have e2:IntKind.i64.wrap ((t:Int)-2)=(j2:Int):=by rw[bF]; omega
     have e15:IntKind.i64.wrap ((t:Int)-15)=(j15:Int):=by rw[bF]; omega
     have e7:IntKind.i64.wrap ((t:Int)-7)=(j7:Int):=by rw[bF]; omega
     have e16:IntKind.i64.wrap ((t:Int)-16)=(j16:Int):=by rw[bF]; omega
     have l2:(j2:Int)<64:=by omega
     have l15:(j15:Int)<64:=by omega
     have l7:(j7:Int)<64:=by omega
     have l16:(j16:Int)<64:=by omega
     have ch:=HA.o.here (by omega);have cf:=HA.o.free t;have HJ:=an (show j2=t-2/\j15=t-15/\j7=t-7/\j16=t-16 from⟨Ht,hF,Hu,hG⟩);clear Ht hF Hu hG;obtain⟨x2,hS⟩: ∃x,x=(sB bs t).getD j2 0:=⟨_,rfl⟩;obtain⟨x15,hf⟩: ∃x,x=(sB bs t).getD j15 0:=⟨_,rfl⟩;obtain⟨x7,Hc⟩: ∃x,x=(sB bs t).getD j7 0:=⟨_,rfl⟩;obtain⟨x16,hu⟩: ∃x,x=(sB bs t).getD j16 0:=⟨_,rfl⟩
     rw[<-hS]at c2;rw[<-hf]at c15;rw[<-Hc]at c7;rw[<-hu]at c16;have o2:x2<4294967296:=by rw[hS]; exact(Bt bs t).get j2
     have o15:x15<4294967296:=by rw[hf]; exact(Bt bs t).get j15
     have HN:=an (show qD (sB bs t)=(((Ke x2+x7)%4294967296+Kd x15)%4294967296+x16)%4294967296 by
      unfold qD;rw[oH,hS,hf,Hc,hu,HJ.o.1,HJ.o.2.1,HJ.o.2.2.1,HJ.o.2.2.2])
     clear hS hf Hc hu;go_wp2_with fail
     go_quiet ((go_at_call 218; refine Calls.quiet_of (pw _ _ _ o15 (by decide))))
     rw[show xz x15 7=gy x15 25 from rfl,show xz x15 18=gy x15 14 from rfl,Ah o15];obtain⟨W5,hn⟩: ∃W5:World,W5=wr.drewN nq:=⟨_,rfl⟩;rw[<-hn];have hg:=an (show kn W2 bs t W5 by rw[hn]; exact HA.o.next (nO wr nq));have d2:W5.cell? ⟨W2.heap.size,j2,none⟩=some (.int .u32 (x2:Int)):=by rw[hn]; exact c2
     have d7:W5.cell? ⟨W2.heap.size,j7,none⟩=some (.int .u32 (x7:Int)):=by rw[hn]; exact c7
     have d16:W5.cell? ⟨W2.heap.size,j16,none⟩=some (.int .u32 (x16:Int)):=by rw[hn]; exact c16
     have ch:=hg.o.here (by omega);have cf:=hg.o.free t;clear hn c15 c2 c7 c16;go_wp2_with fail
     go_quiet ((go_at_call 218; refine Calls.quiet_of (pw _ _ _ o2 (by decide))))
     rw[show xz x2 17=gy x2 15 from rfl,show xz x2 19=gy x2 13 from rfl,Ai o2];obtain⟨W6,he⟩: ∃W6:World,W6=W5.drewN nq:=⟨_,rfl⟩;rw[<-he];have hT:=an (show kn W2 bs t W6 by rw[he]; exact hg.o.next (nO W5 nq));have f7:W6.cell? ⟨W2.heap.size,j7,none⟩=some (.int .u32 (x7:Int)):=by rw[he]; exact d7
     have f16:W6.cell? ⟨W2.heap.size,j16,none⟩=some (.int .u32 (x16:Int)):=by rw[he]; exact d16
     clear ch cf;have ch:=hT.o.here (by omega);have cf:=hT.o.free t;have hJ:(t:Int)<64:=by omega
     clear he d2 d7 d16;go_wp2_with fail;refine bP [some 15,none] (by kernel_rfl) (by kernel_rfl) (by kernel_rfl) ?_;simp only[dQ,aV,aZ,bB,bT]
     repeat (first | (refine cB rfl ?_; simp only[Act.put,ag,ai,ah]) | (refine cR rfl (fun K hK=> ?_); go_simp; refine hK _ ?_; clear hK K))
     refine cQ ?_;refine ei rfl (fun K hK=> ?_);go_wp2_with fail
     go_roundw
     case rel=>
      have HV:((((Ke x2:Nat):Int)+(x7:Int)+((Kd x15:Nat):Int)+(x16:Int))%4294967296)=((qD (sB bs t):Nat):Int):=by rw[HN.o]; omega
      rw[HV];exact⟨t+1,by omega,by omega,by simp,(hT.o.put (by omega) (DX bs H3)).drew⟩
     case measure=>simp[intOf]; omega
    ·obtain rfl:t=64:=by omega
     obtain⟨W5,hn⟩: ∃x,x=wr:=⟨_,rfl⟩;subst hn;have hg:=HA;have hM:=an (hL.o.trans (HA.o.below.mono hL.o.size));have hN:=an ((HA.o.below.block _ (az Hg.o)).trans Hg.o);have hV:=an ((HA.o.below.block _ (az Hl.o)).trans Hl.o);have Hj:=an ((HA.o.below.block _ (az Hi.o)).trans Hi.o);have HY:=an (mr hN.o);have HL:=an (show(Tryz.prog.info? 216).map (·.size)=some (v.list.map fc).length by kernel_rfl)
     have HC:=an (show(v.list.map fc).toArray.all (·.oneCell')=true from dU (fun x hx=>by obtain⟨y,-,rfl⟩:=aW.1 hx; rfl));clear HA hz He Hd;rw[show((64:Nat):Int)=(64:Int)from rfl]
     go_upto_region 14 with(first | (refine dO rfl 216 _ rfl w.heap.size 0 rfl (v.list.map fc) _ HY.o fC rfl HL.o ?_) | (refine du rfl 216 _ _ rfl W5.heap.size (v.list.map fc).toArray rfl rfl _ _ (aH W5 _) (by kernel_rfl) (by kernel_rfl) HC.o ?_) | fail)
     obtain⟨W6,he⟩: ∃W6:World,W6=(W5.alloc (.cells (List.replicate 8 (fc 0)).toArray 216)).setRow W5.heap.size (v.list.map fc).toArray:=⟨_,rfl⟩
     change Code.wp _ _ _ _ ((W5.alloc (.cells (List.replicate 8 (fc 0)).toArray 216)).setRow W5.heap.size (v.list.map fc).toArray)
     have hw:=an (show Below W5.heap.size W5 W6 by rw[he]; exact er (eN) (au _) _);have Hp:=an (show W6.heap[W5.heap.size]? =some (.cells (v.list.map fc).toArray 216 (0,0)) by rw[he]; exact dW _ _ _ _ _ _ (aH W5 _));rw[<-he];clear he;have hB:=an (show lu W5.heap.size W6 W6 v from⟨Hp.o,⟨rfl,rfl,rfl,au _,fun _ _ _=>rfl⟩⟩)
     obtain⟨vb,Hb⟩: ∃vb,W5.heap.size=vb:=⟨_,rfl⟩;have hp:=an Hb;rw[Hb]at hB Hp ⊢;clear Hb;go_wp2_with fail
     go_loopw [12,13,14,15,16,17,18,19,20] (fun i y1 y2 y3 y4 y5 y6 y7 y8 wr=> ∃(t:Nat) (r:V8),t<=64/\i= .int .i64 (t:Int)/\r=rTo bs v t/\lu vb W6 wr r) (fun i _ _ _ _ _ _ _ _ _=>64-(intOf i).toNat)
     case atStart=>exact⟨0,v,by omega,rfl,rfl,hB.o⟩
     case round=>
      obtain⟨t,r,ht,rfl,hr,Hz⟩:=hrel;have Hn:=an hr;have ha:=an Hz;have hh:=an (show r.Ok by rw[hr]; exact Fk bs t hv);clear hr Hz
      by_cases hZ:t<64
      ·have v0:=ha.o.get (j:=0) (x:=r.a) rfl;have v1:=ha.o.get (j:=1) (x:=r.b) rfl;have v2:=ha.o.get (j:=2) (x:=r.c) rfl;have v4:=ha.o.get (j:=4) (x:=r.e) rfl;have v5:=ha.o.get (j:=5) (x:=r.f) rfl;have v6:=ha.o.get (j:=6) (x:=r.g) rfl;go_wp2_with fail
       go_quiet (fail)
       obtain⟨W7,hE⟩: ∃W7:World,W7=wr.drewN nq:=⟨_,rfl⟩;rw[<-hE];have hc:=an (show lu vb W6 W7 r by rw[hE]; exact ha.o.next (nO wr nq));obtain⟨k,hk⟩: ∃k,k=kc.getD t 0:=⟨_,rfl⟩;obtain⟨x,hx⟩: ∃x,x=(wsP bs).getD t 0:=⟨_,rfl⟩;have Hk:=an (aD hk hx);have v7:=hc.o.get (j:=7) (x:=r.h) rfl;have v3:=hc.o.get (j:=3) (x:=r.d) rfl
       have ck:W7.cell? ⟨w1.heap.size,t,none⟩=some (.int .u32 (k:Int)):=by
        rw[bu W7 _ t _ _ _ (hc.o.keep (dV hw.o Hj.o) (by have:=az Hj.o; have:=hp.o; omega))];unfold nu;rw[ak,bn,getD_some (by rw[Ba]; exact hZ),<-hk]; rfl
       have cx:W7.cell? ⟨W2.heap.size,t,none⟩=some (.int .u32 (x:Int)):=by
        rw[bu W7 _ t _ _ _ (hc.o.keep (dV hw.o hg.o.box) (by have:=az hg.o.box; have:=hp.o; omega)),<-bu W5 _ t _ _ _ hg.o.box,hg.o.get hZ,Bs,<-hx]
       have hJ:(t:Int)<64:=by omega
       clear hE hk hx v0 v1 v2 v4 v5 v6;go_wp2_with fail
       go_quiet ((go_at_call 218; refine Calls.quiet_of (pw _ _ _ hh.o.e (by decide))))
       rw[show xz r.e 6=gy r.e 26 from rfl,show xz r.e 11=gy r.e 21 from rfl,show xz r.e 25=gy r.e 7 from rfl,GY hh.o,Gm hh.o,
        show((((r.h:Int)+((s1P r:Nat):Int)+((chP r:Nat):Int)+(k:Int))%4294967296+(x:Int))%4294967296)=((Nd r k x:Nat):Int) by rw[FJ]; omega]
       obtain⟨t1,h9⟩: ∃t1,t1=Nd r k x:=⟨_,rfl⟩;rw[<-h9];have Ho:=an h9;obtain⟨W8,h0⟩: ∃W8:World,W8=W7.drewN nq:=⟨_,rfl⟩;rw[<-h0];have hX:=an (show lu vb W6 W8 r by rw[h0]; exact hc.o.next (nO W7 nq));clear h0 v7 v3 ck cx h9;go_wp2_with fail;refine(pw _ _ _ hh.o.a (by decide)).mono ?_;rintro e W9 ⟨rfl,m9,Hv⟩;have hY:=an (show lu vb W6 W9 r by rw[Hv]; exact hX.o.next (nO W8 m9))
       clear Hv;go_wp2_with fail;refine(pw _ _ _ hh.o.a (by decide)).mono ?_;rintro e Hr ⟨rfl,m10,hH⟩;have hC:=an (show lu vb W6 Hr r by rw[hH]; exact hY.o.next (nO W9 m10));clear hH;go_wp2_with fail;refine(pw _ _ _ hh.o.a (by decide)).mono ?_;rintro e H1 ⟨rfl,m11,hI⟩;have hb:=an (show lu vb W6 H1 r by rw[hI]; exact hC.o.next (nO Hr m11))
       clear hI;have v3:=hb.o.get (j:=3) (x:=r.d) rfl
       go_upto_region 20 with(fail)
       rw[show xz r.a 2=gy r.a 30 from rfl,show xz r.a 13=gy r.a 19 from rfl,show xz r.a 22=gy r.a 10 from rfl,GX hh.o,GH hh.o,
        show((((s0P r:Nat):Int)+((mjP r:Nat):Int))%4294967296)=((t2P r:Nat):Int) by rw[MH]; omega]
       obtain⟨t2,Ha⟩: ∃t2,t2=t2P r:=⟨_,rfl⟩;rw[<-Ha];have H0:=an Ha;clear Ha;go_wp2_with (refine iH rfl 216 _ rfl [(0, .int .u32 (((t1:Int)+(t2:Int))%4294967296)),(1, .int .u32 (r.a:Int)),(2, .int .u32 (r.b:Int)),(3, .int .u32 (r.c:Int)),(4, .int .u32 (((r.d:Int)+(t1:Int))%4294967296)),(5, .int .u32 (r.e:Int)),(6, .int .u32 (r.f:Int)),(7, .int .u32 (r.g:Int))] (by kernel_rfl) _ (OP _ _ _ _ _ _ _ _) ?_; go_must (refine du rfl 216 _ _ rfl vb #[.int .u32 (((t1:Int)+(t2:Int))%4294967296), .int .u32 (r.a:Int), .int .u32 (r.b:Int), .int .u32 (r.c:Int), .int .u32 (((r.d:Int)+(t1:Int))%4294967296), .int .u32 (r.e:Int), .int .u32 (r.f:Int), .int .u32 (r.g:Int)] (by kernel_rfl) (by kernel_rfl) _ _ hb.o.box (by kernel_rfl) (by kernel_rfl) (by kernel_rfl) ?_))
       go_roundw
       case rel=>
        refine⟨t+1,Fp r k x,by omega,by simp, ?_,hb.o.put ?_⟩
        ·rw[Dq bs v hZ,Hn.o,Hk.o.1,Hk.o.2]
        ·rw[show(((t1:Int)+(t2:Int))%4294967296)=(((Nd r k x+t2P r)%4294967296:Nat):Int) by rw[Ho.o,H0.o]; omega,show(((r.d:Int)+(t1:Int))%4294967296)=(((r.d+Nd r k x)%4294967296:Nat):Int) by rw[Ho.o]; omega]
         rfl
       case measure=>simp[intOf]; omega
      ·obtain rfl:t=64:=by omega
       obtain⟨W7,hE⟩: ∃x,x=wr:=⟨_,rfl⟩;subst hE;have HP:=an (show lD vb r v [] 216 W7 W7 0 from lD.start (by rw[cj]; exact ha.o.box) (ay _ _));have HK:=an (ha.o.keep (dV hw.o hN.o) (by have:=az hN.o; have:=hp.o; omega));have HX:=an (ha.o.keep (dV hw.o hV.o) (by have:=az hV.o; have:=hp.o; omega));rw[show((64:Nat):Int)=(64:Int)from rfl]
       go_wp2_with fail
       go_loopw [21] (fun i wq=> ∃j:Nat,j<=8/\i= .int .i64 (j:Int)/\lD vb r v [] 216 W7 wq j) (fun i _=>8-(intOf i).toNat)
       case atStart=>exact⟨0,by omega,rfl,HP.o⟩
       case round=>
        obtain⟨j,hj,rfl,hm⟩:=hrel;have HM:=an hm;clear hm
        by_cases h8:j<8
        ·have cs:=HM.o.here h8;have cf:=HM.o.free j;have cv:wr.cell? ⟨w.heap.size,j,none⟩=some (.int .u32 ((v.list.getD j 0:Nat):Int)):=(bu wr _ _ _ _ _ (HM.o.keep HK.o (by have:=az hN.o; have:=hp.o; omega))).trans (by rw[ak]; exact OE v h8);obtain⟨x,hx⟩: ∃x,x=r.list.getD j 0:=⟨_,rfl⟩;obtain⟨y,hy⟩: ∃y,y=v.list.getD j 0:=⟨_,rfl⟩
         rw[<-hx]at cs;rw[<-hy]at cv;have Hq:=an (aD hx hy);clear hx hy;have H6:(j:Int)<8:=by omega
         go_wp2_with fail;refine bP [some 8,none] (by kernel_rfl) (by kernel_rfl) (by kernel_rfl) ?_;simp only[dQ,aV,aZ,bB,bT]
         repeat (first | (refine cB rfl ?_; simp only[Act.put,ag,ai,ah]) | (refine cR rfl (fun K hK=> ?_); go_simp; refine hK _ ?_; clear hK K))
         refine cQ ?_;refine ei rfl (fun K hK=> ?_);go_wp2_with fail
         go_roundw
         case rel=>
          refine⟨j+1,by omega,by simp, ?_⟩;exact(HM.o.put h8 (by rw[<-Hq.o.1,<-Hq.o.2]; unfold fc tM; simp)).drew
         case measure=>simp[intOf]; omega
        ·obtain rfl:j=8:=by omega
         have Hs:wr.heap[vb]? =some (.cells (((rI v bs).list.map fc)).toArray 216 (0,0)):=by
          have h1:=HM.o.box;rw[cj,show Jn r v 8=(AG r v).list from rfl,Ik,Hn.o,<-Dp]at h1;exact h1
         have Hf:=an Hs;have Hm:=an (HM.o.keep HX.o (by have:=az hV.o; have:=hp.o; omega));obtain⟨cs8,hd⟩: ∃c,c=(rI v bs).list.map fc:=⟨_,rfl⟩;rw[<-hd]at Hf;have HG:=an hd;have hR:cs8.length=8:=by rw[hd]; rfl
         have hW:=an (mr Hf.o);have HO:=an (show(Tryz.prog.info? 216).map (·.size)=some cs8.length by rw[hR]; kernel_rfl);have Hh:=an (show(Tryz.prog.info? 216).map (·.size)=some cs8.toArray.size by rw[bU,hR]; kernel_rfl);have HZ:=an (show(List.replicate 8 (fc 0)).toArray.size=cs8.toArray.size by rw[bU,bU,hR]; rfl)
         have HR:=an (show cs8.toArray.all (·.oneCell')=true from dU (fun x hx=>by rw[hd]at hx; obtain⟨y,-,rfl⟩:=aW.1 hx; rfl));have HF:=an (show Below w.heap.size w wr from(hM.o.trans (hw.o.mono hM.o.size)).trans ((show Below w.heap.size W6 wr from by
          have h1:=ha.o.grown;have h2:=HM.o.grown;have yb:w.heap.size<=vb:=by rw[<-hp.o]; exact hM.o.size
          have HB:w.heap.size<=W6.heap.size:=aB hM.o.size hw.o.size;exact⟨h2.os.trans h1.os,h2.tape.trans h1.tape,h2.output.trans h1.output,aB h1.size h2.size,fun k hk=>(h2.block k (aR hk (aB HB h1.size)) (fun e=>by cases e; omega)).trans (h1.block k (aR hk HB) (fun e=>by cases e; omega))⟩)))
         clear Hs hd hR;go_wp2_with (first | (refine dO rfl 216 _ rfl vb 0 rfl cs8 _ hW.o fC rfl HO.o ?_) | (refine du rfl 216 _ _ rfl (w.heap.size+1) cs8.toArray rfl rfl _ _ Hm.o Hh.o HZ.o HR.o ?_) | fail);refine cN (results_cell_row rfl _ _ (w.heap.size+1) _ _ _ _ rfl (dW wr _ _ _ _ _ Hm.o) fC rfl Hh.o) rfl ?_
         exact⟨by rw[HG.o],er HF.o (by omega) _⟩
structure Az (w : World) : Prop where
 init:oI w
 kons:lY w
 pads:KE w
 ilt:2<w.heap.size
 klt:5<w.heap.size
 plt:0<w.heap.size
theorem Az.below {w w':World} (h:Az w) (hb:Below w.heap.size w w'):Az w':=
 ⟨h.init.below hb h.ilt,h.kons.below hb h.klt,⟨(hb.cell (p:=⟨0,0,none⟩) h.plt).trans h.pads.1,(hb.cell (p:=⟨0,1,none⟩) h.plt).trans h.pads.2⟩,aR h.ilt hb.size,aR h.klt hb.size,aR h.plt hb.size⟩
theorem yg (mb:Nat) (key data xs:List UInt8) (xv:Value) (w:World) (h:uw w mb key data) (hx:bG (· ≠mb) w xv xs) (hlen:64+data.length+xs.length<1152921504606846976) (hE:Az w) (hne:mb≠5):
  Calls Tryz.prog 147 #[.pointer (some ⟨mb,0,none⟩),xv] w fun e w'=>e= .returned (.tuple #[])/\uw w' mb key (data++xs)/\w.grownBy w' (some mb):=by
 have HH:=an h;have HX:=an hx;have HE:=an hE;clear h hx hE
 go_enter Tryz.func147,Tryz.ntmps147
 go_wp2_with fail;refine(lL mb 225 _ _ xs xv w HH.o HX.o (by rw[ar]; unfold gt; rw[aE,jn]; omega) HE.o.kons HE.o.klt hne).mono ?_;rintro e w1 ⟨rfl,h1,h2⟩;have H1:=an h1;have H2:=an h2;clear h1 h2;go_wp2_with fail
 go_end0
 refine⟨rfl, ?_,H2.o⟩;unfold uw;rw[<-bp];exact H1.o
theorem Pl (k d:List UInt8):yE k d=pV (nf [⟨(gt (iP k) 92).toArray⟩,⟨(pV (gt (iP k) 54++d)).toArray⟩]):=by
 unfold nf yE;rw[bq,bq,List.flatMap_nil,cj,iu,iu]
 rfl
theorem Ji {w:World} {mb:Nat} {key data:List UInt8} (h:uw w mb key data): ∃C:List Value,w.heap[mb]? =some (.cells C.toArray 225 (0,0))/\ ∀w',w'.heap[mb]? =some (.cells C.toArray 225 (0,0))->bG (fun _=>True) w' (.slice (some ⟨mb,73,none⟩) 64 64) (gt (iP key) 92):=by
 obtain⟨buf,h1,h2,h3⟩:=h;refine⟨_,h3,fun w' hw=> ?_⟩;have hl:(gt (iP key) 92).length=64:=by unfold gt; rw[aE,jn]
 refine⟨by simp,_,_,by rw[hl],by omega,by unfold maxLen; omega, .inr ⟨mb,73,rfl,trivial,fun j x hj=> ?_⟩⟩;rw[bu w' _ _ _ _ _ hw,ak,bI (by rw[mA _ h1]; omega),mA _ h1,show 73+j-73=j by omega];exact hj
theorem CB (mb:Nat) (key data:List UInt8) (w:World) (h:uw w mb key data) (hlen:64+data.length<288230376151711744) (hE:Az w):
  Calls Tryz.prog 148 #[.pointer (some ⟨mb,0,none⟩)] w fun e w'=>e= .returned (.string ⟨(yE key data).toArray⟩)/\Below w.heap.size w w':=by
 obtain⟨C,hC,hd⟩:=Ji h;have HH:=an h;have HE:=an hE;have HC:=an hC;have hh:=an hd;have hH:=az hC;clear h hE hC hd
 go_enter Tryz.func148,Tryz.ntmps148
 go_wp2_with fail;refine eH (fun w'=>w'.heap[mb]? =some (.cells C.toArray 225 (0,0))) (by kernel_rfl) ?_;obtain⟨V,hV⟩: ∃V:World,V=w.drew:=⟨_,rfl⟩;rw[<-hV];have hg:=an (show Below w.heap.size w V by rw[hV]; exact(ay _ _).drew);have ha:V.heap[mb]? =some (.cells C.toArray 225 (0,0)):=by rw[hV]; exact HC.o
 have hF:=an (show om V mb 225 ((gt (iP key) 92).map aY) (gt (iP key) 54++data) by rw[hV]; exact HH.o);clear hV
 iterate 5 (refine cF rfl (by kernel_rfl) (fun _ _ _ h=>h) rfl ha (by intro w' hu; go_simp; rfl) ?_; simp only[Act.put,ag,ai,ah])
 have hA: ∀w':World,w'.heap[mb]? =some (.cells C.toArray 225 (0,0))->(convert 29 9 (.slice (some ⟨mb,73,none⟩) 64 64)).run Tryz.prog w'= .ok (.string ⟨(gt (iP key) 92).toArray⟩) w':=fun w' hw=>Lf (hh.o w' hw)
 refine cF rfl (by kernel_rfl) (fun _ _ _ h=>h) rfl ha (by intro w' hu; have hG:=hA w' hu; go_simp; rfl) ?_;simp only[Act.put,ag,ai,ah];clear hA
 iterate 4 (refine cF rfl (by kernel_rfl) (fun _ _ _ h=>h) rfl ha (by intro w' hu; go_simp; rfl) ?_; simp only[Act.put,ag,ai,ah])
 refine cy 10 rfl (fun K hK=> ?_);go_wp2_with fail;refine(xE mb 225 _ _ V hF.o (by rw[ar]; unfold gt; rw[aE,jn]; omega) (HE.o.below hg.o).kons (HE.o.below hg.o).klt).mono ?_;rintro e w1 ⟨rfl,hn⟩;have hB:=an (aw hg.o hn);have hl:w1.heap[mb]? =some (.cells C.toArray 225 (0,0)):=dV hn ha;clear hn ha;go_wp2_with fail
 refine⟨hl, ?_⟩;refine cy 11 rfl (fun K hK=> ?_);obtain⟨so,hr⟩: ∃so:ByteArray,so=⟨(gt (iP key) 92).toArray⟩:=⟨_,rfl⟩;obtain⟨si,hq⟩: ∃si:ByteArray,si=⟨(pV (gt (iP key) 54++data)).toArray⟩:=⟨_,rfl⟩;have hy:=an hr;have hx:=an hq;rw[<-hr,<-hq];clear hr hq;go_wp2_with fail;obtain⟨w2,hf⟩: ∃w2,w2=w1.alloc (.cells #[.string so, .string si] 9):=⟨_,rfl⟩
 rw[<-hf];have ho:Below w1.heap.size w1 w2:=by rw[hf]; exact eN
 have hv:=an (aw hB.o ho);have hm:w2.heap[mb]? =some (.cells C.toArray 225 (0,0)):=dV ho hl;have hk:=an (show lF (fun _=>True) w2 (.slice (some ⟨w1.heap.size,0,none⟩) 2 2) [so,si]from⟨by simp,_,_,rfl,by simp,by unfold maxLen; omega, .inr ⟨_,_,rfl,trivial,fun j x hj=>by
  rw[hf,bu _ _ _ _ _ _ (aH w1 _),bX]; simpa using hj⟩⟩)
 clear hf ho hl;refine⟨hm, ?_⟩;refine cy 12 rfl (fun K hK=> ?_);go_wp2_with fail;have he:=HE.o.below hv.o;have hc:so.size=64:=by rw[hy.o,bi,iu]; unfold gt; rw[aE,jn]
 have hb:si.size=32:=by rw[hx.o,bi,iu,tD]
 refine(DF (fun _=>True) [so,si] _ w2 hk.o (fun s hs=>by
  simp only[bh,dt,or_false]at hs;unfold maxLen
  rcases hs with rfl | rfl<;> omega) (by simp) (by unfold nf; rw[bq,bq,List.flatMap_nil,cj,ar,<-bi,<-bi,hc,hb]; decide) he.init he.kons he.klt).mono ?_
 rintro e w3 ⟨rfl,hp⟩;have hD:=an (aw hv.o hp);have hz:w3.heap[mb]? =some (.cells C.toArray 225 (0,0)):=dV hp hm;rw[hy.o,hx.o,<-Pl];clear hp hm he hc hb;go_wp2_with fail;refine⟨hz, ?_⟩;refine cy 13 rfl (fun K hK=> ?_);go_wp2_with fail;refine⟨hz, ?_⟩;refine cH (by kernel_rfl) ?_;go_wp2_with fail;go_ret;exact⟨rfl,hD.o⟩
theorem uM (S:Nat->Prop) (key:ByteArray) (xs:List UInt8) (xv:Value) (w:World) (hk:key.size<=64) (hx:bG S w xv xs) (hlen:xs.length<281474976710656) (hE:Az w):
  Calls Tryz.prog 116 #[.string key,xv] w fun e w'=>e= .returned (.string ⟨(yE (bl key) xs).toArray⟩)/\Below w.heap.size w w':=by
 have HX:=an hx;have HE:=an hE;clear hx hE
 go_enter Tryz.func116,Tryz.ntmps116
 go_wp2_with fail;refine(CA key w hk HE.o.init HE.o.kons HE.o.pads HE.o.klt HE.o.plt HE.o.ilt).mono ?_;rintro e w1 ⟨mb,rfl,hh,hm,hb⟩;have HM:=an hm;have HB:=an hb;clear hm hb;go_wp2_with fail;refine(yg mb (bl key) [] xs xv w1 HM.o ?_ (by simp; omega) (HE.o.below HB.o) (by have:=HE.o.klt; omega)).mono ?_
 ·have h2:=cE.mono (T:=fun k=>k≠mb) HX.o (fun k hk _=>by show k≠mb; omega) (by omega);exact cE.below h2 (by omega) HB.o
 ·rintro e w2 ⟨rfl,ha,he⟩;rw[aL]at ha;have hg:=an ha;have hc:=an (HB.o.grown he HB.o.size (fun k hk=>by cases hk; omega));clear ha he;go_wp2_with fail;refine(CB mb (bl key) xs w2 hg.o (by omega) (HE.o.below hc.o)).mono ?_;rintro e w3 ⟨rfl,hd⟩;have hf:=an (aw hc.o hd);clear hd;go_wp2_with fail;go_ret;exact⟨rfl,hf.o⟩
end Go.Proofs.YtpffpjbkbaleiaaGreatDoor
namespace Go.Proofs.YtpffpjbkbaleiaaGreatDoor
open Go.RowKit
def jM :Nat->Nat->List UInt8
 | 0,n=>[UInt8.ofNat n]
 | f+1,n=>if 127<n then UInt8.ofNat (n%128+128)::jM f (n/128)else [UInt8.ofNat n]
def bE (n:Nat):List UInt8:=jM 10 n
theorem Dh : ∀(f n:Nat),(jM f n).length<=f+1
 | 0,_=>by simp[jM]
 | f+1,n=>by
  rw[jM]
  split
  ·have:=Dh f (n/128); simp; omega
  ·simp
theorem dw (n:Nat):(bE n).length<=11:=Dh 10 n
def Kz (bs:List UInt8) (w:World) (e:Ending) (w':World):Prop:= ∃v,e= .returned v/\bG (w.heap.size<= ·) w' v bs/\Below w.heap.size w w'
theorem mf {n:Nat} (h:n<256):aY (UInt8.ofNat n)= .int .u8 (n:Int):=by
 unfold aY; rw[dS (by exact h)]
theorem oZ (b:UInt8): ∀u∈[aY b],u.oneCell'=true:=by simp[aY,Value.oneCell']
theorem mz (n:Nat) (w:World) (hn:n<18446744073709551616):Calls Tryz.prog 103 #[.int .u64 (n:Int)] w (Kz (bE n) w):=by
 have HO:=an (di (e:=5) (size:=1) (base:=w.heap.size) w #[] 0 (au _) (aX _) (by simp));have HB:=an ((ay w.heap.size w).alloc (au _) (.cells #[] 5))
 go_enter Tryz.func103,Tryz.ntmps103
 go_wp2_with fail
 go_loopw [0,3] (fun x o wr=> ∃(f m:Nat) (acc:List UInt8),x= .int .u64 (m:Int)/\m<18446744073709551616/\m<2^(7*f)/\acc++jM f m=bE n/\wr.ownsRow w.heap.size 5 1 o acc.length (acc.map aY)/\acc.length<=20/\Below w.heap.size w wr) (fun x _ _=>(intOf x).toNat)
 case atStart=>exact⟨10,n,[],rfl,hn,iY hn (by decide),rfl,HO.o,by simp,HB.o⟩
 case round=>
  obtain⟨f,m,acc,rfl,hm,hs,he,hd,hw,hb⟩:=hrel;have HE:=an he;have hf:=an hd;have hq:=an hb;have hr:=an hs;have hg:=hb.size;obtain⟨ao,co,rfl,h1,h2⟩:=aI hd;clear he hd hb hs HO HB
  by_cases hp:127<m
  ·have hv:Value.int .u8 ((m:Int)%128+128)=aY (UInt8.ofNat (m%128+128)):=by rw[mf (by omega)]; simp
   have HV:=an hv;obtain⟨f,rfl⟩: ∃g,f=g+1:=⟨f-1,by
    cases f with
    | zero=>have:=hr.o; simp at this; omega
    | succ g=>rfl⟩
   have hj:=an (show(acc++[UInt8.ofNat (m%128+128)])++jM f (m/128)=bE n by rw[<-HE.o,jM,if_pos hp]; simp);have hl:=an (show m/128<2^(7*f) by
    have h3:=hr.o;rw[show 7*(f+1)=7*f+7 by omega,gd]at h3;exact eX (by omega))
   have hu:acc.length<=10:=by
    have h4:=dw n;rw[<-HE.o,ar,jM,if_pos hp,aG]at h4;omega
   clear hv;go_wp2_with (at_builtin; go_must (refine iN Tryz.appBytes rfl _ _ rfl w.heap.size (.slice ao acc.length co) acc.length (acc.map aY) rfl wr [.int .u8 ((m:Int)%128+128)] _ rfl rfl (by rw[HV.o]; exact oZ _) hf.o (by omega) hg ?_); intro v' wc hc ha _; have hh:=an (cg hq.o hf.o ha (au _) hg); have ho:=an (show wc.ownsRow w.heap.size 5 1 v' (acc++[UInt8.ofNat (m%128+128)]).length ((acc++[UInt8.ofNat (m%128+128)]).map aY) by rw[ar,aO,cw,eL,<-HV.o]; exact hc); obtain⟨ae,ce,rfl,-,-⟩:=aI hc; clear hc ha)
   go_roundw
   case rel=>exact⟨f,m/128,acc++[UInt8.ofNat (m%128+128)],by simp,by omega,hl.o,hj.o,ho.o,by simp; omega,hh.o⟩
   case measure=>simp[intOf]; omega
  ·have hv:Value.int .u8 (m:Int)=aY (UInt8.ofNat m):=by rw[mf (by omega)]
   have HV:=an hv;have hj:=an (show acc++[UInt8.ofNat m]=bE n by
    rw[<-HE.o]
    cases f with
    | zero=>rfl
    | succ f=>rw[jM,if_neg hp])
   clear hv;go_wp2_with (at_builtin; go_must (refine iN Tryz.appBytes rfl _ _ rfl w.heap.size (.slice ao acc.length co) acc.length (acc.map aY) rfl wr [.int .u8 (m:Int)] _ rfl rfl (by rw[HV.o]; exact oZ _) hf.o (by omega) hg ?_); intro v' wc hc ha _; have hh:=an (cg hq.o hf.o ha (au _) hg); have ho:=an (show wc.ownsRow w.heap.size 5 1 v' (acc++[UInt8.ofNat m]).length ((acc++[UInt8.ofNat m]).map aY) by rw[ar,aO,cw,eL,<-HV.o]; exact hc); obtain⟨ae,ce,rfl,-,-⟩:=aI hc; clear hc ha)
   go_ret;rw[<-hj.o];exact⟨_,rfl,(cG ho.o).weak (fun k hk=>hk.1),hh.o⟩
def lf :List UInt8->Nat
 | []=>0
 | b::l=>b.toNat%128+128*lf l
def ut (l:List UInt8):Nat:=lf l%18446744073709551616
def yu (data:List UInt8) (off:Nat):Nat->Nat->Except Int (Nat×Nat)
 | 0,_=> .error 3
 | f+1,k=>match data[off+k]? with
  | none=> .error 3
  | some b=>if 128<=b.toNat then yu data off f (k+1)
   else if bE (ut ((data.drop off).take (k+1)))=(data.drop off).take (k+1)then .ok (ut ((data.drop off).take (k+1)),off+k+1)else .error 3
theorem Br : ∀l:List UInt8,lf l<2^(7*l.length)
 | []=>by simp[lf]
 | b::l=>by
  have:=Br l;rw[lf,aG,show 7*(l.length+1)=7*l.length+7 by omega,gd];omega
theorem ur : ∀(l:List UInt8) (b:UInt8),lf (l++[b])=lf l+b.toNat%128*2^(7*l.length)
 | [],b=>by simp[lf]
 | c::l,b=>by
  rw[aM,lf,ur l b,lf,aG,show 7*(l.length+1)=7*l.length+7 by omega,gd,Nat.mul_add];have:128*(b.toNat%128*2^(7*l.length))=b.toNat%128*(2^(7*l.length)*2^7):=by
   rw[Nat.mul_left_comm,Nat.mul_comm 128]
  omega
theorem xP : ∀(f n:Nat),n<2^(7*(f+1))->lf (jM f n)=n
 | 0,n,h=>by
  have h1:n<128:=h;rw[jM,lf,lf,dS (by show n<256; omega)]; omega
 | f+1,n,h=>by
  rw[jM]
  split
  ·rw[lf,xP f (n/128) (by
    rw[show 7*(f+1+1)=7*(f+1)+7 by omega,gd]at h;exact eX (by omega)),dS (by show _<256; omega)]
   omega
  ·rw[lf,lf,dS (by show n<256; omega)]; omega
theorem CP : ∀(f n:Nat) (c:UInt8) (l:List UInt8),0<n->n<2^(7*(f+1))->jM f n=l++[c]->c.toNat≠0
 | 0,n,c,l,h0,h,he=>by
  have h1:n<128:=h;rw[jM]at he;have:c=UInt8.ofNat n:=by
   have:=congrArg List.getLast? he
   simpa using this.symm
  rw[this,dS (by show n<256; omega)]; omega
 | f+1,n,c,l,h0,h,he=>by
  rw[jM]at he
  split at he
  ·cases l with
   | nil=>
    simp only[aL,fi]at he;have:=congrArg List.length he.2;have h3:(jM f (n/128)).length≠0:=by cases f<;> (rw[jM]; try split)<;> simp
    simp at this; exact absurd (by simp[this]) h3
   | cons d l=>
    simp only[aM,fi]at he;exact CP f (n/128) c l (by omega) (by
     rw[show 7*(f+1+1)=7*(f+1)+7 by omega,gd]at h;exact eX (by omega)) he.2
  ·have:c=UInt8.ofNat n:=by
    have:=congrArg List.getLast? he
    simpa using this.symm
   rw[this,dS (by show n<256; omega)]; omega
theorem GL : ∀(f:Nat) (l:List UInt8) (c:UInt8),(∀b∈l,128<=b.toNat)->c.toNat<128->(l≠[]->c.toNat≠0)->l.length<=f->jM f (lf (l++[c]))=l++[c]
 | f,[],c,_,h2,_,_=>by
  have hv:lf ([]++[c])=c.toNat:=by simp[lf]; omega
  rw[hv];have hc:UInt8.ofNat c.toNat=c:=UInt8.ofNat_toNat
  cases f with
  | zero=>rw[jM,hc]; rfl
  | succ f=>rw[jM,if_neg (by omega),hc]; rfl
 | 0,b::l,c,_,_,_,h4=>by simp at h4
 | f+1,b::l,c,h1,h2,h3,h4=>by
  have hb:=h1 b (by simp);have ha:=b.toNat_lt;have hr:=GL f l c (fun x hx=>h1 x (by simp[hx])) h2 (fun _=>h3 (by simp)) (by simpa using h4);have hp:0<lf (l++[c]):=by
   rw[ur];have hc:=h3 (by simp);have:0<c.toNat%128*2^(7*l.length):=Nat.mul_pos (by omega) (Nat.two_pow_pos _);omega
  rw[aM,jM,lf,if_pos (by omega),show(b.toNat%128+128*lf (l++[c]))/128=lf (l++[c]) by omega,hr,
   show(b.toNat%128+128*lf (l++[c]))%128+128=b.toNat by omega,UInt8.ofNat_toNat]
theorem Mc (m x k:Nat) (h:m<2^k):m ||| (x*2^k)=m+x*2^k:=by
 rw[Nat.or_comm,Nat.mul_comm,<-Nat.two_pow_add_eq_or_of_lt h,lQ]
theorem Ma (m:Nat) (b:UInt8) (k:Nat) (hk:k<=9) (h:m<2^(7*k)):yt m b k=(m+b.toNat%128*2^(7*k))%18446744073709551616:=by
 unfold yt;have hb:b.toNat%128<128:=by omega
 generalize b.toNat%128=x at hb
 by_cases h9:k=9
 ·subst h9;have e:x*2^(7*9)%18446744073709551616=x%2*2^(7*9):=by
   simp only[Nat.reduceMul,Nat.reducePow]; omega
  rw[e,Mc _ _ _ h];simp only[Nat.reduceMul,Nat.reducePow]at *;omega
 ·have hp:2^(7*k)*128<=18446744073709551616:=by
   rw[show(128:Nat)=2^7 from rfl,show(18446744073709551616:Nat)=2^64 from rfl,<-gd];exact gG (by omega) (by omega)
  have hx:x*2^(7*k)+2^(7*k)<=2^(7*k)*128:=by
   rw[Nat.mul_comm (2^(7*k)),<-Nat.succ_mul]; exact dl _ (by omega)
  rw[eu (by omega),Mc _ _ _ h,eu (by omega)]
theorem Dk (data:List UInt8) (off:Nat): ∀(f k:Nat),k+f=10->(∀b∈(data.drop off).take k,128<=b.toNat)->off+k<=data.length->
  oO data f k (off+k) (lf ((data.drop off).take k))=yu data off f k
 | 0,_,_,_,_=>rfl
 | f+1,k,hk,hp,hle=>by
  rw[oO,yu]
  cases hd:data[off+k]? with
  | none=>rfl
  | some b=>
   have hb8:=b.toNat_lt;have hlt:off+k<data.length:=(aN.1 hd).1;have hlen:((data.drop off).take k).length=k:=by simp; omega
   have hh:(data.drop off).take (k+1)=(data.drop off).take k++[b]:=by
    rw[bZ,fz,hd]; rfl
   have hm:=Br ((data.drop off).take k);rw[hlen]at hm;have hs:=ur ((data.drop off).take k) b;rw[hlen,<-hh]at hs;have hn:=Ma _ b k (by omega) hm;rw[<-hs]at hn;simp only
   by_cases ha:128<=b.toNat
   ·rw[if_pos ha,if_pos ha]
    by_cases hf:f=0
    ·subst hf; rfl
    ·have hl:lf ((data.drop off).take (k+1))<18446744073709551616:=by
      have:=Br ((data.drop off).take (k+1));refine aR this ?_;rw[show(18446744073709551616:Nat)=2^64 from rfl];exact gG (by omega) (by simp; omega)
     rw[hn,eu hl];have:=Dk data off f (k+1) (by omega) (by
      intro x hx;rw[hh,aU]at hx
      rcases hx with hx | hx
      ·exact hp x hx
      ·simp at hx; subst hx; exact ha) (by omega)
     exact this
   ·rw[if_neg ha,if_neg ha,hn];have hg:ut ((data.drop off).take (k+1))=lf ((data.drop off).take (k+1))%18446744073709551616:=rfl;have hr:ut ((data.drop off).take (k+1))<2^(7*(10+1)):=by rw[hg]; exact iY (cV _ (by decide)) (by decide)
    by_cases hb:oN b k=true
    ·rw[if_pos hb,if_neg];intro he;have h1:=xP 10 _ hr;rw[show jM 10 _=_ from he]at h1;simp only[oN,gE,aJ,aK]at hb
     rcases hb with⟨h2,h3⟩ | ⟨h2,h3⟩
     ·have ho:0<lf ((data.drop off).take (k+1))%18446744073709551616:=by
       rcases eU (lf ((data.drop off).take (k+1))%18446744073709551616)with h0 | h0
       ·exfalso
        rw[hg,h0]at he;have:=congrArg List.length he;simp[bE,jM]at this;omega
       ·exact h0
      exact CP 10 _ b ((data.drop off).take k) (by rw[hg]; exact ho) hr (by rw[<-hh]; exact he) h3
     ·subst h2;rw[hs]at h1;have h5:ut ((data.drop off).take (9+1))<18446744073709551616:=by rw[hg]; exact cV _ (by decide)
      rw[<-h1]at h5;simp only[Nat.reduceMul,Nat.reducePow]at h5;omega
    ·rw[if_neg hb];have hc:oN b k=false:=by simpa using hb
     simp only[oN,fH,Bool.and_eq_false_iff,ee]at hc;have hq:lf ((data.drop off).take (k+1))<18446744073709551616:=by
      rw[hs]
      by_cases h9:k=9
      ·subst h9;have: ¬1<b.toNat:=hc.2.elim (fun h=>absurd rfl h) id;simp only[Nat.reduceMul,Nat.reducePow]at hm ⊢;omega
      ·have hp:2^(7*k)*128<=18446744073709551616:=by
        rw[show(128:Nat)=2^7 from rfl,show(18446744073709551616:Nat)=2^64 from rfl,<-gd];exact gG (by omega) (by omega)
       have hx:b.toNat%128*2^(7*k)+2^(7*k)<=2^(7*k)*128:=by
        rw[Nat.mul_comm (2^(7*k)),<-Nat.succ_mul]; exact dl _ (by omega)
       omega
     have hu:ut ((data.drop off).take (k+1))=lf ((data.drop off).take (k+1)):=by rw[hg,eu hq]
     have hj:bE (ut ((data.drop off).take (k+1)))=(data.drop off).take (k+1):=by
      rw[hu,hh];refine GL 10 _ b hp (by omega) ?_ (by omega);intro hv;have:0<k:=by
       rcases eU k with h0 | h0
       ·subst h0; simp at hv
       ·exact h0
      rcases hc.1 with h | h
      ·exact absurd this h
      ·exact h
     rw[if_pos hj,eu hq,hu]
theorem LY (data:List UInt8) (off:Nat) (h:off<=data.length):ol data off=yu data off 10 0:=by
 have:=Dk data off 10 0 rfl (by simp) (by omega)
 simpa [lf,ol]using this
theorem KZ {S:Nat->Prop} {w w':World} {a:Option Addr} {n cap:Nat} {l:List UInt8} (hv:bG S w (.slice a n cap) l) (hb:Below w.heap.size w w') {k:Nat} {x:UInt8} (hx:l[k]? =some x): ∃b o,a=some ⟨b,o,none⟩/\w'.cell? ⟨b,o+k,none⟩=some (.int .u8 (x.toNat:Int)):=by
 obtain⟨hl,a',cap',ha,_,_,h0⟩:=hv
 cases ha
 rcases h0 with h0 | ⟨b,o,rfl,_,hc⟩
 ·simp[List.eq_nil_of_length_eq_zero h0]at hx
 ·have h1:=hc k (aY x) (by simp[hx]);exact⟨b,o,rfl,(hb.cell (bS h1)).trans h1⟩
theorem NV {data:List UInt8} {off f k:Nat} {b:UInt8} (h:data[off+k]? =some b) (h1: ¬128<=b.toNat) (h2:bE (ut ((data.drop off).take (k+1)))=(data.drop off).take (k+1)):yu data off (f+1) k= .ok (ut ((data.drop off).take (k+1)),off+(k+1)):=by
 rw[yu,h]; simp only[if_neg h1,if_pos h2]; rfl
theorem Ju {data:List UInt8} {off f k:Nat} {b:UInt8} (h:data[off+k]? =some b) (h1:128<=b.toNat):yu data off (f+1) k=yu data off f (k+1):=by
 rw[yu,h]; simp only[if_pos h1]
structure jF where
 kind:Int
 u:Nat
 n:Int
 b:Bool
 s:ByteArray
 most:Int
def sq (x:jF):List Value:=[.int .i64 x.kind, .int .u64 (x.u:Int), .int .i64 x.n, .bool x.b, .string x.s, .int .i64 x.most]
structure xY (x : jF) : Prop where
 u:x.u<18446744073709551616
 n: -9223372036854775808<=x.n/\x.n<=9223372036854775807
 s:x.s.size<=65536
 k:x.kind≠2
def Np (c:List Value) (x:jF):Prop:=c=sq x/\xY x
theorem Np.len (c:List Value) (x:jF) (h:Np c x):c.length=6:=by rw[h.1]; rfl
def yL (S:Nat->Prop) (w:World) (v:Value) (l:List jF):Prop:=cL S w 6 Np v l
theorem Pj {S:Nat->Prop} {w w':World} {a:Option Addr} {n cap:Nat} {l:List jF} (hv:yL S w (.slice a n cap) l) (hb:Below w.heap.size w w') {k:Nat} {x:jF} (hr:l[k]? =some x):
  ∃b o,a=some ⟨b,o,none⟩/\xY x/\ ∀j,j<6->w'.cell? ⟨b,o+k*6+j,none⟩=(sq x)[j]? :=by
 obtain⟨a',cap',he,_,_,hx⟩:=cL.shape hv Np.len
 cases he
 obtain⟨b,o,c,rfl,hS,⟨rfl,hd⟩,_,ha⟩:=hx k x hr;have q0:=ha 0 (by omega);have hc:b<w.heap.size:=bS (a:=⟨b,o+(k*6+0),none⟩) (v:= .int .i64 x.kind) q0;refine⟨b,o,rfl,hd,fun j hj=> ?_⟩;rw[df];exact(hb.cell (p:=⟨b,o+(k*6+j),none⟩) hc).trans (ha j hj)
def lB (x:jF):Except Int (List UInt8):=
 if x.kind=1 then .ok (bE x.u)
 else if x.kind=3 then .ok [if x.b then 1 else 0]
 else if x.kind=4\/x.kind=5 then .ok (bE x.s.size++bl x.s)
 else if x.kind=6 then(if x.s.size=32 then .ok (bl x.s)else .error 1)
 else if x.kind=7 then(if x.n<0 then .error 1 else .ok (bE x.n.toNat))
 else .ok []
def fu :List jF->Except Int (List UInt8)
 | []=> .ok []
 | x::l=>match lB x with
  | .error e=> .error e
  | .ok a=>match fu l with
   | .error e=> .error e
   | .ok b=> .ok (a++b)
theorem rP {x:jF} {e:Int} : ∀ {l:List jF} {k:Nat} {a:List UInt8},fu (l.take k)= .ok a->l[k]? =some x->lB x= .error e->fu l= .error e
 | [],k,a,_,h2,_=>by simp at h2
 | y::l,0,a,_,h2,h3=>by
  simp at h2; subst h2;simp only[fu,h3]
 | y::l,k+1,a,h1,h2,h3=>by
  rw[aV,fu]at h1
  cases hy:lB y with
  | error e=>rw[hy]at h1; simp at h1
  | ok b=>
   rw[hy]at h1;simp only at h1
   cases hk:fu (l.take k)with
   | error e=>rw[hk]at h1; simp at h1
   | ok c=>
    have:=rP hk (by simpa using h2) h3;simp only[fu,hy,this]
theorem jm {x:jF} {b:List UInt8} : ∀ {l:List jF} {a:List UInt8},fu l= .ok a->lB x= .ok b->fu (l++[x])= .ok (a++b)
 | [],a,h1,h2=>by
  simp only[fu,dr]at h1;subst h1;simp[fu,h2]
 | y::l,a,h1,h2=>by
  rw[fu]at h1
  cases hy:lB y with
  | error e=>rw[hy]at h1; simp at h1
  | ok c=>
   rw[hy]at h1;simp only at h1
   cases hk:fu l with
   | error e=>rw[hk]at h1; simp at h1
   | ok d=>
    rw[hk]at h1;simp only[dr]at h1;subst h1;simp only[aM,fu,hy,jm hk h2,bp]
def yf (l:List jF):Except Int (List UInt8):=match fu l with
 | .error e=> .error e
 | .ok out=>if 1048576<out.length then .error 2 else .ok out
def OH (res:Except Int (List UInt8)) (w:World) (e:Ending) (w':World):Prop:=Below w.heap.size w w'/\match res with
 | .error x=>e= .returned (.tuple #[.slice none 0 0, .int .i64 x])/\x≠0
 | .ok bs=> ∃v,e= .returned (.tuple #[v, .int .i64 0])/\bG (w.heap.size<= ·) w' v bs
def Ed (res:Except Int (List UInt8)) (w:World) (e:Ending) (w':World):Prop:=Below w.heap.size w w'/\match res with
 | .error x=>e= .returned (.tuple #[.slice none 0 0, .int .i64 x])/\x≠0
 | .ok bs=> ∃v,e= .returned (.tuple #[v, .int .i64 0])/\w'.ownsRow w.heap.size 5 1 v bs.length (bs.map aY)
theorem Ed.res {res:Except Int (List UInt8)} {w w':World} {e:Ending} (h:Ed res w e w'):OH res w e w':=by
 refine⟨h.1, ?_⟩;have h2:=h.2
 cases res with
 | error x=>exact h2
 | ok bs=>
  obtain⟨v,h3,h4⟩:=h2;exact⟨v,h3,(cG h4).weak (fun k hk=>hk.1)⟩
theorem DM (s:ByteArray):Lib.strCells s=(bl s).map aY:=rfl
theorem lh {ops:Array Oper} {rest:List Oper} {o:Oper} {a:Act} {Q:Exit->Act->World->Prop} {w:World} (hgd:o.guard=none) (sl x:Operand)
  (ho:o.op= .call {callee:= .builtin .append,args:= #[sl,x],argTypes:= #[29,9]}) (base:Nat) (v:Value) (acc:List UInt8) (hs:a.eval sl=v) (hown:w.ownsRow base 5 1 v acc.length (acc.map aY)) (s:ByteArray) (hx:a.eval x= .string s)
  (hn:acc.length+s.size<1099511627775) (hbase:base<=w.heap.size)
  (h: ∀v' w',w'.ownsRow base 5 1 v' (acc.length+s.size) (acc.map aY++(bl s).map aY)->w.grownBy w' v.ownBlock->wpList Tryz.prog ops Q rest (a.put o.dst v') w'):wpList Tryz.prog ops Q (o::rest) a w:=by
 obtain⟨ht,⟨i,z,ha,he,hb,hc,hf⟩,hd,hg⟩:=Tryz.appBytes;have hz:i.zero=some (.int .u8 0):=by
  have:(Tryz.prog.info? 5).map (fun i=>i.zero)=some (some (.int .u8 0)):=by kernel_rfl
  rw[ha]at this;exact bK this
 refine Lib.wpList_append_own_string w hgd sl x 29 9 ho base 5 i ht dR ha hz hb hc v acc.length _ hs hown s hx (by unfold maxLen; omega) (by omega) hbase fun v' w' h1 h2 _=>h v' w' ?_ h2
 rw[<-DM];exact h1
theorem sk {w:World} {base:Nat} {e:TypeId} {sz:Nat} {v:Value} {n:Nat} {xs:List Value} {k:Nat} (h:w.ownsRow base e sz v n xs) (hk:v.ownBlock=some k): ∃cs,w.heap[k]? =some (.cells cs e (0,0)):=by
 obtain⟨_,h2⟩:=h
 rcases h2 with⟨rfl,rfl⟩ | ⟨g,cap,cur,rfl,_,hh,_⟩
 ·cases hk
 ·have:g=k:=by simpa [Value.ownBlock]using hk
  subst this;exact⟨cur,hh⟩
theorem Ez (S:Nat->Prop) (v:Value) (l:List jF) (w:World) (hv:yL S w v l) (hlen:l.length<=1000000):Calls Tryz.prog 57 #[v] w (Ed (yf l) w):=by
 obtain⟨a,cap,rfl,hc,hm,-⟩:=cL.shape hv Np.len;unfold maxLen at hm;have HV:=an hv;have Hb:=an (di (e:=5) (size:=1) (base:=w.heap.size) w #[] 0 (au _) (aX _) (by simp));have h9:=an ((ay w.heap.size w).alloc (au _) (.cells #[] 5));clear hv
 go_enter Tryz.func57,Tryz.ntmps57
 go_wp2_with fail
 go_loopw [4,5] (fun o i wr=> ∃(k:Nat) (acc:List UInt8),k<=l.length/\i= .int .i64 k/\fu (l.take k)= .ok acc/\wr.ownsRow w.heap.size 5 1 o acc.length (acc.map aY)/\acc.length<=k*65556/\Below w.heap.size w wr) (fun _ i _=>l.length-(intOf i).toNat)
 case atStart=>exact⟨0,[],aX _,rfl,rfl,Hb.o,by simp,h9.o⟩
 case round=>
  obtain⟨k,acc,hk,rfl,hS,hN,Hg,hb⟩:=hrel;have HE:=an hS;have HO:=an hN;have HB:=an hb;obtain⟨ao,co,rfl,Hl,Hm⟩:=aI hN;clear hS hN hb Hb h9
  by_cases Hh:k<l.length
  ·obtain⟨x,hx⟩: ∃x,l[k]? =some x:=⟨l[k],by simp[Hh]⟩;obtain⟨b0,o,rfl,hU,hJ⟩:=Pj HV.o HB.o hx;have HG:=an hx;have hE:=an (dZ hx);have Hk:=hU.u;have Hj:=hU.s;have hX:=hU.k;obtain⟨h0,h8⟩:=hU.n;have q0:=hJ 0 (by omega);have q1:=hJ 1 (by omega);have q2:=hJ 2 (by omega);have q3:=hJ 3 (by omega);have q4:=hJ 4 (by omega);have q5:=hJ 5 (by omega)
   simp only[sq,aj,am,de]at q0 q1 q2 q3 q4 q5;obtain⟨kd,u,n,b,s,mo⟩:=x;simp only at Hk Hj hX h0 h8 q0 q1 q2 q3 q4 q5;clear hx hJ hU;have hP:=an ((ay wr.heap.size wr).alloc (au _) (.cells #[.int .i64 kd, .int .u64 (u:Int), .int .i64 n, .bool b, .string s, .int .i64 mo] 96));have hr:=an (jw HO.o hP.o)
   have hn:=an (aw HB.o hP.o)
   by_cases h1:kd=1
   ·subst h1;have HX:=an (show lB ⟨1,u,n,b,s,mo⟩= .ok (bE u)from rfl);have hl:=an (show acc.length+(bE u).length<=(k+1)*65556 by have:=dw u; omega);have He:=dw u;go_wp2_with fail;refine(mz u _ (by omega)).mono ?_;rintro e w1 ⟨nv,rfl,hB,hh⟩;have hH:=an hB;have hs:=an (aw hn.o hh);have hy:=an (jw hr.o hh)
    have he:=hs.o.size;obtain⟨_,na,nc,rfl,hL,hM,-⟩:=hB;clear hh q0 q1 q2 q3 q4 q5;go_wp2_with (at_builtin; go_must (refine el Tryz.appBytes rfl _ _ rfl w.heap.size (.slice ao acc.length co) acc.length (acc.map aY) rfl hy.o _ (bE u).length ((bE u).map aY) rfl hH.o (fo _) (by omega) he ?_); intro v' wc hd ha; have hg:=an hd; have ho:=an (cg hs.o hy.o ha (au _) he); obtain⟨ae,ce,rfl,-,-⟩:=aI hd; clear hd ha)
    go_roundw
    case rel=>exact⟨k+1,acc++(bE u),by omega,by go_num,by rw[hE.o]; exact jm HE.o HX.o,by rw[ar,aO]; exact hg.o,by rw[ar]; exact hl.o,ho.o⟩
    case measure=>simp[intOf]; omega
   ·by_cases h3:kd=3
    ·subst h3;have he:=hn.o.size
     cases b
     ·have HX:=an (show lB ⟨3,u,n,false,s,mo⟩= .ok [0]from rfl);have hl:=an (show acc.length+([0]:List UInt8).length<=(k+1)*65556 by simp; omega);obtain⟨W,hW⟩: ∃W:World,W=wr.alloc (.cells #[.int .i64 3, .int .u64 (u:Int), .int .i64 n, .bool false, .string s, .int .i64 mo] 96):=⟨_,rfl⟩;rw[<-hW]at hr hn he;clear hP
      go_upto_region 14 with(fail)
      rw[<-hW];clear hW q0 q1 q2 q3 q4 q5;go_wp2_with (at_builtin; go_must (refine iN Tryz.appBytes rfl _ _ rfl w.heap.size (.slice ao acc.length co) acc.length (acc.map aY) rfl W [.int .u8 0] _ rfl rfl (oZ 0) hr.o (by omega) he ?_); intro v' wc hd ha _; have hg:=an (show wc.ownsRow w.heap.size 5 1 v' (acc.length+([0]:List UInt8).length) (acc.map aY++([0]:List UInt8).map aY)from hd); have ho:=an (cg hn.o hr.o ha (au _) he); obtain⟨ae,ce,rfl,-,-⟩:=aI hd; clear hd ha)
      go_roundw
      case rel=>exact⟨k+1,acc++([0]:List UInt8),by omega,by go_num,by rw[hE.o]; exact jm HE.o HX.o,by rw[ar,aO]; exact hg.o,by rw[ar]; exact hl.o,ho.o⟩
      case measure=>simp[intOf]; omega
     ·have HX:=an (show lB ⟨3,u,n,true,s,mo⟩= .ok [1]from rfl);have hl:=an (show acc.length+([1]:List UInt8).length<=(k+1)*65556 by simp; omega);obtain⟨W,hW⟩: ∃W:World,W=wr.alloc (.cells #[.int .i64 3, .int .u64 (u:Int), .int .i64 n, .bool true, .string s, .int .i64 mo] 96):=⟨_,rfl⟩;rw[<-hW]at hr hn he;clear hP
      go_upto_region 13 with(fail)
      rw[<-hW];clear hW q0 q1 q2 q3 q4 q5;go_wp2_with (at_builtin; go_must (refine iN Tryz.appBytes rfl _ _ rfl w.heap.size (.slice ao acc.length co) acc.length (acc.map aY) rfl W [.int .u8 1] _ rfl rfl (oZ 1) hr.o (by omega) he ?_); intro v' wc hd ha _; have hg:=an (show wc.ownsRow w.heap.size 5 1 v' (acc.length+([1]:List UInt8).length) (acc.map aY++([1]:List UInt8).map aY)from hd); have ho:=an (cg hn.o hr.o ha (au _) he); obtain⟨ae,ce,rfl,-,-⟩:=aI hd; clear hd ha)
      go_roundw
      case rel=>exact⟨k+1,acc++([1]:List UInt8),by omega,by go_num,by rw[hE.o]; exact jm HE.o HX.o,by rw[ar,aO]; exact hg.o,by rw[ar]; exact hl.o,ho.o⟩
      case measure=>simp[intOf]; omega
    ·by_cases h4:kd=4\/kd=5
     ·have HX:=an (show lB ⟨kd,u,n,b,s,mo⟩= .ok (bE s.size++bl s) by simp only[lB,if_neg h1,if_neg h3,if_pos h4]);have hl:=an (show acc.length+(bE s.size++bl s).length<=(k+1)*65556 by have:=dw s.size; rw[ar,<-bi]; omega);have hQ:=an (aH wr (.cells #[.int .i64 kd, .int .u64 (u:Int), .int .i64 n, .bool b, .string s, .int .i64 mo] 96))
      have He:=dw s.size;obtain⟨W,hW⟩: ∃W:World,W=wr.alloc (.cells #[.int .i64 kd, .int .u64 (u:Int), .int .i64 n, .bool b, .string s, .int .i64 mo] 96):=⟨_,rfl⟩;rw[<-hW]at hr hn hQ;clear h1 h3 hX hP
      rcases h4 with rfl | rfl
      ·go_upto_region 17 with(fail)
       rw[<-hW];clear hW q0 q1 q2 q3 q4 q5;refine eH (fun w'=>w'.cell? ⟨wr.heap.size,4,none⟩=some (.string s)) (by kernel_rfl) ?_;obtain⟨W2,hI⟩: ∃W2:World,W2=W.drew:=⟨_,rfl⟩;rw[<-hI];have hC:Below W.heap.size W W2:=by rw[hI]; exact(ay _ _).drew
       have hY:=an (aw hn.o hC);have hZ:=an (jw hr.o hC);have hw:=an (dV hC hQ.o);clear hI hC hQ;have c0:=bH (k:=4) hw.o;simp only[ak,am,aj]at c0
       iterate 5 (refine cF rfl (by kernel_rfl) (fun _ _ _ h=>h) rfl (by go_simp) (by intro w' hO; go_simp; rfl) ?_; simp only[Act.put,ag,ai,ah])
       refine bJ 7 rfl (by kernel_rfl) (by kernel_rfl) (by kernel_rfl) (fun _ _ _ h=>h) rfl (by go_simp) (by intro w' hO; go_simp; rfl) ?_;simp only[Act.put,ag,ai,ah];refine bJ 8 rfl (by kernel_rfl) (by kernel_rfl) (by kernel_rfl) (fun _ _ _ h=>h) rfl (by go_simp) (by intro w' hO; go_simp; rfl) ?_;simp only[Act.put,ag,ai,ah]
       refine cy 5 rfl (fun K hK=> ?_);go_wp2_with (go_at_call 103; refine(mz s.size _ (by omega)).mono ?_; rintro e w1 ⟨nv,rfl,hB,hh⟩);have hH:=an hB;have hs:=an (aw hY.o hh);have hy:=an (jw hZ.o hh);have hp:=an (dV hh hw.o);have he:=hs.o.size;obtain⟨_,na,nc,rfl,hL,hM,-⟩:=hB;have c1:=bH (k:=4) hp.o;simp only[ak,am,aj]at c1
       clear hh c0;refine⟨c1, ?_⟩;refine cy 6 rfl (fun K hK=> ?_);go_wp2_with (at_builtin; go_must (refine el Tryz.appBytes rfl _ _ rfl w.heap.size (.slice ao acc.length co) acc.length (acc.map aY) rfl hy.o _ (bE s.size).length ((bE s.size).map aY) rfl hH.o (fo _) (by omega) he ?_); intro v' wc hd ha);have hf:=an ((ha.block wr.heap.size (az hp.o) (fun e=>by have:=(HO.o.lt _ e.symm).2; omega)).trans hp.o)
       have hu:=an (cg hs.o hy.o ha (au _) he);have hq:=an (show wc.ownsRow w.heap.size 5 1 v' (acc++bE s.size).length ((acc++bE s.size).map aY) by rw[ar,aO]; exact hd);have hz:=hu.o.size;obtain⟨ae,ce,rfl,-,-⟩:=aI hd;have c2:=bH (k:=4) hf.o;simp only[ak,am,aj]at c2
       have hj:(acc++bE s.size).length=acc.length+(bE s.size).length:=ar;clear hd ha c1;refine⟨c2, ?_⟩;refine cy 9 rfl (fun K hK=> ?_);have hA:(acc++bE s.size).length+s.size<1099511627775:=by omega
       have hV:Value.slice ae (acc.length+(bE s.size).length) ce= .slice ae (acc++bE s.size).length ce:=by rw[hj]
       have Hf:=an hV;have hG:=an hA;clear hj hA hV;go_wp2_with (at_builtin; go_must (refine lh rfl _ _ rfl w.heap.size (.slice ae (acc.length+(bE s.size).length) ce) (acc++bE s.size) rfl hq.o s rfl hG.o hz ?_); intro v' wd hd ha);have hF:=an ((ha.block wr.heap.size (az hf.o) (fun e=>by
        have h1:=hq.o;have h2:=(sk h1 e.symm);obtain⟨cs,h2⟩:=h2;have:=hf.o.symm.trans h2;simp at this)).trans hf.o)
       have ho:=an (cg hu.o hq.o ha (au _) hz);have hg:=an (show wd.ownsRow w.heap.size 5 1 v' (acc.length+(bE s.size++bl s).length) (acc.map aY++(bE s.size++bl s).map aY) by
        have h1:=hd;rw[ar,bi,df,<-ar,aO,bp,<-aO]at h1;exact h1)
       obtain⟨nb,hT⟩: ∃nb,nb=bE s.size++bl s:=⟨_,rfl⟩;rw[<-hT]at hg HX hl;clear hT;obtain⟨af,cf,rfl,-,-⟩:=aI hg.o;have c3:=bH (k:=4) hF.o;simp only[ak,am,aj]at c3;clear hd ha c2;refine⟨c3, ?_⟩;refine cF rfl (by kernel_rfl) (fun _ _ _ h=>h) rfl (by go_simp) (by intro w' hO; go_simp; rfl) ?_
       simp only[Act.put,ag,ai,ah];refine cH (by kernel_rfl) ?_;go_wp2_with fail
       go_roundw
       case rel=>exact⟨k+1,acc++nb,by omega,by go_num,by rw[hE.o]; exact jm HE.o HX.o,by rw[ar,aO]; exact hg.o,by rw[ar]; exact hl.o,ho.o⟩
       case measure=>simp[intOf]; omega
      ·go_upto_region 17 with(fail)
       rw[<-hW];clear hW q0 q1 q2 q3 q4 q5;refine eH (fun w'=>w'.cell? ⟨wr.heap.size,4,none⟩=some (.string s)) (by kernel_rfl) ?_;obtain⟨W2,hI⟩: ∃W2:World,W2=W.drew:=⟨_,rfl⟩;rw[<-hI];have hC:Below W.heap.size W W2:=by rw[hI]; exact(ay _ _).drew
       have hY:=an (aw hn.o hC);have hZ:=an (jw hr.o hC);have hw:=an (dV hC hQ.o);clear hI hC hQ;have c0:=bH (k:=4) hw.o;simp only[ak,am,aj]at c0
       iterate 5 (refine cF rfl (by kernel_rfl) (fun _ _ _ h=>h) rfl (by go_simp) (by intro w' hO; go_simp; rfl) ?_; simp only[Act.put,ag,ai,ah])
       refine bJ 7 rfl (by kernel_rfl) (by kernel_rfl) (by kernel_rfl) (fun _ _ _ h=>h) rfl (by go_simp) (by intro w' hO; go_simp; rfl) ?_;simp only[Act.put,ag,ai,ah];refine bJ 8 rfl (by kernel_rfl) (by kernel_rfl) (by kernel_rfl) (fun _ _ _ h=>h) rfl (by go_simp) (by intro w' hO; go_simp; rfl) ?_;simp only[Act.put,ag,ai,ah]
       refine cy 5 rfl (fun K hK=> ?_);go_wp2_with (go_at_call 103; refine(mz s.size _ (by omega)).mono ?_; rintro e w1 ⟨nv,rfl,hB,hh⟩);have hH:=an hB;have hs:=an (aw hY.o hh);have hy:=an (jw hZ.o hh);have hp:=an (dV hh hw.o);have he:=hs.o.size;obtain⟨_,na,nc,rfl,hL,hM,-⟩:=hB;have c1:=bH (k:=4) hp.o;simp only[ak,am,aj]at c1
       clear hh c0;refine⟨c1, ?_⟩;refine cy 6 rfl (fun K hK=> ?_);go_wp2_with (at_builtin; go_must (refine el Tryz.appBytes rfl _ _ rfl w.heap.size (.slice ao acc.length co) acc.length (acc.map aY) rfl hy.o _ (bE s.size).length ((bE s.size).map aY) rfl hH.o (fo _) (by omega) he ?_); intro v' wc hd ha);have hf:=an ((ha.block wr.heap.size (az hp.o) (fun e=>by have:=(HO.o.lt _ e.symm).2; omega)).trans hp.o)
       have hu:=an (cg hs.o hy.o ha (au _) he);have hq:=an (show wc.ownsRow w.heap.size 5 1 v' (acc++bE s.size).length ((acc++bE s.size).map aY) by rw[ar,aO]; exact hd);have hz:=hu.o.size;obtain⟨ae,ce,rfl,-,-⟩:=aI hd;have c2:=bH (k:=4) hf.o;simp only[ak,am,aj]at c2
       have hj:(acc++bE s.size).length=acc.length+(bE s.size).length:=ar;clear hd ha c1;refine⟨c2, ?_⟩;refine cy 9 rfl (fun K hK=> ?_);have hA:(acc++bE s.size).length+s.size<1099511627775:=by omega
       have hV:Value.slice ae (acc.length+(bE s.size).length) ce= .slice ae (acc++bE s.size).length ce:=by rw[hj]
       have Hf:=an hV;have hG:=an hA;clear hj hA hV;go_wp2_with (at_builtin; go_must (refine lh rfl _ _ rfl w.heap.size (.slice ae (acc.length+(bE s.size).length) ce) (acc++bE s.size) rfl hq.o s rfl hG.o hz ?_); intro v' wd hd ha);have hF:=an ((ha.block wr.heap.size (az hf.o) (fun e=>by
        have h1:=hq.o;have h2:=(sk h1 e.symm);obtain⟨cs,h2⟩:=h2;have:=hf.o.symm.trans h2;simp at this)).trans hf.o)
       have ho:=an (cg hu.o hq.o ha (au _) hz);have hg:=an (show wd.ownsRow w.heap.size 5 1 v' (acc.length+(bE s.size++bl s).length) (acc.map aY++(bE s.size++bl s).map aY) by
        have h1:=hd;rw[ar,bi,df,<-ar,aO,bp,<-aO]at h1;exact h1)
       obtain⟨nb,hT⟩: ∃nb,nb=bE s.size++bl s:=⟨_,rfl⟩;rw[<-hT]at hg HX hl;clear hT;obtain⟨af,cf,rfl,-,-⟩:=aI hg.o;have c3:=bH (k:=4) hF.o;simp only[ak,am,aj]at c3;clear hd ha c2;refine⟨c3, ?_⟩;refine cF rfl (by kernel_rfl) (fun _ _ _ h=>h) rfl (by go_simp) (by intro w' hO; go_simp; rfl) ?_
       simp only[Act.put,ag,ai,ah];refine cH (by kernel_rfl) ?_;go_wp2_with fail
       go_roundw
       case rel=>exact⟨k+1,acc++nb,by omega,by go_num,by rw[hE.o]; exact jm HE.o HX.o,by rw[ar,aO]; exact hg.o,by rw[ar]; exact hl.o,ho.o⟩
       case measure=>simp[intOf]; omega
     ·by_cases h6:kd=6
      ·subst h6
       by_cases hD:s.size=32
       ·have HX:=an (show lB ⟨6,u,n,b,s,mo⟩= .ok (bl s) by simp[lB,hD]);have hl:=an (show acc.length+(bl s).length<=(k+1)*65556 by rw[<-bi]; omega);have e1:((s.size:Int) != 32)=false:=by simp; omega
        have he:=hn.o.size;clear hD;go_wp2_with (at_builtin; go_must (refine lh rfl _ _ rfl w.heap.size (.slice ao acc.length co) acc rfl hr.o s rfl (by omega) he ?_); intro v' wc hd ha; have hg:=an (show wc.ownsRow w.heap.size 5 1 v' (acc.length+(bl s).length) (acc.map aY++(bl s).map aY) by rw[<-bi]; exact hd); have ho:=an (cg hn.o hr.o ha (au _) he); obtain⟨ae,ce,rfl,-,-⟩:=aI hd; clear hd ha)
        go_roundw
        case rel=>exact⟨k+1,acc++(bl s),by omega,by go_num,by rw[hE.o]; exact jm HE.o HX.o,by rw[ar,aO]; exact hg.o,by rw[ar]; exact hl.o,ho.o⟩
        case measure=>simp[intOf]; omega
       ·have HX:=an (rP HE.o HG.o (show lB ⟨6,u,n,b,s,mo⟩= .error 1 by simp[lB,hD]));have e1:((s.size:Int) != 32)=true:=by simp; omega
        clear hD;go_wp2_with fail
        go_ret2
        exact⟨hn.o,by unfold yf; rw[HX.o]; exact⟨rfl,by decide⟩⟩
      ·by_cases h7:kd=7
       ·subst h7
        by_cases Hi:n<0
        ·have HX:=an (rP HE.o HG.o (show lB ⟨7,u,n,b,s,mo⟩= .error 1 by simp[lB,Hi]));go_wp2_with fail
         go_ret2
         exact⟨hn.o,by unfold yf; rw[HX.o]; exact⟨rfl,by decide⟩⟩
        ·obtain⟨m,rfl⟩: ∃m:Nat,n=(m:Int):=⟨n.toNat,by omega⟩;have HX:=an (show lB ⟨7,u,(m:Int),b,s,mo⟩= .ok (bE m) by simp[lB]);have hl:=an (show acc.length+(bE m).length<=(k+1)*65556 by have:=dw m; omega);have He:=dw m;go_wp2_with fail;refine(mz m _ (by omega)).mono ?_;rintro e w1 ⟨nv,rfl,hB,hh⟩;have hH:=an hB
         have hs:=an (aw hn.o hh);have hy:=an (jw hr.o hh);have he:=hs.o.size;obtain⟨_,na,nc,rfl,hL,hM,-⟩:=hB;clear hh q0 q1 q2 q3 q4 q5;go_wp2_with (at_builtin; go_must (refine el Tryz.appBytes rfl _ _ rfl w.heap.size (.slice ao acc.length co) acc.length (acc.map aY) rfl hy.o _ (bE m).length ((bE m).map aY) rfl hH.o (fo _) (by omega) he ?_); intro v' wc hd ha; have hg:=an hd; have ho:=an (cg hs.o hy.o ha (au _) he); obtain⟨ae,ce,rfl,-,-⟩:=aI hd; clear hd ha)
         go_roundw
         case rel=>exact⟨k+1,acc++(bE m),by omega,by go_num,by rw[hE.o]; exact jm HE.o HX.o,by rw[ar,aO]; exact hg.o,by rw[ar]; exact hl.o,ho.o⟩
         case measure=>simp[intOf]; omega
       ·have HX:=an (show lB ⟨kd,u,n,b,s,mo⟩= .ok [] by simp only[lB,if_neg h1,if_neg h3,if_neg h4,if_neg h6,if_neg h7]);have hl:=an (show acc.length+([]:List UInt8).length<=(k+1)*65556 from aB Hg (dl _ (Nat.le_succ k)));have Hc: ¬kd=4:=fun e=>h4 (.inl e)
        have Hd: ¬kd=5:=fun e=>h4 (.inr e)
        have e1:(kd == 1)=false:=by simpa using h1
        have e2:(kd == 2)=false:=by simpa using hX
        have e3:(kd == 3)=false:=by simpa using h3
        have e4:(kd == 4)=false:=by simpa using Hc
        have e5:(kd == 5)=false:=by simpa using Hd
        have e6:(kd == 6)=false:=by simpa using h6
        have e7:(kd == 7)=false:=by simpa using h7
        have hg:=an (show World.ownsRow (wr.alloc (.cells #[.int .i64 kd, .int .u64 (u:Int), .int .i64 n, .bool b, .string s, .int .i64 mo] 96)) w.heap.size 5 1 (.slice ao acc.length co) (acc.length+([]:List UInt8).length) (acc.map aY++([]:List UInt8).map aY) by simpa using hr.o);have ho:=hn;clear h1 h3 h4 h6 h7 hX Hc Hd;go_wp2_with fail
        go_roundw
        case rel=>exact⟨k+1,acc++([]:List UInt8),by omega,by go_num,by rw[hE.o]; exact jm HE.o HX.o,by rw[ar,aO]; exact hg.o,by rw[ar]; exact hl.o,ho.o⟩
        case measure=>simp[intOf]; omega
  ·obtain rfl:k=l.length:=by omega
   have Ha:=an (show fu l= .ok acc by have:=HE.o; rwa [bC (au _)]at this)
   by_cases hR:1048576<acc.length
   ·have HX:=an (show yf l= .error 2 by unfold yf; rw[Ha.o]; simp only[if_pos hR]);go_wp2_with fail
    go_ret2
    exact⟨HB.o,by rw[HX.o]; exact⟨rfl,by decide⟩⟩
   ·have HX:=an (show yf l= .ok acc by unfold yf; rw[Ha.o]; simp only[if_neg hR]);go_wp2_with fail
    go_ret2
    exact⟨HB.o,by rw[HX.o]; exact⟨_,rfl,HO.o⟩⟩
def rvV (x:jF):Value:= .agg #[.int .i64 x.kind, .int .u64 (x.u:Int), .int .i64 x.n, .bool x.b, .string x.s, .int .i64 x.most]
def iS (n:Int):jF:=⟨1,(n%18446744073709551616).toNat,0,false,⟨#[]⟩,0⟩
def FI (s:ByteArray):jF:=⟨6,0,0,false,s,0⟩
def oa (s:ByteArray):jF:=⟨5,0,0,false,s,0⟩
def jR (n:Nat):jF:=⟨7,0,(n:Int),false,⟨#[]⟩,0⟩
def eA (r:cX):List jF:=[FI r.name,iS r.gen,iS r.size]
theorem oA (n:Int):xY (iS n):=⟨by simp only[iS]; omega,by simp[iS],by simp only[iS]; decide,by simp[iS]⟩
theorem Ou {s:ByteArray} (h:s.size<=65536):xY (FI s):=⟨by simp[FI],by simp[FI],h,by simp[FI]⟩
theorem tG {s:ByteArray} (h:s.size<=65536):xY (oa s):=⟨by simp[oa],by simp[oa],h,by simp[oa]⟩
theorem yY {n:Nat} (h:n<=1000000):xY (jR n):=⟨by simp[jR],by simp only[jR]; omega,by simp only[jR]; decide,by simp[jR]⟩
theorem pS {r:cX} (h:r.name.size<=65536): ∀x∈eA r,xY x:=by
 intro x hx;simp only[eA,bh,dt,or_false]at hx
 rcases hx with rfl | rfl | rfl
 ·exact Ou h
 ·exact oA _
 ·exact oA _
theorem Bo : ∀ {l:List jF},(∀x∈l,xY x)->eQ Np (l.flatMap sq) l
 | [],_=>rfl
 | x::l,h=>⟨sq x,l.flatMap sq,rfl,⟨rfl,h x (by simp)⟩,Bo (fun y hy=>h y (by simp[hy]))⟩
theorem wrap_u64 (n:Int):IntKind.u64.wrap n=((n%18446744073709551616).toNat:Int):=by rw[cT]; omega
theorem lI (n:Int) (w:World):Calls Tryz.prog 55 #[.int .i64 n] w fun e w'=>e= .returned (rvV (iS n))/\Below w.heap.size w w':=by
 have hw:=wrap_u64 n;obtain⟨m,hm⟩: ∃m:Nat,m=(n%18446744073709551616).toNat:=⟨_,rfl⟩;have ha:iS n=⟨1,m,0,false,⟨#[]⟩,0⟩:=by rw[hm]; rfl
 rw[<-hm]at hw;have HN:=an ha;clear hm ha
 go_enter Tryz.func55,Tryz.ntmps55
 go_wp2_with fail;exact cN (v:= .agg #[.int .i64 1, .int .u64 (m:Int), .int .i64 0, .bool false, .string ⟨#[]⟩, .int .i64 0]) (by simp[results,Tryz.results55,go_sem]) rfl ⟨by rw[HN.o]; rfl,eN⟩
def OL (l:List jF) (w:World) (e:Ending) (w':World):Prop:= ∃v,e= .returned v/\yL (w.heap.size<= ·) w' v l/\Below w.heap.size w w'
theorem qi (r:cX) (w:World) (hs:r.name.size<=65536):Calls Tryz.prog 56 #[fa r] w (OL (eA r) w):=by
 have HB:=an ((ay w.heap.size w).alloc (au _) (.cells #[.string r.name, .int .i64 r.gen, .int .i64 r.size] 26));have ho:=an (aH w (.cells #[.string r.name, .int .i64 r.gen, .int .i64 r.size] 26));have hr:=an (pS hs);unfold fa;clear hs
 go_enter Tryz.func56,Tryz.ntmps56
 go_wp2_with fail;refine eH (fun w'=>w'.cell? ⟨w.heap.size,0,none⟩=some (.string r.name)/\w'.cell? ⟨w.heap.size,1,none⟩=some (.int .i64 r.gen)/\w'.cell? ⟨w.heap.size,2,none⟩=some (.int .i64 r.size)) (by kernel_rfl) ?_;obtain⟨W,hW⟩: ∃W:World,W=(w.alloc (.cells #[.string r.name, .int .i64 r.gen, .int .i64 r.size] 26)).drew:=⟨_,rfl⟩;rw[<-hW];have hp:=an (show Below w.heap.size w W by rw[hW]; exact HB.o.drew)
 have he:=an (show W.heap[w.heap.size]? =some (.cells #[.string r.name, .int .i64 r.gen, .int .i64 r.size] 26 (0,0)) by rw[hW]; exact ho.o);clear hW HB ho;obtain⟨c0,c1,c2,_⟩:=aT he.o
 iterate 5 (refine cF rfl (by kernel_rfl) (fun _ _ _ h=>h) rfl (by go_simp) (by rintro w' ⟨hl,hm,hb⟩; go_simp; rfl) ?_; simp only[Act.put,ag,ai,ah])
 refine bJ 6 rfl (by kernel_rfl) (by kernel_rfl) (by kernel_rfl) (fun _ _ _ h=>h) rfl (by go_simp) (by rintro w' ⟨hl,hm,hb⟩; go_simp; rfl) ?_;simp only[Act.put,ag,ai,ah];refine bJ 7 rfl (by kernel_rfl) (by kernel_rfl) (by kernel_rfl) (fun _ _ _ h=>h) rfl (by go_simp) (by rintro w' ⟨hl,hm,hb⟩; go_simp; rfl) ?_
 simp only[Act.put,ag,ai,ah];refine cy 5 rfl (fun K hK=> ?_);go_wp2_with (go_at_call 55; refine(lI r.gen _).mono ?_; rintro e w1 ⟨rfl,hh⟩);have hq:=an (aw hp.o hh);have hf:=an (dV hh he.o);clear hh c0 c1 c2;obtain⟨c0,c1,c2,_⟩:=aT hf.o;refine⟨⟨c0,c1,c2⟩, ?_⟩;refine cy 8 rfl (fun K hK=> ?_)
 go_wp2_with (go_at_call 55; refine(lI r.size _).mono ?_; rintro e w2 ⟨rfl,hj⟩);have hn:=an (aw hq.o hj);have hg:=an (dV hj hf.o);clear hj c0 c1 c2;obtain⟨c0,c1,c2,_⟩:=aT hg.o;refine⟨⟨c0,c1,c2⟩, ?_⟩;refine cy 9 rfl (fun K hK=> ?_);unfold rvV;go_wp2_with fail;have hd:=az hg.o;have ha:(#[Value.int .i64 6, .int .u64 0, .int .i64 0, .bool false, .string r.name, .int .i64 0, .int .i64 (iS r.gen).kind, .int .u64 (iS r.gen).u, .int .i64 (iS r.gen).n, .bool (iS r.gen).b, .string (iS r.gen).s, .int .i64 (iS r.gen).most, .int .i64 (iS r.size).kind, .int .u64 (iS r.size).u, .int .i64 (iS r.size).n, .bool (iS r.size).b, .string (iS r.size).s, .int .i64 (iS r.size).most]:Array Value)=((eA r).flatMap sq).toArray:=rfl
 rw[ha];obtain⟨w3,hb⟩: ∃w3:World,w3=w2.alloc (.cells ((eA r).flatMap sq).toArray 96):=⟨_,rfl⟩;have hc:=an (show Below w2.heap.size w2 w3 by rw[hb]; exact eN);have HR:=an (show yL (w.heap.size<= ·) w3 (.slice (some ⟨w2.heap.size,0,none⟩) 3 3) (eA r) by
  have h1:=cG (di (base:=w2.heap.size) (e:=96) (size:=6) w2 ((eA r).flatMap sq).toArray 3 (au _) (by unfold maxLen; omega) rfl);rw[hb];exact⟨_,h1.weak (fun k hk=>aB hn.o.size hk.1),Bo hr.o⟩)
 rw[<-hb];clear hb ha;refine⟨⟨(hc.o.cell hd).trans c0,(hc.o.cell hd).trans c1,(hc.o.cell hd).trans c2⟩, ?_⟩;refine cF rfl (by kernel_rfl) (fun _ _ _ h=>h) rfl ⟨(hc.o.cell hd).trans c0,(hc.o.cell hd).trans c1,(hc.o.cell hd).trans c2⟩ (by rintro w' ⟨hl,hm,hb⟩; go_simp; rfl) ?_;simp only[Act.put,ag,ai,ah]
 refine cH (by kernel_rfl) ?_;go_wp2_with fail;go_ret;exact⟨_,rfl,HR.o,aw hn.o hc.o⟩
theorem set3 {w:World} {b:Nat} {a0 a1 a2 x0 x1 x2:Value} {t:TypeId} (h:w.heap[b]? =some (.cells #[a0,a1,a2] t (0,0))):
  (((w.setCell ⟨b,0,none⟩ x0).setCell ⟨b,1,none⟩ x1).setCell ⟨b,2,none⟩ x2).heap[b]? =some (.cells #[x0,x1,x2] t (0,0)):=jf (jf (jf h x0) x1) x2
def fW (it:cr):List jF:=
 [oa it.name,iS it.kind,iS it.mode,iS it.time]++
  (if it.kind=1 then jR it.chunks.length::it.chunks.flatMap eA else if it.kind=2 then eA it.node else [oa it.link])
def lN (l:List cr) (k:Nat):List jF:=jR l.length::(l.take k).flatMap fW
def iA (l:List cr):List jF:=jR l.length::l.flatMap fW
theorem vf {l:List cr} {k:Nat} {it:cr} (h:l[k]? =some it):lN l (k+1)=lN l k++fW it:=by
 unfold lN;obtain⟨hk,rfl⟩:=aN.1 h;rw[List.take_succ_eq_append_getElem hk,bW]; simp
theorem FQ (l:List cr):lN l l.length=iA l:=by unfold lN iA; rw[bC (au _)]
theorem Kr (l:List cr) (k:Nat):(lN l k).length<=(iA l).length:=by
 unfold lN iA;have h:l.flatMap fW=(l.take k).flatMap fW++(l.drop k).flatMap fW:=by rw[<-bW,dx]
 rw[h];simp
structure vy (it : cr) : Prop where
 nm:it.name.size<=65536
 lk:it.link.size<=65536
 nd:it.node.name.size<=65536
 ch: ∀c∈it.chunks,c.name.size<=65536
def th (l:List cr):List UInt8:=match yf (iA l)with
 | .error _=>[]
 | .ok b=>b
structure AC (w : World) (xb : Nat) (cs : Array Value) (wq : World) (lv : Value) (vals : List jF) : Prop where
 row:wq.ownsRow w.heap.size 96 6 lv vals.length (vals.flatMap sq)
 box:wq.heap[xb]? =some (.cells cs 28 (0,0))
 below:Below w.heap.size w wq
section
variable {w wq w' : World} {xb : Nat} {cs : Array Value} {lv v' : Value} {vals news : List jF}
theorem AC.next (h:AC w xb cs wq lv vals) (hb:Below wq.heap.size wq w'):AC w xb cs w' lv vals:=
 ⟨jw h.row hb,(hb.block xb (az h.box)).trans h.box,aw h.below hb⟩
theorem AC.app (h:AC w xb cs wq lv vals) (ho:w'.ownsRow w.heap.size 96 6 v' (vals.length+news.length) (vals.flatMap sq++news.flatMap sq)) (hg:wq.grownBy w' lv.ownBlock):AC w xb cs w' v' (vals++news):=by
 refine⟨by rw[ar,bW]; exact ho,(hg.block xb (az h.box) (fun e=> ?_)).trans h.box,cg h.below h.row hg (au _) h.below.size⟩;obtain⟨c,hc⟩:=sk h.row e.symm;have:=h.box.symm.trans hc;simp at this
end
theorem Tryz.appVals :km Tryz.prog 97 96 6 56:=km.mk' (z:= .agg #[.int .i64 0, .int .u64 0, .int .i64 0, .bool false, .string ⟨#[]⟩, .int .i64 0]) Tryz.underlying97 (by kernel_rfl) rfl (by decide) (by decide)
theorem tA {l:List jF} : ∀u∈l.flatMap sq,u.oneCell'=true:=by
 intro u hu;obtain⟨x,_,hx⟩:=dG.1 hu;simp only[sq,bh,dt,or_false]at hx
 rcases hx with rfl | rfl | rfl | rfl | rfl | rfl<;> rfl
theorem eD.lts {S:Nat->Prop} {w:World} {v:Value} {l:List cr} (h:eD S w v l):eD (· <w.heap.size) w v l:=by
 obtain⟨cells,hr,ha⟩:=h;exact⟨cells,hr.mono (fun k hk hS=>hk) (by omega),ha.mono (fun c x _ ⟨cv,h1,⟨cells,h2,h3⟩,h4⟩=>⟨cv,h1,⟨cells,h2.mono (fun k hk _=>hk) (by omega),h3⟩,h4⟩)⟩
theorem oD : ∀(l:List cX),(l.flatMap eA).length=3*l.length
 | []=>rfl
 | x::l=>by rw[bq,ar,oD l,aG]; simp[eA]; omega
def Gx (it:cr):List jF:=[oa it.name,iS it.kind,iS it.mode,iS it.time]
theorem uN {it:cr} (h:it.kind=1):fW it=Gx it++(jR it.chunks.length::it.chunks.flatMap eA):=by unfold fW Gx; rw[if_pos h]
theorem EJ {it:cr} (h:it.kind=2):fW it=Gx it++eA it.node:=by unfold fW Gx; rw[if_neg (by omega),if_pos h]
theorem CE {it:cr} (h1: ¬it.kind=1) (h2: ¬it.kind=2):fW it=Gx it++[oa it.link]:=by unfold fW Gx; rw[if_neg h1,if_neg h2]
theorem NJ (it:cr):(Gx it).length=4:=rfl
theorem IX {it:cr} (h:vy it) (hc:it.chunks.length<=1000000): ∀x∈fW it,xY x:=by
 intro x hx;unfold fW at hx
 rcases aU.1 hx with hx | hx
 ·simp only[bh,dt,or_false]at hx
  rcases hx with rfl | rfl | rfl | rfl
  ·exact tG h.nm
  ·exact oA _
  ·exact oA _
  ·exact oA _
 ·split at hx
  ·rcases bh.1 hx with rfl | hx
   ·exact yY hc
   ·obtain⟨c,ha,hb⟩:=dG.1 hx;exact pS (h.ch c ha) x hb
  ·split at hx
   ·exact pS h.nd x hx
   ·simp only[aQ]at hx; subst hx; exact tG h.lk
theorem Dg {l:List cr} (hs: ∀it∈l,vy it) (hl:l.length<=1000000) (hn:(iA l).length<=1000000): ∀x∈iA l,xY x:=by
 intro x hx;unfold iA at hx
 rcases bh.1 hx with rfl | hx
 ·exact yY hl
 ·obtain⟨it,h1,h2⟩:=dG.1 hx
  by_cases hk:it.kind=1
  ·refine IX (hs it h1) ?_ x h2;have h3:(fW it).length<=(l.flatMap fW).length:=by
    obtain⟨a,b,rfl⟩:=kC h1;rw[bW,bq,ar,ar]; omega
   have h4:it.chunks.length<=(fW it).length:=by rw[uN hk,ar,aG,oD]; omega
   unfold iA at hn;rw[aG]at hn;omega
  ·unfold fW at h2;rw[if_neg hk]at h2
   rcases aU.1 h2 with hx | hx
   ·simp only[bh,dt,or_false]at hx
    rcases hx with rfl | rfl | rfl | rfl
    ·exact tG (hs it h1).nm
    ·exact oA _
    ·exact oA _
    ·exact oA _
   ·split at hx
    ·exact pS (hs it h1).nd x hx
    ·simp only[aQ]at hx; subst hx; exact tG (hs it h1).lk
theorem GW {S:Nat->Prop} {w:World} {v:Value} {l:List jF} (h:yL S w v l):cE S w 6 v l.length (l.flatMap sq):=by
 obtain⟨cells,h1,h2⟩:=h;have: ∀(l:List jF) (cells:List Value),eQ Np cells l->cells=l.flatMap sq:=by
  intro l
  induction l with
  | nil=>intro cells h; exact h
  | cons x l ih=>
   rintro cells ⟨c,rest,rfl,⟨rfl,_⟩,hr⟩;rw[ih rest hr]; rfl
 rw[<-this l cells h2]; exact h1
def lH (v4:List jF) (cs:List cX) (j:Nat):List jF:=v4++(jR cs.length::(cs.take j).flatMap eA)
theorem Cq {v4:List jF} {cs:List cX} {j:Nat} {c:cX} (h:cs[j]? =some c):lH v4 cs (j+1)=lH v4 cs j++eA c:=by
 unfold lH;rw[dZ h,bW]; simp
theorem EA (v4:List jF) (cs:List cX):lH v4 cs cs.length=v4++(jR cs.length::cs.flatMap eA):=by unfold lH; rw[bC (au _)]
theorem IP (v4:List jF) (cs:List cX) (j:Nat):(lH v4 cs j).length<=(v4++(jR cs.length::cs.flatMap eA)).length:=by
 unfold lH;rw[ar,ar,aG,aG,oD,oD,bm];omega
def Gb (l:List cr) (w:World) (e:Ending) (w':World):Prop:= ∃v,e= .returned v/\w'.ownsRow w.heap.size 5 1 v (th l).length ((th l).map aY)/\Below w.heap.size w w'
theorem Jw {w:World} {base base' size n:Nat} {e:TypeId} {v:Value} {xs:List Value} (h:w.ownsRow base e size v n xs) (hb:base'<=base):w.ownsRow base' e size v n xs:=
 ⟨h.1,h.2.imp id (fun⟨g,cap,cur,e1,h1,h2⟩=>⟨g,cap,cur,e1,aB hb h1,h2⟩)⟩
theorem EZ (S:Nat->Prop) (v:Value) (l:List cr) (w:World) (hv:eD S w v l) (hs: ∀it∈l,vy it) (hl:(iA l).length<=1000000) (hll:l.length<=1000000):Calls Tryz.prog 17 #[v] w (Gb l w):=by
 obtain⟨a,cap,rfl,hc,hm,-⟩:=cL.shape hv lr.len;unfold maxLen at hm;have HV:=an hv.lts;have HS:=an hs;have HL:=an hl;have Hg:=an (di (e:=96) (size:=6) (base:=w.heap.size) w #[.int .i64 7, .int .u64 0, .int .i64 (l.length:Int), .bool false, .string ⟨#[]⟩, .int .i64 0] 1 (au _) (by unfold maxLen; omega) rfl);have Hc:=an ((ay w.heap.size w).alloc (au _) (.cells #[.int .i64 7, .int .u64 0, .int .i64 (l.length:Int), .bool false, .string ⟨#[]⟩, .int .i64 0] 96))
 clear hv hs hl
 go_enter Tryz.func17,Tryz.ntmps17
 go_wp2_with fail
 go_loopw [3,4] (fun lv i wr=> ∃(k:Nat),k<=l.length/\i= .int .i64 k/\wr.ownsRow w.heap.size 96 6 lv (lN l k).length ((lN l k).flatMap sq)/\Below w.heap.size w wr) (fun _ i _=>l.length-(intOf i).toNat)
 case atStart=>exact⟨0,aX _,rfl,Hg.o,Hc.o⟩
 case round=>
  obtain⟨k,hk,rfl,hu,hb⟩:=hrel;have HO:=an hu;have HB:=an hb;obtain⟨ao,co,rfl,HA,HG⟩:=aI hu;clear hu hb Hg Hc
  by_cases Hz:k<l.length
  ·obtain⟨it,hI⟩: ∃it,l[k]? =some it:=⟨l[k],by simp[Hz]⟩;obtain⟨b,o,ca,cc,rfl,Hk,Hl,-,-,hg⟩:=mL HV.o HB.o hI;have He:=an (HS.o it (aS hI));have hQ:=an (vf hI);have hR:=an (show(lN l k++fW it).length<=1000000 by rw[<-vf hI]; exact aB (Kr _ _) HL.o);have q0:=hg 0 (by omega);have q1:=hg 1 (by omega)
   have q2:=hg 2 (by omega);have q3:=hg 3 (by omega);have q4:=hg 4 (by omega);have q5:=hg 5 (by omega);have q6:=hg 6 (by omega);have q7:=hg 7 (by omega);have q8:=hg 8 (by omega);have q9:=hg 9 (by omega);simp only[fh,aj,am,de]at q0 q1 q2 q3 q4 q5 q6 q7 q8 q9;obtain⟨W,hW⟩: ∃W:World,W=wr.alloc (.cells #[.string it.name, .int .i64 it.kind, .int .i64 it.mode, .int .i64 it.time, .int .i64 it.size, .string it.link, .slice ca it.chunks.length cc, .string it.node.name, .int .i64 it.node.gen, .int .i64 it.node.size] 28):=⟨_,rfl⟩
   have Hb:=an (show Below wr.heap.size wr W by rw[hW]; exact eN);have hT:=an (show AC w wr.heap.size #[.string it.name, .int .i64 it.kind, .int .i64 it.mode, .int .i64 it.time, .int .i64 it.size, .string it.link, .slice ca it.chunks.length cc, .string it.node.name, .int .i64 it.node.gen, .int .i64 it.node.size] W (.slice ao (lN l k).length co) (lN l k)from⟨jw HO.o Hb.o,by rw[hW]; exact aH wr _,aw HB.o Hb.o⟩)
   have Hh:=an Hl;have HC:=Hk;clear hI hg Hk HC Hl;obtain⟨vk,Hm⟩: ∃vk,vk=lN l k:=⟨_,rfl⟩;rw[<-Hm]at hQ hR hT HA ⊢;clear Hm
   go_upto_region 6 with(fail)
   rw[<-hW];clear hW q0 q1 q2 q3 q4 q5 q6 q7 q8 q9 HO;refine eH (fun w'=>w'.cell? ⟨wr.heap.size,0,none⟩=some (.string it.name)/\w'.cell? ⟨wr.heap.size,1,none⟩=some (.int .i64 it.kind)/\w'.cell? ⟨wr.heap.size,2,none⟩=some (.int .i64 it.mode)/\w'.cell? ⟨wr.heap.size,3,none⟩=some (.int .i64 it.time)) (by kernel_rfl) ?_;obtain⟨W2,h3⟩: ∃W2:World,W2=W.drew:=⟨_,rfl⟩
   rw[<-h3];have hU:=an (hT.o.next (show Below W.heap.size W W2 by rw[h3]; exact(ay _ _).drew));clear h3 hT;obtain⟨c0,c1,c2,c3,_⟩:=aT hU.o.box
   iterate 6 (refine cF rfl (by kernel_rfl) (fun _ _ _ h=>h) rfl (by go_simp) (by rintro w' ⟨hL,hM,hN,hn⟩; go_simp; rfl) ?_; simp only[Act.put,ag,ai,ah])
   refine bJ 7 rfl (by kernel_rfl) (by kernel_rfl) (by kernel_rfl) (fun _ _ _ h=>h) rfl (by go_simp) (by rintro w' ⟨hL,hM,hN,hn⟩; go_simp; rfl) ?_;simp only[Act.put,ag,ai,ah];refine bJ 8 rfl (by kernel_rfl) (by kernel_rfl) (by kernel_rfl) (fun _ _ _ h=>h) rfl (by go_simp) (by rintro w' ⟨hL,hM,hN,hn⟩; go_simp; rfl) ?_
   simp only[Act.put,ag,ai,ah];refine bJ 10 rfl (by kernel_rfl) (by kernel_rfl) (by kernel_rfl) (fun _ _ _ h=>h) rfl (by go_simp) (by rintro w' ⟨hL,hM,hN,hn⟩; go_simp; rfl) ?_;simp only[Act.put,ag,ai,ah];refine bJ 11 rfl (by kernel_rfl) (by kernel_rfl) (by kernel_rfl) (fun _ _ _ h=>h) rfl (by go_simp) (by rintro w' ⟨hL,hM,hN,hn⟩; go_simp; rfl) ?_
   simp only[Act.put,ag,ai,ah];refine cy 6 rfl (fun K hK=> ?_);go_wp2_with (go_at_call 55; refine(lI it.kind _).mono ?_; rintro e w1 ⟨rfl,hF⟩);have hV:=an (hU.o.next hF);clear hF c0 c1 c2 c3;obtain⟨c0,c1,c2,c3,_⟩:=aT hV.o.box;refine⟨⟨c0,c1,c2,c3⟩, ?_⟩;refine cy 9 rfl (fun K hK=> ?_);go_wp2_with (go_at_call 55; refine(lI it.mode _).mono ?_; rintro e w2 ⟨rfl,Hi⟩)
   have hX:=an (hV.o.next Hi);clear Hi c0 c1 c2 c3;obtain⟨c0,c1,c2,c3,_⟩:=aT hX.o.box;refine⟨⟨c0,c1,c2,c3⟩, ?_⟩;refine cy 12 rfl (fun K hK=> ?_);go_wp2_with (go_at_call 55; refine(lI it.time _).mono ?_; rintro e w3 ⟨rfl,Hj⟩);have hO:=an (hX.o.next Hj);clear Hj c0 c1 c2 c3;obtain⟨c0,c1,c2,c3,_⟩:=aT hO.o.box;refine⟨⟨c0,c1,c2,c3⟩, ?_⟩;refine cy 13 rfl (fun K hK=> ?_)
   unfold rvV;go_wp2_with fail;have hf:(#[Value.int .i64 5, .int .u64 0, .int .i64 0, .bool false, .string it.name, .int .i64 0, .int .i64 (iS it.kind).kind, .int .u64 (iS it.kind).u, .int .i64 (iS it.kind).n, .bool (iS it.kind).b, .string (iS it.kind).s, .int .i64 (iS it.kind).most, .int .i64 (iS it.mode).kind, .int .u64 (iS it.mode).u, .int .i64 (iS it.mode).n, .bool (iS it.mode).b, .string (iS it.mode).s, .int .i64 (iS it.mode).most, .int .i64 (iS it.time).kind, .int .u64 (iS it.time).u, .int .i64 (iS it.time).n, .bool (iS it.time).b, .string (iS it.time).s, .int .i64 (iS it.time).most]:Array Value)=((Gx it).flatMap sq).toArray:=rfl
   rw[hf];obtain⟨w4,hn⟩: ∃w4:World,w4=w3.alloc (.cells ((Gx it).flatMap sq).toArray 96):=⟨_,rfl⟩;have hE:=an (hO.o.next (show Below w3.heap.size w3 w4 by rw[hn]; exact eN));have Hf:=an (show cE (w.heap.size<= ·) w4 6 (.slice (some ⟨w3.heap.size,0,none⟩) 4 4) 4 ((Gx it).flatMap sq) by
    have h1:=cG (di (base:=w3.heap.size) (e:=96) (size:=6) w3 ((Gx it).flatMap sq).toArray 4 (au _) (by unfold maxLen; omega) rfl);rw[hn];exact h1.weak (fun k hk=>aB hO.o.below.size hk.1))
   rw[<-hn];clear hn hf hU hV hX hO c0 c1 c2 c3;obtain⟨c0,c1,c2,c3,_⟩:=aT hE.o.box;have Hy:vk.length+4<=1000000:=by
    have h1:=hR.o;rw[ar]at h1;have h2:4<=(fW it).length:=by unfold fW; simp
    omega
   have hH:=hE.o.below.size;refine⟨⟨c0,c1,c2,c3⟩, ?_⟩;refine cy 14 rfl (fun K hK=> ?_);go_wp2_with (at_builtin; go_must (refine el Tryz.appVals rfl _ _ rfl w.heap.size (.slice ao vk.length co) vk.length (vk.flatMap sq) rfl hE.o.row _ 4 ((Gx it).flatMap sq) rfl Hf.o tA (by omega) hH ?_); intro v' wc hd ha);have h7:=hE.o.app (news:=Gx it) hd ha;obtain⟨v4,hp⟩: ∃v4,v4=vk++Gx it:=⟨_,rfl⟩
   rw[<-hp]at h7;have he:=an h7;have hZ:=an hp;have HJ:v4.length<=1000000:=by rw[hp,ar,NJ]; omega
   clear h7 hp;obtain⟨a7,c7',rfl,-,-⟩:=aI he.o.row;clear hd ha c0 c1 c2 c3 Hf hE hH;obtain⟨c0,c1,c2,c3,_⟩:=aT he.o.box;refine⟨⟨c0,c1,c2,c3⟩, ?_⟩;refine cF rfl (by kernel_rfl) (fun _ _ _ h=>h) rfl (by go_simp) (by rintro w' ⟨hL,hM,hN,hn⟩; go_simp; rfl) ?_;simp only[Act.put,ag,ai,ah]
   refine cH (by kernel_rfl) ?_;clear c0 c1 c2 c3;have hH:=he.o.below.size
   by_cases hq:it.kind=1
   ·have hA:=an (show vk++fW it=v4++(jR it.chunks.length::it.chunks.flatMap eA) by rw[uN hq,hZ.o,bp]);have Hp:=an (show ∀j,(lH v4 it.chunks j).length<=1000000 from fun j=>aB (IP v4 it.chunks j) (by rw[<-hA.o]; exact hR.o));obtain⟨_,_,Hx,Hw,h4,-⟩:=cL.shape Hh.o oJ.len
    cases Hx
    unfold maxLen at h4;have e1:(it.kind == 1)=true:=by simpa using hq
    clear hq;obtain⟨c0,c1,c2,c3,c4,c5,c6,c7,c8,c9,_⟩:=aT he.o.box;go_wp2_with (at_builtin; go_must (refine iN Tryz.appVals rfl _ _ rfl w.heap.size (.slice a7 v4.length c7') v4.length (v4.flatMap sq) rfl wc (sq (jR it.chunks.length)) _ rfl rfl (by have:=tA (l:=[jR it.chunks.length]); simpa using this) he.o.row (by omega) hH ?_); intro v' wd hd ha _; have h8:=he.o.app (news:=[jR it.chunks.length]) (by simpa using hd) ha; have hh:=an (show AC w wr.heap.size _ wd v' (lH v4 it.chunks 0)from h8); obtain⟨a8,c8',rfl,-,-⟩:=aI hh.o.row; clear hd ha h8)
    clear c0 c1 c2 c3 c4 c5 c6 c7 c8 c9;obtain⟨wo,HD⟩: ∃wo:World,wo=wr:=⟨_,rfl⟩;subst HD
    go_loopw [3,6] (fun lv i wq=> ∃j:Nat,j<=it.chunks.length/\i= .int .i64 j/\AC w wo.heap.size #[.string it.name, .int .i64 it.kind, .int .i64 it.mode, .int .i64 it.time, .int .i64 it.size, .string it.link, .slice ca it.chunks.length cc, .string it.node.name, .int .i64 it.node.gen, .int .i64 it.node.size] wq lv (lH v4 it.chunks j)) (fun _ i _=>it.chunks.length-(intOf i).toNat)
    case atStart=>exact⟨0,aX _,rfl,hh.o⟩
    case round=>
     obtain⟨j,hj,rfl,hJ⟩:=hrel;have hP:=an hJ;have HF:=Hp.o j;have HE:=hJ.below.size;obtain⟨a9,c9',rfl,-,-⟩:=aI hJ.row;have c6:=bH (k:=6) hJ.box;simp only[ak,am,aj]at c6;clear hJ hh he
     by_cases Ha:j<it.chunks.length
     ·obtain⟨c,hc⟩: ∃c,it.chunks[j]? =some c:=⟨it.chunks[j],by simp[Ha]⟩;have Ht:=an (show dA (fun k=>k<w.heap.size) wr (.slice ca it.chunks.length cc) it.chunks from dA.same Hh.o (fun k hk hS=>⟨hS,(hP.o.below.block k hS).trans (HB.o.block k hS).symm⟩));obtain⟨b2,o2,rfl,h9,p0,p1,p2⟩:=oE Ht.o (ay _ _) hc;have Hq:=an (Cq (v4:=v4) hc)
      have Hn:=an (He.o.ch c (aS hc));clear hc h9;go_wp2_with fail;refine(qi c _ Hn.o).mono ?_;rintro e w8 ⟨rv,rfl,hw,hG⟩;have hB:=an (hP.o.next hG);have hY:=an (GW hw);have hr:=hB.o.below.size;obtain⟨ra,rc,rfl,-,-,-⟩:=cL.shape hw Np.len;clear hw hG p0 p1 p2 c6;go_wp2_with (at_builtin; go_must (refine el Tryz.appVals rfl _ _ rfl w.heap.size (.slice a9 (lH v4 it.chunks j).length c9') (lH v4 it.chunks j).length ((lH v4 it.chunks j).flatMap sq) rfl hB.o.row _ (eA c).length ((eA c).flatMap sq) rfl hY.o tA (by simp only[eA,aG,bo]; omega) hr ?_); intro v' we hd ha; have h8:=hB.o.app (news:=eA c) hd ha; rw[<-Hq.o]at h8; have Hs:=an h8; obtain⟨ae,ce,rfl,-,-⟩:=aI h8.row; clear hd ha h8)
      go_roundw
      case rel=>exact⟨j+1,by omega,by go_num,Hs.o⟩
      case measure=>simp[intOf]; omega
     ·obtain rfl:j=it.chunks.length:=by omega
      have Ho:=an (show vk++fW it=lH v4 it.chunks it.chunks.length by rw[EA,hA.o]);go_wp2_with fail
      go_roundw
      case rel=>exact⟨k+1,by omega,by go_num,by rw[hQ.o,Ho.o]; exact hP.o.row,hP.o.below⟩
      case measure=>simp[intOf]; omega
   ·by_cases hD:it.kind=2
    ·have hA:=an (show vk++fW it=v4++eA it.node by rw[EJ hD,hZ.o,bp]);have e1:(it.kind == 1)=false:=by simpa using hq
     have e2:(it.kind == 2)=true:=by simpa using hD
     clear hq hD;obtain⟨c0,c1,c2,c3,c4,c5,c6,c7,c8,c9,_⟩:=aT he.o.box;go_wp2_with fail;refine(qi it.node _ He.o.nd).mono ?_;rintro e w8 ⟨rv,rfl,hw,hG⟩;have hh:=an (he.o.next hG);have hY:=an (GW hw);have hr:=hh.o.below.size;obtain⟨ra,rc,rfl,-,-,-⟩:=cL.shape hw Np.len;clear hw hG c0 c1 c2 c3 c4 c5 c6 c7 c8 c9;go_wp2_with (at_builtin; go_must (refine el Tryz.appVals rfl _ _ rfl w.heap.size (.slice a7 v4.length c7') v4.length (v4.flatMap sq) rfl hh.o.row _ (eA it.node).length ((eA it.node).flatMap sq) rfl hY.o tA (by simp only[eA,aG,bo]; omega) hr ?_); intro v' wd hd ha; have h8:=hh.o.app (news:=eA it.node) hd ha; rw[<-hA.o]at h8; obtain⟨v8,hy⟩: ∃v8,v8=vk++fW it:=⟨_,rfl⟩; have h0:=an hy; rw[<-hy]at h8; have hB:=an h8; obtain⟨a8,c8',rfl,-,-⟩:=aI h8.row; clear hd ha h8 hy)
     go_roundw
     case rel=>exact⟨k+1,by omega,by go_num,by rw[hQ.o,<-h0.o]; exact hB.o.row,hB.o.below⟩
     case measure=>simp[intOf]; omega
    ·have hA:=an (show vk++fW it=v4++[oa it.link] by rw[CE hq hD,hZ.o,bp]);have e1:(it.kind == 1)=false:=by simpa using hq
     have e2:(it.kind == 2)=false:=by simpa using hD
     clear hq hD;obtain⟨c0,c1,c2,c3,c4,c5,c6,c7,c8,c9,_⟩:=aT he.o.box;go_wp2_with (at_builtin; go_must (refine iN Tryz.appVals rfl _ _ rfl w.heap.size (.slice a7 v4.length c7') v4.length (v4.flatMap sq) rfl wc (sq (oa it.link)) _ rfl rfl (by have:=tA (l:=[oa it.link]); simpa using this) he.o.row (by omega) hH ?_); intro v' wd hd ha _; have h8:=he.o.app (news:=[oa it.link]) (by simpa using hd) ha; rw[<-hA.o]at h8; obtain⟨v8,hy⟩: ∃v8,v8=vk++fW it:=⟨_,rfl⟩; have h0:=an hy; rw[<-hy]at h8; have hh:=an h8; obtain⟨a8,c8',rfl,-,-⟩:=aI h8.row; clear hd ha h8 hy)
     go_roundw
     case rel=>exact⟨k+1,by omega,by go_num,by rw[hQ.o,<-h0.o]; exact hh.o.row,hh.o.below⟩
     case measure=>simp[intOf]; omega
  ·obtain rfl:k=l.length:=by omega
   have Hu:=an (show yL (fun _=>True) wr (.slice ao (lN l l.length).length co) (iA l) by
    have h1:=cG HO.o;have h2:=FQ l;rw[h2]at h1 ⊢;exact⟨_,h1.weak (fun _ _=>trivial),Bo (Dg HS.o (by omega) HL.o)⟩)
   have Hr:=HL;go_wp2_with fail;refine(Ez _ _ _ _ Hu.o Hr.o).mono ?_;rintro e w1 ⟨hF,ho⟩;have Hd:=an (aw HB.o hF);have hz:=HB.o.size;clear hF
   cases hC:yf (iA l)with
   | error x=>
    rw[hC]at ho;obtain⟨rfl,hx⟩:=ho;have HX:=an (show th l=[] by unfold th; rw[hC]);clear hC hx;go_wp2_with fail;go_ret;exact⟨_,rfl,by rw[HX.o]; exact bN _ _ _ _,Hd.o⟩
   | ok bs=>
    rw[hC]at ho;obtain⟨v,rfl,hv⟩:=ho;have HX:=an (show th l=bs by unfold th; rw[hC]);have Hv:=an hv;obtain⟨va,vc,rfl,HH,HI⟩:=aI hv;clear hv;clear hC;go_wp2_with fail;go_ret;exact⟨_,rfl,by rw[HX.o]; exact Jw Hv.o hz,Hd.o⟩
theorem xK {n:Nat} (h:n<256):(UInt8.ofNat n).toNat=n:=dS (by exact h)
theorem zN : ∀(f n:Nat),n<2^(7*(f+1))-> ∃l c,jM f n=l++[c]/\(∀b∈l,128<=b.toNat)/\c.toNat<128
 | 0,n,h=>⟨[],UInt8.ofNat n,rfl,by simp,by
  rw[xK (by simp at h; omega)]; simpa using h⟩
 | f+1,n,h=>by
  rw[jM]
  by_cases hn:127<n
  ·rw[if_pos hn];obtain⟨l,c,h1,h2,h3⟩:=zN f (n/128) (by
    rw[show 7*(f+1+1)=7*(f+1)+7 by omega,gd]at h;exact eX (by omega))
   refine⟨UInt8.ofNat (n%128+128)::l,c,by rw[h1]; rfl,fun b hb=> ?_,h3⟩
   rcases bh.1 hb with rfl | hb
   ·rw[xK (by omega)]; omega
   ·exact h2 b hb
  ·rw[if_neg hn];exact⟨[],UInt8.ofNat n,rfl,by simp,by rw[xK (by omega)]; omega⟩
theorem xg : ∀(f n j:Nat),1<=j->n<2^(7*j)->(jM f n).length<=j
 | 0,n,j,hj,_=>by simpa [jM]using hj
 | f+1,n,j,hj,h=>by
  rw[jM]
  by_cases hn:127<n
  ·rw[if_pos hn,aG];obtain⟨j,rfl⟩: ∃k,j=k+1:=⟨j-1,by omega⟩;have hj1:1<=j:=by
    rcases eU j with e | e
    ·subst e; simp at h; omega
    ·exact e
   have:=xg f (n/128) j hj1 (by
    rw[show 7*(j+1)=7*j+7 by omega,gd]at h;exact eX (by omega))
   omega
  ·rw[if_neg hn]; simpa using hj
theorem iE {n:Nat} (h:n<18446744073709551616):(bE n).length<=10:=xg 10 n 10 (by decide) (iY h (by decide))
theorem rQ (n:Nat):1<=(bE n).length:=by
 unfold bE jM; split<;> simp
theorem GK {data:List UInt8} {off:Nat} {c:UInt8} (hc:c.toNat<128) (rest:List UInt8): ∀(q p:List UInt8) (f:Nat),data.drop off=(p++q++[c])++rest->(∀b∈q,128<=b.toNat)->
  bE (ut (p++q++[c]))=p++q++[c]->q.length<f->yu data off f p.length= .ok (ut (p++q++[c]),off+(p++q++[c]).length)
 | [],p,f,hd,_,he,hf=>by
  obtain⟨f,rfl⟩: ∃g,f=g+1:=⟨f-1,by simp at hf; omega⟩;rw[cj]at hd he ⊢;have h1:data[off+p.length]? =some c:=by rw[<-fz,hd]; simp
  have h2:(data.drop off).take (p.length+1)=p++[c]:=by rw[hd,List.take_left' (by simp)]
  rw[NV h1 (by omega) (by rw[h2]; exact he),h2,ar,bQ,<-df]
 | b::q,p,f,hd,hq,he,hf=>by
  obtain⟨f,rfl⟩: ∃g,f=g+1:=⟨f-1,by simp at hf; omega⟩;have h1:data[off+p.length]? =some b:=by rw[<-fz,hd]; simp
  rw[Ju h1 (hq b (by simp))];have:=GK hc rest q (p++[b]) f (by rw[hd]; simp) (fun x hx=>hq x (by simp[hx])) (by simpa using he) (by simp at hf; omega);rw[ar,bQ]at this;rw[this]; simp
theorem xi {data rest:List UInt8} {off n:Nat} (ho:off<=data.length) (hn:n<18446744073709551616) (h:data.drop off=bE n++rest):ol data off= .ok (n,off+(bE n).length):=by
 obtain⟨l,c,h1,h2,h3⟩:=zN 10 n (iY hn (by decide));have hv:ut (bE n)=n:=by
  unfold ut bE;rw[xP 10 n (iY hn (by decide)),eu hn]
 have hs:=iE hn;have he:bE n=l++[c]:=h1;rw[LY data off ho];have:=GK (data:=data) (off:=off) h3 rest l [] 10 (by rw[h,he]; simp) h2 (by rw[aL,<-he,hv]) (by rw[he]at hs; simp at hs; omega);rw[bo,aL,<-he,hv]at this;exact this
def Ok (data:List UInt8) (s:RS):Prop:=s.err=0/\s.off<=data.length
theorem GV {α:Type} {z x:α} {r:Except Int (α×Nat)} {s:RS} {o:Nat} (h:s.err=0) (hr:r= .ok (x,o)):rv z r s=(x,⟨o,s.off,0⟩):=by unfold rv; rw[if_pos h,hr]
theorem nV {data a rest:List UInt8} {off:Nat} (ho:off<=data.length) (h:data.drop off=a++rest):off+a.length<=data.length/\data.drop (off+a.length)=rest:=by
 have h1:=congrArg List.length h;rw[bA,ar]at h1;refine⟨by omega, ?_⟩;rw[<-fI,h,List.drop_left]
theorem xM {data rest:List UInt8} {s:RS} {n:Nat} (hs:Ok data s) (hn:n<18446744073709551616) (h:data.drop s.off=bE n++rest): ∃s',vp data s=(n,s')/\Ok data s'/\data.drop s'.off=rest:=by
 have h1:=nV hs.2 h;exact⟨_,GV hs.1 (xi hs.2 hn h),⟨rfl,h1.1⟩,h1.2⟩
theorem Ld {data rest:List UInt8} {s:RS} {n most:Nat} (hs:Ok data s) (hn:n<18446744073709551616) (hm:n<=most) (h:data.drop s.off=bE n++rest): ∃s',AO data most s=(n,s')/\Ok data s'/\data.drop s'.off=rest:=by
 have h1:=nV hs.2 h;refine⟨_,GV hs.1 (o:=s.off+(bE n).length) ?_,⟨rfl,h1.1⟩,h1.2⟩;unfold mW;rw[xi hs.2 hn h];simp only;rw[if_neg (by omega)]
theorem DR {data a rest:List UInt8} {off:Nat} (ho:off<=data.length) (h:data.drop off=a++rest):kA data off a.length= .ok (a,off+a.length):=by
 have h1:=(nV ho h).1;unfold kA;rw[if_neg (by omega),h,List.take_left]
theorem Pk {data a rest:List UInt8} {s:RS} (hs:Ok data s) (ha:a.length=32) (h:data.drop s.off=a++rest): ∃s',smP data s=(a,s')/\Ok data s'/\data.drop s'.off=rest:=by
 have h1:=nV hs.2 h;have h2:=DR hs.2 h;rw[ha]at h2 h1;exact⟨_,GV hs.1 h2,⟨rfl,h1.1⟩,h1.2⟩
theorem MR {data a rest:List UInt8} {s:RS} {most:Nat} (hs:Ok data s) (ha:a.length<=most) (hm:most<18446744073709551616) (h:data.drop s.off=bE a.length++(a++rest)): ∃s',DT data most s=(a,s')/\Ok data s'/\data.drop s'.off=rest:=by
 have h1:=nV hs.2 h;have h3:=nV h1.1 h1.2;refine⟨_,GV hs.1 (o:=s.off+(bE a.length).length+a.length) ?_,⟨rfl,h3.1⟩,h3.2⟩;unfold ki mW;rw[xi hs.2 (by omega) h];simp only;rw[if_neg (by omega)];simp only;exact DR h1.1 h1.2
def fw (r:cX):List UInt8:=bl r.name++(bE r.gen.toNat++bE r.size.toNat)
theorem tH {n:Nat} (h:n<9223372036854775808):ob n=(n:Int):=by unfold ob wrap64; omega
theorem mQ {r:cX} :ld r=true<->r.name.size=32/\0<=r.gen/\r.gen<=1099511627776/\0<=r.size/\r.size<=32768:=by unfold ld; simp[and_assoc]
theorem GU {data rest:List UInt8} {s:RS} {r:cX} (hs:Ok data s) (hr:ld r=true) (h:data.drop s.off=fw r++rest): ∃s',rB data s=(r,s')/\Ok data s'/\data.drop s'.off=rest:=by
 obtain⟨h1,h2,h3,h4,h5⟩:=mQ.1 hr;unfold fw at h;rw[bp,bp]at h;obtain⟨s1,e1,o1,d1⟩:=Pk hs (by rw[<-bi]; exact h1) h;obtain⟨s2,e2,o2,d2⟩:=xM o1 (by omega) d1;obtain⟨s3,e3,o3,d3⟩:=xM o2 (by omega) d2;refine⟨s3, ?_,o3,d3⟩;unfold rB;rw[e1];simp only;rw[e2];simp only;rw[e3,te,tH (by omega),tH (by omega)]
 congr 1
 cases r
 simp only[cX.mk.injEq,true_and]at *;omega
theorem wg {data:List UInt8} : ∀(l pre:List cX) (rest:List UInt8) (s0 s:RS),jg data s0 pre.length=(pre,s)->Ok data s->(∀r∈l,ld r=true)->data.drop s.off=l.flatMap fw++rest->
  ∃s',jg data s0 (pre.length+l.length)=(pre++l,s')/\Ok data s'/\data.drop s'.off=rest
 | [],pre,rest,s0,s,h,hs,_,hd=>⟨s,by simpa using h,hs,by simpa using hd⟩
 | r::l,pre,rest,s0,s,h,hs,hv,hd=>by
  rw[bq,bp]at hd;obtain⟨s1,e1,o1,d1⟩:=GU hs (hv r (by simp)) hd;have h1:=uE h e1;obtain⟨s2,e2,o2,d2⟩:=wg l (pre++[r]) rest s0 s1 (by simpa using h1) o1 (fun x hx=>hv x (by simp[hx])) d1;refine⟨s2, ?_,o2,d2⟩;rw[ar,bQ]at e2;rw[aG,show pre.length+(l.length+1)=pre.length+1+l.length by omega,e2]
  simp
theorem Em (l:List UInt8):iK l=(dB l && !l.contains 47):=by
 by_cases h:(47:UInt8)∈l
 ·have h1:l.contains 47=true:=by simpa using h
  have h2:iK l=false:=by unfold iK; rw[h1]; simp
  rw[h1,h2]; simp
 ·have h1:l.contains 47=false:=by simpa using h
  rw[h1];unfold dB;rw[gq 47 l h]
  cases hc:iK l
  ·simp[hc]
  ·have h2:l.length<=64:=by
    unfold iK at hc;simp only[aJ,aK]at hc;exact hc.1.1.1.1.2
   simp[hc]; omega
def lj (it:cr):List UInt8:=
 if it.kind=1 then bE it.chunks.length++it.chunks.flatMap fw else if it.kind=2 then fw it.node else bE it.link.size++bl it.link
def gp (it:cr):List UInt8:=bE it.name.size++(bl it.name++(bE it.kind.toNat++(bE it.mode.toNat++(bE it.time.toNat++lj it))))
def fY (l:List cr):List UInt8:=bE l.length++l.flatMap gp
theorem Ex {r:cX} (h:ld r=true):34<=(fw r).length:=by
 obtain⟨h1,_⟩:=mQ.1 h;unfold fw;rw[ar,ar,<-bi,h1];have:=rQ r.gen.toNat
 have:=rQ r.size.toNat
 omega
theorem uH : ∀ {l:List cX},(∀r∈l,ld r=true)->34*l.length<=(l.flatMap fw).length
 | [],_=>by simp
 | r::l,h=>by
  have h1:=Ex (h r (by simp));have h2:=uH (l:=l) (fun x hx=>h x (by simp[hx]));rw[bq,ar,aG]; omega
structure KD (it : cr) : Prop where
 val:dB (bl it.name)=true
 nos:(bl it.name).contains 47=false
 md0:0<=it.mode
 md1:it.mode<=511
 tm0:0<=it.time
theorem pg {it:cr} :tJ it=true<->KD it:=by
 unfold tJ
 constructor
 ·intro h;simp only[aJ,aK,gJ]at h;exact⟨h.1.1,h.1.2,h.2.1.1,h.2.1.2,h.2.2⟩
 ·intro h;simp only[aJ,aK,gJ];exact⟨⟨h.val,h.nos⟩,⟨h.md0,h.md1⟩,h.tm0⟩
theorem lw {it:cr} (hk:it.kind=1) (h:kO it=true):it.link=⟨#[]⟩/\it.node=ef/\(∀c∈it.chunks,ld c=true/\1<=c.size)/\it.size=mY it.chunks/\it.size<=1048576:=by
 unfold kO at h;rw[if_pos hk]at h;unfold ll at h;simp only[aJ,aK,cz]at h;refine⟨?_,h.1.2,fun c hc=> ?_,h.2.2.1,h.2.2.2⟩
 ·apply jP
  have:=h.1.1;rw[bi]at this;rw[bt this]; rfl
 ·have:=h.2.1 c hc;unfold qP at this;simp only[aJ,aK]at this;exact⟨this.1,by have:=this.2; omega⟩
theorem qn {it:cr} (hk:it.kind=2) (h:kO it=true):it.link=⟨#[]⟩/\it.size=0/\it.chunks=[]/\ld it.node=true:=by
 unfold kO at h;rw[if_neg (by omega),if_pos hk]at h;simp only[aJ,aK]at h;refine⟨?_,h.1.1.2,bt h.1.2,h.2⟩
 apply jP
 have:=h.1.1.1;rw[bi]at this;rw[bt this]; rfl
theorem qX {it:cr} (hk:it.kind=3) (h:kO it=true):it.size=0/\it.chunks=[]/\it.node=ef/\1<=it.link.size/\it.link.size<=512/\(bl it.link).contains 0=false:=by
 unfold kO at h;rw[if_neg (by omega),if_neg (by omega),if_pos hk]at h;simp only[aJ,aK,gJ]at h;exact⟨h.1.1.1,bt h.1.1.2,h.1.2,h.2.1.1,h.2.1.2,h.2.2⟩
theorem nA {it:cr} (h:kO it=true):it.kind=1\/it.kind=2\/it.kind=3:=by
 unfold kO at h
 by_cases h1:it.kind=1
 ·exact .inl h1
 ·by_cases h2:it.kind=2
  ·exact .inr (.inl h2)
  ·by_cases h3:it.kind=3
   ·exact .inr (.inr h3)
   ·rw[if_neg h1,if_neg h2,if_neg h3]at h; cases h
theorem sJ {l:List UInt8} (h:dB l=true) (h2:l.contains 47=false):l.length<=64:=by
 have:=Em l;rw[h,h2]at this;unfold iK at this;simp only[Bool.not_false,Bool.and_self,aJ,aK]at this;omega
theorem LC {data rest:List UInt8} {s:RS} {it:cr} (hs:Ok data s) (hv:gO it=true) (ht:it.time<9223372036854775808) (hl:data.length<=32768) (h:data.drop s.off=gp it++rest):
  ∃s',mZ data s=some (it,s')/\Ok data s'/\data.drop s'.off=rest:=by
 unfold gO at hv;rw[aJ]at hv;have hh:=pg.1 hv.1;have hk:=nA hv.2;unfold gp at h;simp only[bp]at h;rw[bi]at h;obtain⟨s2,e2,o2,d2⟩:=MR (most:=64) hs (sJ hh.val hh.nos) (by decide) h;have b0:=hh.md0;have b1:=hh.md1;have b2:=hh.tm0;obtain⟨s3,e3,o3,d3⟩:=xM o2 (by omega) d2;obtain⟨s4,e4,o4,d4⟩:=xM o3 (by omega) d3
 obtain⟨s5,e5,o5,d5⟩:=xM o4 (by omega) d4;rw[wP e2 e3 e4 e5];have tk:ob it.kind.toNat=it.kind:=by rw[tH (by omega)]; omega
 have tm:ob it.mode.toNat=it.mode:=by rw[tH (by omega)]; omega
 have tt:ob it.time.toNat=it.time:=by rw[tH (by omega)]; omega
 rcases hk with hk | hk | hk
 ·obtain⟨f1,f2,f3,f4,_⟩:=lw hk hv.2;unfold lj at d5;rw[if_pos hk,bp]at d5;have h6:=nV o5.2 d5;have h7:34*it.chunks.length<=(it.chunks.flatMap fw).length:=uH (fun r hr=>(f3 r hr).1);have h8:=congrArg List.length h6.2;rw[bA,ar]at h8;obtain⟨s6,e6,o6,d6⟩:=Ld (most:=963) o5 (by omega) (by omega) d5
  obtain⟨s7,e7,o7,d7⟩:=wg it.chunks [] rest s6 s6 rfl o6 (fun r hr=>(f3 r hr).1) d6;rw[bo,bX,aL]at e7;refine⟨s7, ?_,o7,d7⟩;rw[wN (by rw[tk]; exact hk) e6 e7,tk,tm,tt,te,<-f4,<-f1,<-f2]
 ·obtain⟨f1,f2,f3,f4⟩:=qn hk hv.2;unfold lj at d5;rw[if_neg (by omega),if_pos hk]at d5;obtain⟨s6,e6,o6,d6⟩:=GU o5 f4 d5;refine⟨s6, ?_,o6,d6⟩;rw[zt (by rw[tk]; exact hk) e6,tk,tm,tt,te,<-f1,<-f3];rw[show(0:Int)=it.size from f2.symm]
 ·obtain⟨f1,f2,f3,f4,f5,_⟩:=qX hk hv.2;unfold lj at d5;rw[if_neg (by omega),if_neg (by omega),bp,bi]at d5;obtain⟨s6,e6,o6,d6⟩:=MR (most:=512) o5 (by rw[<-bi]; omega) (by decide) d5;refine⟨s6, ?_,o6,d6⟩;rw[wO (by rw[tk]; exact hk) e6,tk,tm,tt,te,te,<-f3,<-f2];rw[show(0:Int)=it.size from f1.symm]
theorem xO : ∀ {l:List cr} {p:Option ByteArray},jT p l=true-> ∀it∈l,gO it=true
 | it::l,p,h,x,hx=>by
  rw[jT,aJ,aJ]at h
  rcases bh.1 hx with rfl | hx
  ·exact h.1.1
  ·exact xO h.2 x hx
theorem nF {l:List cr} (h:jB l=true):l.length<=4096/\ ∀it∈l,gO it=true:=by
 unfold jB at h;rw[aJ,aK]at h;exact⟨h.1,xO h.2⟩
theorem zA {data:List UInt8} (hl:data.length<=32768): ∀(l pre:List cr) (rest:List UInt8) (s0 s:RS),jh data s0 pre.length=some (pre,s)->Ok data s->(∀it∈l,gO it=true/\it.time<9223372036854775808)->data.drop s.off=l.flatMap gp++rest->
  ∃s',jh data s0 (pre.length+l.length)=some (pre++l,s')/\Ok data s'/\data.drop s'.off=rest
 | [],pre,rest,s0,s,h,hs,_,hd=>⟨s,by simpa using h,hs,by simpa using hd⟩
 | it::l,pre,rest,s0,s,h,hs,hv,hd=>by
  rw[bq,bp]at hd;obtain⟨s1,e1,o1,d1⟩:=LC hs (hv it (by simp)).1 (hv it (by simp)).2 hl hd;have h1:=mJ h e1;obtain⟨s2,e2,o2,d2⟩:=zA hl l (pre++[it]) rest s0 s1 (by simpa using h1) o1 (fun x hx=>hv x (by simp[hx])) d1;refine⟨s2, ?_,o2,d2⟩;rw[ar,bQ]at e2;rw[aG,show pre.length+(l.length+1)=pre.length+1+l.length by omega,e2]
  simp
theorem LX {l:List cr} (hv:jB l=true) (ht: ∀it∈l,it.time<9223372036854775808) (hl:(fY l).length<=32768):iR (fY l)=some l:=by
 obtain⟨h1,h2⟩:=nF hv;have hs:Ok (fY l) ⟨0,0,0⟩:=⟨rfl,aX _⟩;obtain⟨s1,e1,o1,d1⟩:=Ld (rest:=l.flatMap gp) (most:=4096) (n:=l.length) hs (by omega) h1 rfl;obtain⟨s2,e2,o2,d2⟩:=zA hl l [] [] s1 s1 rfl o1 (fun it hi=>⟨h2 it hi,ht it hi⟩) (by simpa using d1);rw[bo,bX,aL]at e2;rw[qy (by omega) e1 e2]
 have h3:=congrArg List.length d2;rw[bA,bo]at h3;have h4:tV (fY l) s2=0:=by unfold tV; rw[if_pos o2.1,if_neg (by omega)]
 rw[if_pos ⟨h4,hv⟩]
open Go Go.RowKit
theorem PE {x:Nat} (h:x<256):x ||| 128=x%128+128:=by
 have: ∀y:Fin 256,y.val ||| 128=y.val%128+128:=by decide
 exact this ⟨x,h⟩
theorem IA (n:Nat):Value.int .u8 (bits BinOp.or IntKind.u8 ((n:Int)%256) 128)=aY (UInt8.ofNat (n%128+128)):=by
 rw[mf (by omega),show((n:Int)%256)=((n%256:Nat):Int) by omega,show(128:Int)=((128:Nat):Int)from rfl,u8_or_nat _ _ (by omega) (by decide),PE (by omega)]
 congr 2
 omega
theorem Iz {n:Nat} (h:n<256):Value.int .u8 (n:Int)=aY (UInt8.ofNat n):=(mf h).symm
def lA (w:World) (base:Nat) (v:Value) (acc:List UInt8):Prop:=w.ownsRow base 5 1 v acc.length (acc.map aY)
def OI (base:Nat) (v:Value) (acc:List UInt8) (w:World) (e:Ending) (w':World):Prop:= ∃v',e= .returned v'/\lA w' base v' acc/\w.grownBy w' v.ownBlock/\(∀k,v'.ownBlock=some k->v.ownBlock=some k\/w.heap.size<=k)
structure Nk (base : Nat) (v : Value) (w : World) (x : Value) (ac : List UInt8) (wr : World) : Prop where
 own:lA wr base x ac
 grown:w.grownBy wr v.ownBlock
 place: ∀k,x.ownBlock=some k->v.ownBlock=some k\/w.heap.size<=k
theorem Nk.next {base:Nat} {v:Value} {w:World} {x:Value} {ac:List UInt8} {wr wc:World} {v' u:Value} {n:Nat} {b:UInt8} (h:Nk base v w x ac wr) (h1:wc.ownsRow base 5 1 v' (n+1) (ac.map aY++[u])) (h2:wr.grownBy wc x.ownBlock) (h3: ∀k,v'.ownBlock=some k->x.ownBlock=some k\/wr.heap.size<=k)
  (hn:n=ac.length) (hu:u=aY b):Nk base v w v' (ac++[b]) wc:=by
 subst hn hu;refine⟨by unfold lA; simpa using h1,⟨h2.os.trans h.grown.os,h2.tape.trans h.grown.tape,h2.output.trans h.grown.output,aB h.grown.size h2.size,fun k hk ha=> ?_⟩,fun k hk=> ?_⟩
 ·rw[h2.block k (aR hk h.grown.size) (fun e=> ?_)]
  ·exact h.grown.block k hk ha
  ·rcases h.place k e.symm with e2 | e2
   ·exact ha e2.symm
   ·omega
 ·rcases h3 k hk with e | e
  ·exact h.place k e
  ·exact .inr (aB h.grown.size e)
theorem rR (base:Nat) (v:Value) (acc:List UInt8) (n:Nat) (w:World) (hv:lA w base v acc) (hb:base<=w.heap.size) (hl:acc.length<1099511000000) (hn:n<18446744073709551616):
  Calls Tryz.prog 100 #[v, .int .u64 (n:Int)] w (OI base v (acc++bE n) w):=by
 have HV:=an hv;obtain⟨a0,c0,rfl,hx,hy⟩:=aI hv;clear hv
 go_enter Tryz.func100,Tryz.ntmps100
 go_wp2_with fail
 go_loopw [0,1] (fun x y wr=> ∃(f m:Nat) (ac:List UInt8),y= .int .u64 (m:Int)/\m<18446744073709551616/\m<2^(7*f)/\ac++jM f m=acc++bE n/\Nk base (.slice a0 acc.length c0) w x ac wr) (fun _ y _=>(intOf y).toNat)
 case atStart=>exact⟨10,n,acc,rfl,hn,iY hn (by decide),rfl,HV.o,pG _ _,fun k hk=> .inl hk⟩
 case round=>
  obtain⟨f,m,ac,rfl,hm,hu,hf,hd⟩:=hrel;obtain⟨ax,cx,rfl,h1,h2⟩:=aI hd.own;obtain⟨xl,hh⟩: ∃xl,xl=ac.length:=⟨_,rfl⟩;rw[<-hh]at hd h1 ⊢;have HI:=an hd;have hq:=an hh;have HO:=an (show wr.ownsRow base 5 1 (.slice ax xl cx) xl (ac.map aY) by have:=hd.own; unfold lA at this; rw[<-hh]at this; exact this);have HE:=an hf;have hp:=an hu
  have hr:base<=wr.heap.size:=by have:=hd.grown.size; omega
  have hg:=congrArg List.length hf;rw[ar,ar]at hg;have:=dw n;have hw:xl<1099511627775:=by omega
  clear hd hf hu hg this hh
  by_cases hs:127<m
  ·have HV:=an (IA m);have HZ:=an (show ∀u∈[(Value.int .u8 (bits BinOp.or IntKind.u8 ((m:Int)%256) 128))],u.oneCell'=true by simp[Value.oneCell']);obtain⟨f,rfl⟩: ∃g,f=g+1:=⟨f-1,by
    cases f with
    | zero=>have:=hp.o; simp at this; omega
    | succ g=>rfl⟩
   have hj:=an (show(ac++[UInt8.ofNat (m%128+128)])++jM f (m/128)=acc++bE n by rw[<-HE.o,jM,if_pos hs]; simp);have ho:=an (show m/128<2^(7*f) by
    have h3:=hp.o;rw[show 7*(f+1)=7*f+7 by omega,gd]at h3;exact eX (by omega))
   go_wp2_with (at_builtin; go_loud (refine bR Tryz.appBytes rfl _ _ rfl base (.slice ax xl cx) xl (ac.map aY) rfl wr [Value.int .u8 (bits BinOp.or IntKind.u8 ((m:Int)%256) 128)] _ rfl rfl HZ.o HO.o hw hr ?_); intro v' wc hc ha _ he; go_loud (have HP:=an (HI.o.next hc ha he hq.o HV.o)); obtain⟨ae,ce,rfl,-,-⟩:=aI hc; clear hc ha he)
   go_roundw
   case rel=>exact⟨f,m/128,_,by simp,by omega,ho.o,hj.o,HP.o⟩
   case measure=>simp[intOf]; omega
  ·have HV:=an (Iz (n:=m) (by omega));have HZ:=an (show ∀u∈[(Value.int .u8 (m:Int))],u.oneCell'=true by simp[Value.oneCell']);have hj:=an (show ac++[UInt8.ofNat m]=acc++bE n by
    rw[<-HE.o]
    cases f with
    | zero=>rfl
    | succ f=>rw[jM,if_neg hs])
   go_wp2_with (at_builtin; go_loud (refine bR Tryz.appBytes rfl _ _ rfl base (.slice ax xl cx) xl (ac.map aY) rfl wr [Value.int .u8 (m:Int)] _ rfl rfl HZ.o HO.o hw hr ?_); intro v' wc hc ha _ he; go_loud (have HP:=an (HI.o.next hc ha he hq.o HV.o)); obtain⟨ae,ce,rfl,-,-⟩:=aI hc; clear hc ha he);go_ret;rw[<-hj.o];exact⟨_,rfl,HP.o.own,HP.o.grown,HP.o.place⟩
theorem vQ (n:Nat) (w:World) (hn:n<18446744073709551616):
  Calls Tryz.prog 176 #[.slice none 0 0, .int .u64 (n:Int)] w fun e w'=> ∃v,e= .returned v/\lA w' w.heap.size v (bE n)/\Below w.heap.size w w':=by
 obtain⟨hr,⟨i9,z9,he,hf,hg,hh,hq⟩,-,-⟩:=Tryz.appBytes;have hb:i9.bytes*10<=281474976710656:=by rw[hh]; decide
 have H9:=an (aD he (aD hf (aD hg hb)));clear he hf hg hh hq hb
 go_enter Tryz.func176,Tryz.ntmps176
 go_wp2_with (first | (refine wpList_make_own _ rfl _ _ 29 rfl w.heap.size 5 i9 z9 1 dh H9.o.1 H9.o.2.1 H9.o.2.2.1 .i64 .i64 10 10 rfl rfl rfl H9.o.2.2.2 (by decide) (au _) ?_; intro w4 ha hj; have ho:=an ha; have hd:=an hj; clear ha hj));refine(rR w.heap.size _ [] n w4 ho.o hd.o.size (by simp) hn).mono ?_;rintro e w5 ⟨v',rfl,hc,hl,-⟩
 rw[aL]at hc;have hp:=an hc;have hm:=an ((jt hd.o).grown hl hd.o.size (fun k hk=>by cases hk; exact au _));obtain⟨a5,c5,rfl,-,-⟩:=aI hc;clear hc hl;go_wp2_with fail;go_ret;exact⟨_,rfl,hp.o,hm.o⟩
def lenOf (v:Value):Nat:=match v with
 | .slice _ n _=>n
 | _=>0
theorem li {x:Nat} {y:Int} (h:y=(x:Int)%256):Value.int .u8 y=aY (UInt8.ofNat x):=by
 rw[h];simp[aY]
theorem Md (S:Nat->Prop) (v:Value) (data:List UInt8) (w:World) (hv:bG S w v data) (hl:data.length<549755813888):
  Calls Tryz.prog 215 #[v] w fun e w'=> ∃a c,e= .returned (.slice a (data++pn data.length).length c)/\lA w' w.heap.size (.slice a (data++pn data.length).length c) (data++pn data.length)/\Below w.heap.size w w':=by
 obtain⟨hR,a,cap,rfl,hn,hm,-⟩:=id hv;unfold maxLen at hm;have HV:=an hv;obtain⟨n,hs⟩: ∃n,n=data.length:=⟨_,rfl⟩;rw[<-hs]at hl hn ⊢;have HN:=an hs;have hA:=an (show(w.alloc (.cells #[] 5)).ownsRow w.heap.size 5 1 (.slice (some ⟨w.heap.size,0,none⟩) 0 0) 0 []from di (e:=5) (size:=1) (base:=w.heap.size) w #[] 0 (au _) (aX _) (by simp))
 have hL:=an ((ay w.heap.size w).alloc (au _) (.cells #[] 5));have hP:=an (show cE S (w.alloc (.cells #[] 5)) 1 (.slice a n cap) n (data.map aY) by rw[hs]; exact cE.below hv (by omega) ((ay w.heap.size w).alloc (au _) _));clear hv hR hs
 go_enter Tryz.func215,Tryz.ntmps215
 have hT:0+n<1099511627775:=by omega
 have hS:n<1099511627775:=by omega
 have hJ:w.heap.size<=(w.alloc (.cells #[] 5)).heap.size:=by simp
 go_wp2_with (at_builtin; first
  | (refine el Tryz.appBytes rfl _ _ rfl w.heap.size (.slice (some ⟨w.heap.size,0,none⟩) 0 0) 0 [] rfl hA.o (.slice a n cap) n (data.map aY) rfl hP.o (fo data) hT hJ ?_; intro v1 w1 hg hE; rw[bX,aL]at hg; obtain⟨a1,c1,rfl,-,-⟩:=aI hg; have hB:=an hg; have hu:=an (cg hL.o hA.o hE (au _) hJ); clear hg hE)
  | (refine bR Tryz.appBytes rfl _ _ rfl w.heap.size (.slice a1 n c1) n (data.map aY) rfl w1 [Value.int .u8 128] _ rfl rfl (fo [128]) hB.o hS hu.o.size ?_; intro v2 w2 hh hF _ _; obtain⟨a2,c2,rfl,-,-⟩:=aI hh))
 have hO:=an (show w2.ownsRow w.heap.size 5 1 (.slice a2 (n+1) c2) (n+1) ((data++128::List.replicate 0 0).map aY) by rw[aO]; exact hh);have hM:=an (cg hu.o hB.o hF (au _) hu.o.size);clear hh hF
 go_loopw [3] (fun o wr=> ∃(k:Nat) (a c:_),k<=iI n/\o= .slice a (n+1+k) c/\wr.ownsRow w.heap.size 5 1 (.slice a (n+1+k) c) (n+1+k) ((data++128::List.replicate k 0).map aY)/\Below w.heap.size w wr) (fun o _=>iI n+n+1-lenOf o)
 case atStart=>exact⟨0,_,_,by omega,rfl,hO.o,hM.o⟩
 case round=>
  obtain⟨k,a3,c3,hk,rfl,ho,hb⟩:=hrel;obtain⟨m,hy⟩: ∃m,m=n+1+k:=⟨_,rfl⟩;rw[<-hy]at ho ⊢;have HM:=an hy;have HO:=an ho;have HB:=an hb;have hz:=hb.size;clear ho hb hy;have hI:iI n<64:=cV _ (by decide)
  by_cases hQ:m%64=56
  ·have e1:((m:Int)%64 != 56)=false:=by rw[bne_eq_false_iff_eq]; omega
   have hx:k=iI n:=by have:=HM.o; unfold iI at hk hI ⊢; omega
   subst hx;clear hQ;go_wp2_with fail;obtain⟨w5,hU⟩: ∃x,x=wr:=⟨_,rfl⟩;subst hU;obtain⟨pre,hq⟩: ∃pre,pre=data++128::List.replicate (iI n) 0:=⟨_,rfl⟩;rw[<-hq]at HO;have hw:=an hq;have hG:pre.length=m:=by rw[hq,HM.o,HN.o]; simp; omega
   have hN:=an hG;have hr:m+8<1099511627775:=by have:=HM.o; omega
   clear hq hG e1 hk hI
   go_loopw [3,5] (fun o i wr=> ∃(j:Nat) (a c:_),j<=8/\i= .int .i64 (7-(j:Int))/\o= .slice a (m+j) c/\wr.ownsRow w.heap.size 5 1 (.slice a (m+j) c) (m+j) ((pre++(nJ (n*8)).take j).map aY)/\Below w.heap.size w wr) (fun _ i _=>(intOf i+1).toNat)
   case atStart=>exact⟨0,a3,c3,by omega,rfl,rfl,by simpa using HO.o,HB.o⟩
   case round=>
    obtain⟨j,a5,c5,hj,rfl,rfl,ho,hb⟩:=hrel;have hd:=an ho;have hp:=an hb;have hf:=hb.size;clear ho hb hz;have hc:j=0\/j=1\/j=2\/j=3\/j=4\/j=5\/j=6\/j=7\/j=8:=by omega
    rcases hc with rfl | rfl | rfl | rfl | rfl | rfl | rfl | rfl | rfl
    ·skip
     rw[show(7-((0:Nat):Int))=7 from rfl];go_wp2_with (at_builtin; go_must (refine bR Tryz.appBytes rfl _ _ rfl w.heap.size (.slice a5 (m+0) c5) (m+0) ((pre++(nJ (n*8)).take 0).map aY) rfl wr [Value.int .u8 ((n:Int)*8/72057594037927936)] _ rfl rfl (by simp[Value.oneCell']) hd.o (by omega) hf ?_); intro v4 w4 ha he _ _; obtain⟨a4,c4,rfl,-,-⟩:=aI ha)
     go_roundw
     case rel=>
      refine⟨0+1,a4,c4,by omega,by simp,rfl, ?_,cg hp.o hd.o he (au _) hf⟩;rw[show(nJ (n*8)).take (0+1)=(nJ (n*8)).take 0++[UInt8.ofNat (n*8/2^56)]from rfl,<-bp,aO,eT,<-li (x:=n*8/2^56) (y:=((n:Int)*8/72057594037927936)) (by omega)];exact ha
     case measure=>simp[intOf]
    ·skip
     rw[show(7-((1:Nat):Int))=6 from rfl];go_wp2_with (at_builtin; go_must (refine bR Tryz.appBytes rfl _ _ rfl w.heap.size (.slice a5 (m+1) c5) (m+1) ((pre++(nJ (n*8)).take 1).map aY) rfl wr [Value.int .u8 ((n:Int)*8/281474976710656)] _ rfl rfl (by simp[Value.oneCell']) hd.o (by omega) hf ?_); intro v4 w4 ha he _ _; obtain⟨a4,c4,rfl,-,-⟩:=aI ha)
     go_roundw
     case rel=>
      refine⟨1+1,a4,c4,by omega,by simp,rfl, ?_,cg hp.o hd.o he (au _) hf⟩;rw[show(nJ (n*8)).take (1+1)=(nJ (n*8)).take 1++[UInt8.ofNat (n*8/2^48)]from rfl,<-bp,aO,eT,<-li (x:=n*8/2^48) (y:=((n:Int)*8/281474976710656)) (by omega)];exact ha
     case measure=>simp[intOf]
    ·skip
     rw[show(7-((2:Nat):Int))=5 from rfl];go_wp2_with (at_builtin; go_must (refine bR Tryz.appBytes rfl _ _ rfl w.heap.size (.slice a5 (m+2) c5) (m+2) ((pre++(nJ (n*8)).take 2).map aY) rfl wr [Value.int .u8 ((n:Int)*8/1099511627776)] _ rfl rfl (by simp[Value.oneCell']) hd.o (by omega) hf ?_); intro v4 w4 ha he _ _; obtain⟨a4,c4,rfl,-,-⟩:=aI ha)
     go_roundw
     case rel=>
      refine⟨2+1,a4,c4,by omega,by simp,rfl, ?_,cg hp.o hd.o he (au _) hf⟩;rw[show(nJ (n*8)).take (2+1)=(nJ (n*8)).take 2++[UInt8.ofNat (n*8/2^40)]from rfl,<-bp,aO,eT,<-li (x:=n*8/2^40) (y:=((n:Int)*8/1099511627776)) (by omega)];exact ha
     case measure=>simp[intOf]
    ·skip
     rw[show(7-((3:Nat):Int))=4 from rfl];go_wp2_with (at_builtin; go_must (refine bR Tryz.appBytes rfl _ _ rfl w.heap.size (.slice a5 (m+3) c5) (m+3) ((pre++(nJ (n*8)).take 3).map aY) rfl wr [Value.int .u8 ((n:Int)*8/4294967296%256)] _ rfl rfl (by simp[Value.oneCell']) hd.o (by omega) hf ?_); intro v4 w4 ha he _ _; obtain⟨a4,c4,rfl,-,-⟩:=aI ha)
     go_roundw
     case rel=>
      refine⟨3+1,a4,c4,by omega,by simp,rfl, ?_,cg hp.o hd.o he (au _) hf⟩;rw[show(nJ (n*8)).take (3+1)=(nJ (n*8)).take 3++[UInt8.ofNat (n*8/2^32)]from rfl,<-bp,aO,eT,<-li (x:=n*8/2^32) (y:=((n:Int)*8/4294967296%256)) (by omega)];exact ha
     case measure=>simp[intOf]
    ·skip
     rw[show(7-((4:Nat):Int))=3 from rfl];go_wp2_with (at_builtin; go_must (refine bR Tryz.appBytes rfl _ _ rfl w.heap.size (.slice a5 (m+4) c5) (m+4) ((pre++(nJ (n*8)).take 4).map aY) rfl wr [Value.int .u8 ((n:Int)*8/16777216%256)] _ rfl rfl (by simp[Value.oneCell']) hd.o (by omega) hf ?_); intro v4 w4 ha he _ _; obtain⟨a4,c4,rfl,-,-⟩:=aI ha)
     go_roundw
     case rel=>
      refine⟨4+1,a4,c4,by omega,by simp,rfl, ?_,cg hp.o hd.o he (au _) hf⟩;rw[show(nJ (n*8)).take (4+1)=(nJ (n*8)).take 4++[UInt8.ofNat (n*8/2^24)]from rfl,<-bp,aO,eT,<-li (x:=n*8/2^24) (y:=((n:Int)*8/16777216%256)) (by omega)];exact ha
     case measure=>simp[intOf]
    ·skip
     rw[show(7-((5:Nat):Int))=2 from rfl];go_wp2_with (at_builtin; go_must (refine bR Tryz.appBytes rfl _ _ rfl w.heap.size (.slice a5 (m+5) c5) (m+5) ((pre++(nJ (n*8)).take 5).map aY) rfl wr [Value.int .u8 ((n:Int)*8/65536%256)] _ rfl rfl (by simp[Value.oneCell']) hd.o (by omega) hf ?_); intro v4 w4 ha he _ _; obtain⟨a4,c4,rfl,-,-⟩:=aI ha)
     go_roundw
     case rel=>
      refine⟨5+1,a4,c4,by omega,by simp,rfl, ?_,cg hp.o hd.o he (au _) hf⟩;rw[show(nJ (n*8)).take (5+1)=(nJ (n*8)).take 5++[UInt8.ofNat (n*8/2^16)]from rfl,<-bp,aO,eT,<-li (x:=n*8/2^16) (y:=((n:Int)*8/65536%256)) (by omega)];exact ha
     case measure=>simp[intOf]
    ·skip
     rw[show(7-((6:Nat):Int))=1 from rfl];go_wp2_with (at_builtin; go_must (refine bR Tryz.appBytes rfl _ _ rfl w.heap.size (.slice a5 (m+6) c5) (m+6) ((pre++(nJ (n*8)).take 6).map aY) rfl wr [Value.int .u8 ((n:Int)*8/256%256)] _ rfl rfl (by simp[Value.oneCell']) hd.o (by omega) hf ?_); intro v4 w4 ha he _ _; obtain⟨a4,c4,rfl,-,-⟩:=aI ha)
     go_roundw
     case rel=>
      refine⟨6+1,a4,c4,by omega,by simp,rfl, ?_,cg hp.o hd.o he (au _) hf⟩;rw[show(nJ (n*8)).take (6+1)=(nJ (n*8)).take 6++[UInt8.ofNat (n*8/2^8)]from rfl,<-bp,aO,eT,<-li (x:=n*8/2^8) (y:=((n:Int)*8/256%256)) (by omega)];exact ha
     case measure=>simp[intOf]
    ·skip
     rw[show(7-((7:Nat):Int))=0 from rfl];go_wp2_with (at_builtin; go_must (refine bR Tryz.appBytes rfl _ _ rfl w.heap.size (.slice a5 (m+7) c5) (m+7) ((pre++(nJ (n*8)).take 7).map aY) rfl wr [Value.int .u8 ((n:Int)*8%256)] _ rfl rfl (by simp[Value.oneCell']) hd.o (by omega) hf ?_); intro v4 w4 ha he _ _; obtain⟨a4,c4,rfl,-,-⟩:=aI ha)
     go_roundw
     case rel=>
      refine⟨7+1,a4,c4,by omega,by simp,rfl, ?_,cg hp.o hd.o he (au _) hf⟩;rw[show(nJ (n*8)).take (7+1)=(nJ (n*8)).take 7++[UInt8.ofNat (n*8)]from rfl,<-bp,aO,eT,<-li (x:=n*8) (y:=((n:Int)*8%256)) (by omega)];exact ha
     case measure=>simp[intOf]
    ·rw[show(7-((8:Nat):Int))= -1 from rfl];have hD:=an (show data++pn n=pre++nJ (n*8) by
      rw[hw.o];unfold pn;rw[eu (by omega)]
      simp)
     have hC:=an (show m+8=(data++pn n).length by rw[hD.o,ar,hN.o]; rfl);go_wp2_with fail;go_ret;refine⟨a5,c5,by rw[hC.o]; rfl, ?_,hp.o⟩;have h:=hd.o;rw[show(nJ (n*8)).take 8=nJ (n*8)from rfl,<-hD.o,hC.o]at h;exact h
  ·have e1:((m:Int)%64 != 56)=true:=by rw[bne_iff_ne]; omega
   have hx:k+1<=iI n:=by
    have:=HM.o
    rcases dI k (iI n)with h | h
    ·exact h
    ·exfalso
     have:k=iI n:=by omega
     unfold iI at this;omega
   have hr:m<1099511627775:=by have:=HM.o; omega
   go_wp2_with (at_builtin; go_must (refine bR Tryz.appBytes rfl _ _ rfl w.heap.size (.slice a3 m c3) m ((data++128::List.replicate k 0).map aY) rfl wr [Value.int .u8 0] _ rfl rfl (fo [0]) HO.o hr hz ?_); intro v4 w4 ha he _ _; obtain⟨a4,c4,rfl,-,-⟩:=aI ha)
   go_roundw
   case rel=>
    have hH:m+1=n+1+(k+1):=by rw[HM.o]; omega
    refine⟨k+1,a4,c4,hx,by rw[hH], ?_,cg HB.o HO.o he (au _) hz⟩;rw[<-hH,List.replicate_succ',<-aM,<-bp,aO];exact ha
   case measure=>
    have:=HM.o
    show iI n+n+1-(m+1)<iI n+n+1-m
    omega
end Go.Proofs.YtpffpjbkbaleiaaGreatDoor
namespace Go.Proofs.YtpffpjbkbaleiaaGreatDoor
def jX (x k:Nat):Nat:=(x*2^k%18446744073709551616) ||| (x/2^(64-k))
def pu :Nat->Nat->Nat
 | 0,x=>x
 | n+1,x=>jX (pu n x) 1
theorem mq {x k:Nat} (_hk:k<=64) (i:Nat):(jX x k).testBit i=((decide (i<64) && decide (k<=i) && x.testBit (i-k)) || x.testBit (64-k+i)):=by
 unfold jX;rw[Nat.testBit_or,show(18446744073709551616:Nat)=2^64 from rfl,Nat.testBit_mod_two_pow,Nat.testBit_mul_two_pow,Nat.testBit_div_two_pow,lQ i (64-k),Bool.and_assoc]
theorem nK {x:Nat} (hx:x<18446744073709551616) {i:Nat} (h:64<=i):x.testBit i=false:=
 Nat.testBit_lt_two_pow (aR hx (gG (by decide) h:2^64<=2^i))
theorem pq {x:Nat} (k:Nat) (hx:x<18446744073709551616):jX x k<18446744073709551616:=
 Nat.or_lt_two_pow (n:=64) (cV _ (by decide)) (dD (eP _ _) hx)
theorem vI : ∀(n:Nat) {x:Nat},x<18446744073709551616->pu n x<18446744073709551616
 | 0,_,h=>h
 | n+1,_,h=>pq 1 (vI n h)
theorem xy {x:Nat} (hx:x<18446744073709551616):jX x 0=x:=by
 unfold jX;rw[show(2:Nat)^(64-0)=18446744073709551616 by decide,Nat.div_eq_of_lt hx,Nat.or_zero,Nat.pow_zero,kf,eu hx]
theorem Fs {x k:Nat} (hx:x<18446744073709551616) (hk:k<64):jX (jX x k) 1=jX x (k+1):=by
 apply Nat.eq_of_testBit_eq
 intro i;rw[mq (by decide),mq (by omega),mq (by omega),mq (by omega)]
 by_cases ha:i<64
 ·by_cases h0:i=0
  ·subst h0;have e1:x.testBit (64-k+(64-1+0))=false:=nK hx (by omega);have e2:64-1+0-k=64-(k+1)+0:=by omega
   have e3:x.testBit (64-0+0-k+64)=false:=nK hx (by omega);simp only[e1,e2];simp;omega
  ·have e1:x.testBit (64-k+(64-1+i))=false:=nK hx (by omega);have e2:(64-1+i<64)=False:=by simp; omega
   have e3:i-1-k=i-(k+1):=by omega
   have e4:64-k+(i-1)=64-(k+1)+i:=by omega
   have e5:(decide (k<=i-1))=decide (k+1<=i):=by rw[jb]; omega
   have e6:decide (1<=i)=true:=by simp; omega
   have e7:decide (i-1<64)=true:=by simp; omega
   have e8:decide (i<64)=true:=by simp; omega
   have e9:decide (64-1+i<64)=false:=by simp; omega
   simp only[e1,e3,e4,e5,e6,e7,e8,e9,gP,Bool.false_and,Bool.or_false]
 ·have e1:x.testBit (64-k+(64-1+i))=false:=nK hx (by omega);have e2:x.testBit (64-(k+1)+i)=false:=nK hx (by omega);have e8:decide (i<64)=false:=by simp; omega
  have e9:decide (64-1+i<64)=false:=by simp; omega
  simp only[e1,e2,e8,e9,Bool.false_and,Bool.or_false]
theorem vH {x:Nat} (hx:x<18446744073709551616): ∀ {k:Nat},k<=64->pu k x=jX x k
 | 0,_=>(xy hx).symm
 | k+1,h=>by rw[pu,vH hx (k:=k) (by omega),Fs hx (by omega)]
theorem JV {x:Nat} (hx:x<18446744073709551616):pu 64 x=x:=by
 rw[vH hx (by decide)];unfold jX;rw[show(2:Nat)^64=18446744073709551616 by decide,Nat.mul_mod_left,Nat.zero_or];simp
theorem Oh {x y:Nat} (hx:x<18446744073709551616) (hy:y<18446744073709551616) {k:Nat} (hk:k<=64):jX (x^^^y) k=jX x k^^^jX y k:=by
 apply Nat.eq_of_testBit_eq
 intro i;rw[Nat.testBit_xor,mq hk,mq hk,mq hk,Nat.testBit_xor,Nat.testBit_xor]
 by_cases h:i<64/\k<=i
 ·have e:decide (i<64)=true/\decide (k<=i)=true:=by simpa using h
  rw[e.1,e.2,nK hx (i:=64-k+i) (by omega),nK hy (i:=64-k+i) (by omega)];simp
 ·have e:(decide (i<64) && decide (k<=i))=false:=by simp; omega
  rw[e]; simp
theorem qT {x y:Nat} (hx:x<18446744073709551616) (hy:y<18446744073709551616):x^^^y<18446744073709551616:=Nat.xor_lt_two_pow (n:=64) hx hy
def EW (z:Nat):Nat:=((z^^^(z/2^30))*13787848793156543929)%18446744073709551616
def Jl (z:Nat):Nat:=((z^^^(z/2^27))*10723151780598845931)%18446744073709551616
def Pc (z:Nat):Nat:=z^^^(z/2^31)
def tC (seed i:Nat):Nat:=(seed+(i+1)*11400714819323198485%18446744073709551616)%18446744073709551616
def ue (seed i:Nat):Nat:=Pc (Jl (EW (tC seed i)))
theorem rj (seed i:Nat):ue seed i<18446744073709551616:=by
 unfold ue Pc;have h:Jl (EW (tC seed i))<18446744073709551616:=cV _ (by decide);exact qT h (dD (eP _ _) h)
theorem Cy {M:List UInt8->Prop} (h0:M []) (h1: ∀l b,M l->M (l++[b])) (l:List UInt8):M l:=by
 have: ∀r:List UInt8,M r.reverse:=by
  intro r
  induction r with
  | nil=>exact h0
  | cons b r ih=>rw[List.reverse_cons]; exact h1 _ _ ih
 have h:=this l.reverse;rw[List.reverse_reverse]at h; exact h
section
variable (T : Nat → Nat)
def kN (l:List UInt8):Nat:=l.foldl (fun s b=>jX s 1^^^T b.toNat) 0
theorem nQ (l:List UInt8) (b:UInt8):kN T (l++[b])=jX (kN T l) 1^^^T b.toNat:=by
 unfold kN; rw[eF,eO,List.foldl_nil]
theorem zn :kN T []=0:=rfl
theorem IR (x:UInt8):kN T [x]=T x.toNat:=by
 unfold kN; rw[eO,List.foldl_nil,show jX 0 1=0 by decide,Nat.zero_xor]
def rW :List UInt8->Nat
 | []=>0
 | b::l=>pu l.length (T b.toNat)^^^rW l
variable {T}
theorem Cx (hT: ∀i,T i<18446744073709551616) (l:List UInt8):kN T l<18446744073709551616:=by
 refine Cy (M:=fun l=>kN T l<18446744073709551616) ?_ (fun l b ih=> ?_) l
 ·show kN T []<_
  rw[zn]; decide
 ·show kN T (l++[b])<_
  rw[nQ]; exact qT (pq 1 ih) (hT _)
theorem wK (hT: ∀i,T i<18446744073709551616) (x:UInt8) (l:List UInt8):kN T (x::l)=pu l.length (T x.toNat)^^^kN T l:=by
 refine Cy (M:=fun l=>kN T (x::l)=pu l.length (T x.toNat)^^^kN T l) ?_ (fun l b ih=> ?_) l
 ·show kN T [x]=pu 0 (T x.toNat)^^^kN T []
  rw[IR,zn,Nat.xor_zero,pu]
 ·show kN T (x::(l++[b]))=pu (l++[b]).length (T x.toNat)^^^kN T (l++[b])
  rw[<-aM,nQ,nQ,ar,bQ,pu,ih,Oh (vI _ (hT _)) (Cx hT _) (by decide),Nat.xor_assoc]
theorem ED (hT: ∀i,T i<18446744073709551616) (x b:UInt8) (l:List UInt8) (h:l.length+1<=64):(jX (kN T (x::l)) 1^^^T b.toNat)^^^jX (T x.toNat) (l.length+1)=kN T (l++[b]):=by
 rw[<-nQ,aM,wK hT,ar,bQ,<-vH (hT _) h,Nat.xor_comm (pu _ _),Nat.xor_assoc,Nat.xor_self,Nat.xor_zero]
theorem zm (hT: ∀i,T i<18446744073709551616): ∀l,rW T l=kN T l
 | []=>rfl
 | b::l=>by rw[rW,zm hT l,wK hT]
end
def qc (seed:Nat) (l:List UInt8):Nat:=kN (ue seed) l
theorem wJ (seed:Nat) (l:List UInt8):qc seed l<18446744073709551616:=Cx (rj seed) l
def od (W:Nat) (d:List UInt8):List UInt8:=d.drop (d.length-W)
theorem oe (W:Nat) (d:List UInt8):(od W d).length=min W d.length:=by unfold od; rw[bA]; omega
theorem Ar {W:Nat} {d:List UInt8} (h:d.length<W) (b:UInt8):od W (d++[b])=od W d++[b]:=by
 unfold od;rw[ar,bQ,show d.length+1-W=0 by omega,show d.length-W=0 by omega]; rfl
theorem As {W:Nat} {d:List UInt8} (hW:1<=W) (h:W<=d.length) (b:UInt8):od W (d++[b])=(od W d).tail++[b]:=by
 unfold od;rw[ar,bQ,List.tail_drop,fq (by omega)]
 congr 2; omega
def GE (seed W bits:Nat) (d:List UInt8):Bool:=decide (W<=d.length) && decide (bits<=Lib.ctz 64 (qc seed (od W d)))
section
variable (mk : Nat → Bool) (mn mx len : Nat)
def qe :Nat->Int
 | 0=> -(mn:Int)
 | p+1=>if mk (p+1)then((p+1:Nat):Int)else qe p
def kw :Nat->Bool
 | 0=>false
 | p+1=>mk (p+1) && decide ((mn:Int)<=((p+1:Nat):Int)-qe mk mn p)
def lU (l:List Nat):Nat:=l.getLast?.getD 0
def mP (s q:Nat):Bool:=kw mk mn q || decide (s+mx<=q) || decide (len<=q)
def kS :Nat->List Nat
 | 0=>[]
 | p+1=>if mP mk mn mx len (lU (kS p)) (p+1)then kS p++[p+1]else kS p
def qu :List Nat:=kS mk mn mx len len
end
section
variable {mk : Nat → Bool} {mn mx len : Nat}
theorem ml (l:List Nat) (p:Nat):lU (l++[p])=p:=by simp[lU]
theorem rY (p:Nat):(qe mk mn p= -(mn:Int)/\ ∀q,1<=q->q<=p->mk q=false)\/ ∃L,qe mk mn p=((L:Nat):Int)/\1<=L/\L<=p/\mk L=true/\ ∀q,L<q->q<=p->mk q=false:=by
 induction p with
 | zero=>exact .inl ⟨rfl,fun q h1 h2=>by omega⟩
 | succ p ih=>
  rw[qe]
  by_cases h:mk (p+1)=true
  ·rw[if_pos h];exact .inr ⟨p+1,rfl,by omega,by omega,h,fun q h1 h2=>by omega⟩
  ·rw[if_neg h];have h0:mk (p+1)=false:=by simpa using h
   rcases ih with⟨h1,h2⟩ | ⟨L,h1,h2,h3,h4,h5⟩
   ·exact .inl ⟨h1,fun q ha hb=>by
     by_cases e:q=p+1
     ·rw[e]; exact h0
     ·exact h2 q ha (by omega)⟩
   ·exact .inr ⟨L,h1,h2,by omega,h4,fun q ha hb=>by
     by_cases e:q=p+1
     ·rw[e]; exact h0
     ·exact h5 q ha (by omega)⟩
theorem JC {p:Nat} :kw mk mn p=true<->1<=p/\mk p=true/\ ∀q,1<=q->q<p->p<q+mn->mk q=false:=by
 cases p with
 | zero=>simp[kw]
 | succ p=>
  rw[kw,aJ,aK]
  constructor
  ·rintro⟨h1,h2⟩;refine⟨by omega,h1,fun q ha hb hc=> ?_⟩
   rcases rY (mk:=mk) (mn:=mn) p with⟨h3,h4⟩ | ⟨L,h3,h4,h5,h6,h7⟩
   ·exact h4 q ha (by omega)
   ·rw[h3]at h2;exact h7 q (by omega) (by omega)
  ·rintro⟨_,h1,h2⟩;refine⟨h1, ?_⟩
   rcases rY (mk:=mk) (mn:=mn) p with⟨h3,_⟩ | ⟨L,h3,h4,h5,h6,_⟩
   ·rw[h3]; omega
   ·rw[h3]
    by_cases h8:p+1<L+mn
    ·have:=h2 L h4 (by omega) h8;rw[h6]at this; cases this
    ·omega
def AF (mk:Nat->Bool) (mn mx len s q:Nat):Prop:=s<q/\q<=len/\mP mk mn mx len s q=true/\ ∀r,s<r->r<q->mP mk mn mx len s r=false
inductive xX (mk : Nat → Bool) (mn mx len : Nat) : List Nat → Nat → Prop
 | nil:xX mk mn mx len [] 0
 | snoc {l:List Nat} {s q:Nat} :xX mk mn mx len l s->AF mk mn mx len s q->xX mk mn mx len (l++[q]) q
inductive uv (mk : Nat → Bool) (mn mx len : Nat) : Nat → List Nat → Prop
 | nil:uv mk mn mx len len []
 | cons {s q:Nat} {l:List Nat} :AF mk mn mx len s q->uv mk mn mx len q l->uv mk mn mx len s (q::l)
theorem AF.det {s q q':Nat} (h:AF mk mn mx len s q) (h':AF mk mn mx len s q'):q=q':=by
 rcases Nat.lt_trichotomy q q' with e | e | e
 ·have h1:=h'.2.2.2 q h.1 e;rw[h.2.2.1]at h1; cases h1
 ·exact e
 ·have h1:=h.2.2.2 q' h'.1 e;rw[h'.2.2.1]at h1; cases h1
theorem uv.det {s:Nat} {l:List Nat} (h:uv mk mn mx len s l): ∀ {l'},uv mk mn mx len s l'->l=l':=by
 induction h with
 | nil=>
  intro l' h'
  cases h' with
  | nil=>rfl
  | cons h1 _=>exact absurd h1.1 (by have:=h1.2.1; omega)
 | cons h1 _ ih=>
  intro l' h'
  cases h' with
  | nil=>exact absurd h1.1 (by have:=h1.2.1; omega)
  | cons h3 h4=>
   cases h1.det h3
   rw[ih h4]
theorem xX.chain {l:List Nat} {s:Nat} (h:xX mk mn mx len l s): ∀ {m},uv mk mn mx len s m->uv mk mn mx len 0 (l++m):=by
 induction h with
 | nil=>intro m hm; exact hm
 | snoc _ h2 ih=>
  intro m hm;rw[bp];exact ih (.cons h2 hm)
theorem xX.det {l l':List Nat} (h:xX mk mn mx len l len) (h':xX mk mn mx len l' len):l=l':=by
 have h1:=h.chain .nil;have h2:=h'.chain .nil;rw[cj]at h1 h2;exact h1.det h2
theorem xX.last {l:List Nat} {s:Nat} (h:xX mk mn mx len l s):lU l=s:=by
 cases h with
 | nil=>rfl
 | snoc _ _=>exact ml _ _
theorem xX.le {l:List Nat} {s:Nat} (h:xX mk mn mx len l s):s<=len:=by
 cases h with
 | nil=>omega
 | snoc _ h=>exact h.2.1
theorem wC : ∀ {p:Nat},p<=len-> ∃s,xX mk mn mx len (kS mk mn mx len p) s/\s<=p/\ ∀r,s<r->r<=p->mP mk mn mx len s r=false
 | 0,_=>⟨0, .nil,by omega,fun r h1 h2=>by omega⟩
 | p+1,hp=>by
  obtain⟨s,h1,h2,h3⟩:=wC (p:=p) (by omega);rw[kS,h1.last]
  by_cases h:mP mk mn mx len s (p+1)=true
  ·rw[if_pos h];exact⟨p+1,h1.snoc ⟨by omega,hp,h,fun r hr1 hr2=>h3 r hr1 (by omega)⟩,by omega,fun r hr1 hr2=>by omega⟩
  ·rw[if_neg h];exact⟨s,h1,by omega,fun r hr1 hr2=>by
    by_cases e:r=p+1
    ·rw[e]; simpa using h
    ·exact h3 r hr1 (by omega)⟩
theorem pd :xX mk mn mx len (qu mk mn mx len) len:=by
 obtain⟨s,h1,h2,h3⟩:=wC (mk:=mk) (mn:=mn) (mx:=mx) (len:=len) (au len)
 by_cases e:s=len
 ·rw[e]at h1; exact h1
 ·have:=h3 len (by omega) (by omega);simp[mP]at this
theorem AF.reach {s q:Nat} (hm:1<=mx) (h:AF mk mn mx len s q):q<=s+mx:=by
 by_cases h1:s+mx<q
 ·have h2:=h.2.2.2 (s+mx) (by omega) h1;simp[mP]at h2
 ·omega
theorem MD {s e:Nat} (hm:1<=mx) (hs:s<e) (he:e<=len) (hst:kw mk mn e=true\/e=len) (hno: ∀r,s<r->r<e->kw mk mn r=false):AF mk mn mx len s (min (s+mx) e):=by
 refine⟨by omega,by omega, ?_,fun r h1 h2=> ?_⟩
 ·unfold mP
  by_cases h:s+mx<=e
  ·rw[fm h]; simp
  ·rw[Nat.min_eq_right (by omega)]
   rcases hst with h' | h'
   ·rw[h']; rfl
   ·rw[h']; simp
 ·unfold mP;rw[hno r h1 (by omega)]
  simp; omega
def iT (data:List UInt8) (s e:Nat):List UInt8:=(data.drop s).take (e-s)
def jD (data:List UInt8):Nat->List Nat->List (List UInt8)
 | _,[]=>[]
 | s,e::l=>iT data s e::jD data e l
theorem lJ (data:List UInt8): ∀(l:List Nat) (s e:Nat),jD data s (l++[e])=jD data s l++[iT data (l.getLast?.getD s) e]
 | [],_,_=>rfl
 | x::l,s,e=>by
  rw[aM,jD,lJ data l x e,jD,aM]
  congr 3
  rw[List.getLast?_cons]; rfl
theorem Dm {data:List UInt8} {l:List Nat} {s:Nat} (h:xX mk mn mx data.length l s):(jD data 0 l).flatten=data.take s:=by
 induction h with
 | nil=>simp[jD]
 | snoc h1 h2 ih=>
  rename_i l s q;rw[lJ,List.flatten_append,ih];have:=h1.last;unfold lU at this;rw[this,iC,List.flatten_nil,cj];unfold iT;have h3:=h2.1;rw[show q=s+(q-s) by omega,List.take_add,show s+(q-s)-s=q-s by omega]
theorem xo {data:List UInt8} :(jD data 0 (qu mk mn mx data.length)).flatten=data:=by
 rw[Dm pd,dg]
theorem zU {data:List UInt8} {l:List Nat} {s:Nat} (hm:1<=mx) (h:xX mk mn mx data.length l s): ∀c∈jD data 0 l,1<=c.length/\c.length<=mx:=by
 induction h with
 | nil=>simp[jD]
 | snoc h1 h2 ih=>
  rename_i l s q;rw[lJ];intro c hc
  rcases aU.1 hc with hc | hc
  ·exact ih c hc
  ·rw[aQ.1 hc];have:=h1.last;unfold lU at this;rw[this];unfold iT;rw[bm,bA];have h3:=h2.reach hm;have h4:=h2.1;have h5:=h2.2.1;omega
end
open Go Go.RowKit
theorem Ab {x s:Nat} (hx:x<18446744073709551616):bits .or .u64 ((x:Int)*2^s%18446744073709551616) ((x:Int)/2^(64-s))=((jX x s:Nat):Int):=by
 have e1:((x:Int)*2^s%18446744073709551616)=((x*2^s%18446744073709551616:Nat):Int):=by simp
 have e2:((x:Int)/2^(64-s))=((x/2^(64-s):Nat):Int):=by simp
 rw[e1,e2,u64_or_nat _ _ (cV _ (by decide)) (dD (eP _ _) hx)]
 rfl
theorem Aa (x k:Nat) (w:World) (hx:x<18446744073709551616) (hk:k<=64):Calls Tryz.prog 211 #[.int .u64 (x:Int), .int .i64 (k:Int)] w fun e w'=>e= .returned (.int .u64 ((jX x k:Nat):Int))/\w=w':=by
 obtain⟨s,hs⟩: ∃s,s=k%64:=⟨_,rfl⟩;have h1:bits BinOp.and IntKind.u64 (k:Int) 63=(s:Int):=by
  rw[show(63:Int)=((63:Nat):Int)from rfl,u64_and_nat _ _ (by omega) (by decide),nat_mask6,hs]
 have hc:s<64:=by omega
 have hb:min s 64=s:=by omega
 have ha:min (64-s) 64=64-s:=by omega
 have HR:=an (show jX x s=jX x k by
  by_cases h:k=64
  ·have e:s=0:=by rw[hs,h]
   rw[e,h,xy hx,<-vH hx (au 64),JV hx]
  ·rw[show s=k by omega])
 clear hs
 go_enter Tryz.func211,Tryz.ntmps211
 go_wp2_with fail;go_ret;refine⟨?_,rfl⟩;rw[<-HR.o,<-Ab hx,cT]
 rfl
theorem Pe (a c:Nat):((a:Int)*(c:Int))%18446744073709551616=((a*c%18446744073709551616:Nat):Int):=by simp
theorem xV (z d:Nat) (hz:z<18446744073709551616):bits BinOp.xor IntKind.u64 (z:Int) ((z:Int)/(d:Int))=((z^^^(z/d):Nat):Int):=by
 rw[show((z:Int)/(d:Int))=((z/d:Nat):Int) by simp,u64_xor_nat _ _ hz (dD (eP _ _) hz)]
theorem Jk (z:Nat) (hz:z<18446744073709551616):(bits BinOp.xor IntKind.u64 (z:Int) ((z:Int)/1073741824)*13787848793156543929)%18446744073709551616=((EW z:Nat):Int):=by
 have h:=xV z 1073741824 hz;rw[show((1073741824:Nat):Int)=1073741824 from rfl]at h;rw[h];exact Pe (z^^^(z/1073741824)) 13787848793156543929
theorem Jm (z:Nat) (hz:z<18446744073709551616):(bits BinOp.xor IntKind.u64 (z:Int) ((z:Int)/134217728)*10723151780598845931)%18446744073709551616=((Jl z:Nat):Int):=by
 have h:=xV z 134217728 hz;rw[show((134217728:Nat):Int)=134217728 from rfl]at h;rw[h];exact Pe (z^^^(z/134217728)) 10723151780598845931
theorem zK (z:Nat) (hz:z<18446744073709551616):bits BinOp.xor IntKind.u64 (z:Int) ((z:Int)/2147483648)=((Pc z:Nat):Int):=by
 have h:=xV z 2147483648 hz;rw[show((2147483648:Nat):Int)=2147483648 from rfl]at h;exact h
theorem Ae (s k:Nat):IntKind.u64.wrap ((s:Int)+IntKind.u64.wrap (((k:Int)+1)*11400714819323198485))=((tC s k:Nat):Int):=by
 rw[cT,cT,show((k:Int)+1)=((k+1:Nat):Int) by omega,show(11400714819323198485:Int)=((11400714819323198485:Nat):Int)from rfl,Pe];unfold tC;omega
theorem zI (z:Nat) (hz:z<18446744073709551616):IntKind.u64.wrap (bits BinOp.xor IntKind.u64 (z:Int) ((z:Int)/1073741824)*13787848793156543929)=((EW z:Nat):Int):=by rw[cT,Jk z hz]
theorem zJ (z:Nat) (hz:z<18446744073709551616):IntKind.u64.wrap (bits BinOp.xor IntKind.u64 (z:Int) ((z:Int)/134217728)*10723151780598845931)=((Jl z:Nat):Int):=by rw[cT,Jm z hz]
theorem GF (z:Nat):EW z<18446744073709551616:=cV _ (by decide)
theorem GG (z:Nat):Jl z<18446744073709551616:=cV _ (by decide)
theorem DE (s i:Nat):tC s i<18446744073709551616:=cV _ (by decide)
def Kn (x:Nat):Value:= .int .u64 (x:Int)
structure oK (w : World) (seed k : Nat) (wr : World) : Prop where
 box:wr.heap[w.heap.size]? =some (.cells ((List.range k).map (fun i=>Kn (ue seed i))++List.replicate (256-k) (Kn 0)).toArray 43 (0,0))
 below:Below w.heap.size w wr
theorem oK.here {w wr:World} {seed k:Nat} (h:oK w seed k wr) (hk:k<256):wr.cell? ⟨w.heap.size,k,none⟩=some (.int .u64 0):=by
 rw[bu wr _ _ _ _ _ h.box,ak,bI (by simp)];rw[aE,List.length_range,eM,show 256-k=(256-(k+1))+1 by omega,gU]
 rfl
theorem oK.put {w wr:World} {seed k:Nat} (h:oK w seed k wr) (hk:k<256):oK w seed (k+1) (wr.setCell ⟨w.heap.size,k,none⟩ (Kn (ue seed k))):=by
 refine⟨?_,h.below.trans ⟨rfl,rfl,rfl,by simp[World.setCell],fun j hj=>heap_setCell_other wr _ j _ (by show j≠w.heap.size; omega)⟩⟩;rw[gN wr _ _ _ _ _ h.box]
 congr 2
 rw[ag,fp _ _ (by simp),aE,List.length_range,eM,show 256-k=(256-(k+1))+1 by omega,gU,lP,aO];simp
theorem NN (w:World):(Instr.makeSlice 262 (.int .i64 256) (.int .i64 256)).run Tryz.prog w= .ok (.slice (some ⟨w.heap.size,0,none⟩) 256 256) (w.alloc (.cells (List.replicate 256 (Kn 0)).toArray 43)):=by kernel_rfl
theorem Kl (seed:Nat) (w:World):Calls Tryz.prog 210 #[.int .u64 (seed:Int)] w fun e w'=>e= .returned (.slice (some ⟨w.heap.size,0,none⟩) 256 256)/\oK w seed 256 w':=by
 have hc:=NN
 go_enter Tryz.func210,Tryz.ntmps210
 go_wp2_with fail;have hb:=an (show oK w seed 0 (w.alloc (.cells (List.replicate 256 (Kn 0)).toArray 43))from⟨by rw[aH]; rfl,eN⟩);clear hc
 go_loopw [9] (fun i wr=> ∃k:Nat,k<=256/\i= .int .i64 (k:Int)/\oK w seed k wr) (fun i _=>256-(intOf i).toNat)
 case atStart=>exact⟨0,by omega,rfl,hb.o⟩
 case round=>
  obtain⟨k,hk,rfl,ht⟩:=hrel;have HT:=an ht;have hz:=ht.below.size;clear ht
  by_cases ha:k<256
  ·have ch:=HT.o.here ha;have cf:=dH wr _ k _ _ HT.o.box;have hd:(k:Int)<256:=by omega
   go_wp2_with fail
   go_roundw
   case rel=>
    rw[Ae,zI _ (DE _ _),zJ _ (GF _),zK _ (GG _)];exact⟨k+1,by omega,by simp,HT.o.put ha⟩
   case measure=>simp[intOf]; omega
  ·obtain rfl:k=256:=by omega
   go_wp2_with fail;go_ret;exact⟨rfl,HT.o⟩
def un (seed:Nat):List Value:=(List.range 256).map fun i=>Kn (ue seed i)
theorem tF (seed:Nat):(un seed).length=256:=by simp[un]
def kY (seed:Nat) (ring:List UInt8) (W s n h:Nat):List Value:=un seed++(ring.map aY++[.int .i64 (W:Int), .int .i64 (s:Int), .int .i64 (n:Int), .int .u64 (h:Int)])
theorem oK.full {w wr:World} {seed:Nat} (h:oK w seed 256 wr):wr.heap[w.heap.size]? =some (.cells (un seed).toArray 43 (0,0)):=by
 rw[h.box,eM,List.replicate_zero,cj]; rfl
def qU (W:Nat):List Value:=List.replicate 256 (.int .u64 0)++((List.replicate 64 (0:UInt8)).map aY++[.int .i64 (W:Int), .int .i64 0, .int .i64 0, .int .u64 0])
theorem Dz (seed W:Nat) (w:World) (hW:1<=W) (hW2:W<=64):Calls Tryz.prog 199 #[.int .u64 (seed:Int), .int .i64 (W:Int)] w fun e w'=> ∃rb,e= .returned (.pointer (some ⟨rb,0,none⟩))/\w.heap.size<=rb/\
  w'.heap[rb]? =some (.cells (kY seed (List.replicate 64 0) W 0 0 0).toArray 237 (0,0))/\Below w.heap.size w w':=by
 have hg:max (W:Int) 1=(W:Int):=by omega
 have hh:min (W:Int) 64=(W:Int):=by omega
 go_enter Tryz.func199,Tryz.ntmps199
 go_wp2_with fail;obtain⟨w1,ha⟩: ∃w1,w1=w.alloc (.cells (Tryz.zeroCells237.setIfInBounds 320 (.int .i64 (W:Int))) 237):=⟨_,rfl⟩;rw[<-ha];have hq:=an (show w1.heap[w.heap.size]? =some (.cells (qU W).toArray 237 (0,0)) by rw[ha,aH,show Tryz.zeroCells237.setIfInBounds 320 (.int .i64 (W:Int))=(qU W).toArray by kernel_rfl]);have hl:=an (show Below w.heap.size w w1 by rw[ha]; exact eN)
 clear ha hg hh;refine eH (fun _=>True) (by kernel_rfl) ?_;obtain⟨V,hV⟩: ∃V:World,V=w1.drew:=⟨_,rfl⟩;rw[<-hV];have hf:=an (show V.heap[w.heap.size]? =some (.cells (qU W).toArray 237 (0,0)) by rw[hV]; exact hq.o);have ho:=an (show Below w.heap.size w V by rw[hV]; exact hl.o.trans (ay _ _).drew);clear hV
 iterate 5 (refine cF rfl (by kernel_rfl) (fun _ _ _ h=>h) rfl trivial (by intro w' ha; go_simp; rfl) ?_; simp only[Act.put,ag,ai,ah])
 refine cy 5 rfl (fun K hK=> ?_);go_wp2_with fail;refine(Kl seed V).mono ?_;rintro e w2 ⟨rfl,ht⟩;have hp:=an ht.full;have hm:=an (aw ho.o ht.below);have hk:=an ((ht.below.block _ (az hf.o)).trans hf.o);have hs:=an (az hf.o);clear ht;go_wp2_with fail
 try refine⟨trivial, ?_⟩
 refine cy 6 rfl (fun K hK=> ?_);have he:=an (show ∀j v,(un seed)[j]? =some v->w2.cell? ((⟨V.heap.size,0,none⟩:Addr).add j)=some v from fun j v hj=>by rw[jK,bX,bu w2 _ _ _ _ _ hp.o,ak]; exact hj);have hc:=an (show 0+(un seed).length<=(qU W).toArray.size by rw[tF,bU]; simp[qU])
 have hd:=an (show ∀v∈un seed,v.oneCell'=true from fun v hv=>by obtain⟨x,_,rfl⟩:=aW.1 hv; rfl);go_wp2_with (refine wpList_copy_own rfl _ _ 262 262 rfl 43 Tryz.underlying262 (by kernel_rfl) w.heap.size 0 256 256 ⟨V.heap.size,0,none⟩ 256 256 rfl rfl (qU W).toArray 237 hk.o (un seed) rfl he.o hc.o hd.o ?_);simp only[Act.put,ag,ai,ah]
 obtain⟨w3,hb⟩: ∃w3,w3=w2.setRow w.heap.size (List.take 0 (qU W)++(un seed++List.drop (0+(un seed).length) (qU W))).toArray:=⟨_,rfl⟩;have hr:=an (show w3.heap[w.heap.size]? =some (.cells (kY seed (List.replicate 64 0) W 0 0 0).toArray 237 (0,0)) by
  rw[hb,dW w2 _ _ _ _ _ hk.o,aZ,aL,bX,tF]
  congr 3)
 have hn:=an (show Below w.heap.size w w3 by rw[hb]; exact er hm.o (au _) _);refine⟨trivial, ?_⟩;refine cH (by kernel_rfl) ?_
 change Exit.then _ _ _ _ (w2.setRow w.heap.size (List.take 0 (qU W)++(un seed++List.drop (0+(un seed).length) (qU W))).toArray)
 rw[<-hb];clear hb;go_wp2_with fail;go_ret;exact⟨_,rfl,au _,hr.o,hn.o⟩
structure fL where
 mn:Int
 mx:Int
 win:Int
 bits:Int
 seed:Nat
def fR (c:fL):List Value:=[.int .i64 c.mn, .int .i64 c.mx, .int .i64 c.win, .int .i64 c.bits, .int .u64 (c.seed:Int)]
def ko (c:fL):Value:= .agg #[.int .i64 c.mn, .int .i64 c.mx, .int .i64 c.win, .int .i64 c.bits, .int .u64 (c.seed:Int)]
def jJ (c:fL):Bool:=decide (1<=c.win) && decide (c.win<=64) && decide (c.win<=c.mn) && decide (c.mn<=c.mx) && decide (c.mx<=32768) && decide (0<=c.bits) && decide (c.bits<=20)
theorem lM {c:fL} :jJ c=true<->1<=c.win/\c.win<=64/\c.win<=c.mn/\c.mn<=c.mx/\c.mx<=32768/\0<=c.bits/\c.bits<=20:=by unfold jJ; simp[and_assoc]
theorem AW (c:fL) (w:World):Calls Tryz.prog 70 #[ko c] w fun e w'=>e= .returned (.bool (jJ c))/\Below w.heap.size w w':=by
 unfold ko
 go_enter Tryz.func70,Tryz.ntmps70
 go_wp2_with fail
 all_goals (go_ret; refine⟨bY ?_,eN⟩; rw[dk,lM]; simp; try omega)
theorem Lr {place:Nat->Option (Nat×Nat)} {cells:Array Value} {i off:Nat} {v:Value} {rest:List (Nat×Value)} (hp:place i=some (off,1)) (hv:v.cells= #[v]) (hf:off<cells.size):
  Instr.fill place cells ((i,v)::rest)=Instr.fill place (cells.setIfInBounds off v) rest:=by
 rw[Instr.fill,hp];simp only[hv];rw[if_neg (by simp; omega)]
 rfl
def Na :List Value:=qU 0++([.int .i64 0, .int .i64 0, .int .i64 0, .int .i64 0, .int .u64 0]++[.int .i64 0, .int .i64 0])
theorem Kv :Na.length=331:=by kernel_rfl
theorem ui (seed:Nat) {ring:List UInt8} (h:ring.length=64) (W s n x:Nat):(kY seed ring W s n x).length=324:=by unfold kY; rw[ar,tF,ar,aE,h]; rfl
theorem Ej (r:List Value) (c:fL) (l:Int) (hr:r.length=324):Tryz.prog.built 239 [(0, .agg r.toArray),(1,ko c),(3, .int .i64 l)]=some (r++(fR c++[Value.int .i64 0,Value.int .i64 l])).toArray:=by
 have h: ∀parts,Tryz.prog.built 239 parts=Instr.fill (fun i=>(#[(0,324),(324,5),(329,1),(330,1)]:Array (Nat×Nat))[i]?) Na.toArray parts:=fun parts=>by kernel_rfl
 have e0:splice Na 0 r=r++([.int .i64 0, .int .i64 0, .int .i64 0, .int .i64 0, .int .u64 0]++[.int .i64 0, .int .i64 0]):=by
  unfold splice;rw[aZ,aL,bX,hr]
  congr 1
 rw[h,pf (off:=0) (size:=324) rfl (by simpa using hr) (by rw[bU,Kv]; decide)];simp only;rw[e0];unfold ko;rw[pf (off:=324) (size:=5) rfl rfl (by rw[bU,ar,hr]; decide),Lr (off:=330) rfl rfl (by rw[bU,length_splice _ _ _ (by rw[ar,hr]; show 324+5<=324+7; decide),ar,hr]; show 330<324+7; decide)]
 simp only[Instr.fill]
 congr 1
 unfold splice;rw[ag]
 congr 1
 rw[ft (by omega),bC (by omega),iV,dM (by rw[hr]; show 324<=324+5; decide),fp _ _ (by omega),hr]
 rfl
def rH (c:fL) (roll:List Value) (pos last:Int):List Value:=roll++(fR c++[Value.int .i64 pos,Value.int .i64 last])
theorem uc (c:fL) {roll:List Value} (h:roll.length=324) (p l:Int):(rH c roll p l).length=331:=by unfold rH; rw[ar,h]; rfl
theorem JK (seed:Nat) (ring:List UInt8) (W s n x:Nat): ∀v∈kY seed ring W s n x,v.oneCell'=true:=by
 intro v hv;unfold kY at hv
 rcases aU.1 hv with hv | hv
 ·obtain⟨y,_,rfl⟩:=aW.1 hv; rfl
 ·rcases aU.1 hv with hv | hv
  ·obtain⟨y,_,rfl⟩:=aW.1 hv; rfl
  ·simp only[bh,dt,or_false]at hv
   rcases hv with rfl | rfl | rfl | rfl<;> rfl
theorem zH (c:fL) (seed:Nat) (W:Nat) (l:Int): ∀v∈kY seed (List.replicate 64 0) W 0 0 0++(fR c++[Value.int .i64 0,Value.int .i64 l]),v.oneCell'=true:=by
 intro v hv
 rcases aU.1 hv with hv | hv
 ·exact JK _ _ _ _ _ _ v hv
 ·simp only[fR,aU,bh,dt,or_false]at hv
  rcases hv with(rfl | rfl | rfl | rfl | rfl) | rfl | rfl<;> rfl
theorem Fr (seed W:Nat) (wi:Int) (w:World) (hwi:wi=(W:Int)) (hW:1<=W) (hW2:W<=64):Calls Tryz.prog 199 #[.int .u64 (seed:Int), .int .i64 wi] w fun e w'=> ∃rb,e= .returned (.pointer (some ⟨rb,0,none⟩))/\w.heap.size<=rb/\
  w'.heap[rb]? =some (.cells (kY seed (List.replicate 64 0) W 0 0 0).toArray 237 (0,0))/\Below w.heap.size w w':=by
 subst hwi; exact Dz seed W w hW hW2
theorem yo (c:fL) (W:Nat) (w:World) (_hs:c.seed<18446744073709551616) (hW:c.win=(W:Int)) (h1:1<=W) (h2:W<=64) (hm:0<=c.mn/\c.mn<=32768):
  Calls Tryz.prog 187 #[ko c] w fun e w'=>e= .returned (.agg (rH c (kY c.seed (List.replicate 64 0) W 0 0 0) 0 (-c.mn)).toArray)/\Below w.heap.size w w':=by
 have HW:=an hW;have hM:IntKind.i64.wrap (-c.mn)= -c.mn:=by rw[bF]; omega
 clear hW;unfold ko
 go_enter Tryz.func187,Tryz.ntmps187
 go_wp2_with fail;obtain⟨w1,ha⟩: ∃w1,w1=(w.alloc (.cells #[.int .i64 c.mn, .int .i64 c.mx, .int .i64 c.win, .int .i64 c.bits, .int .u64 (c.seed:Int)] 45)).alloc (.cells Tryz.zeroCells239 239):=⟨_,rfl⟩;rw[<-ha];have hI:=an (show w1.heap[w.heap.size]? =some (.cells (fR c).toArray 45 (0,0)) by rw[ha]; exact heap_alloc2_old w _ _);have hJ:=an (show w1.heap[w.heap.size+1]? =some (.cells Tryz.zeroCells239 239 (0,0)) by rw[ha]; exact heap_alloc2_new w _ _)
 have hz:=an (show Below w.heap.size w w1 by rw[ha]; exact(eN).alloc (by simp) _);clear ha;refine eH (fun w'=>w'.cell? ⟨w.heap.size,0,none⟩=some (.int .i64 c.mn)/\w'.cell? ⟨w.heap.size,1,none⟩=some (.int .i64 c.mx)/\w'.cell? ⟨w.heap.size,2,none⟩=some (.int .i64 c.win)/\w'.cell? ⟨w.heap.size,3,none⟩=some (.int .i64 c.bits)/\w'.cell? ⟨w.heap.size,4,none⟩=some (.int .u64 (c.seed:Int))) (by kernel_rfl) ?_
 obtain⟨V,hV⟩: ∃V:World,V=w1.drew:=⟨_,rfl⟩;rw[<-hV];have he:=an (show V.heap[w.heap.size]? =some (.cells (fR c).toArray 45 (0,0)) by rw[hV]; exact hI.o);have hL:=an (show V.heap[w.heap.size+1]? =some (.cells Tryz.zeroCells239 239 (0,0)) by rw[hV]; exact hJ.o);have hD:=an (show Below w.heap.size w V by rw[hV]; exact hz.o.trans (ay _ _).drew);clear hV
 have c0:V.cell? ⟨w.heap.size,0,none⟩=some (.int .i64 c.mn):=(bu V _ _ _ _ _ he.o).trans rfl;have c1:V.cell? ⟨w.heap.size,1,none⟩=some (.int .i64 c.mx):=(bu V _ _ _ _ _ he.o).trans rfl;have c2:V.cell? ⟨w.heap.size,2,none⟩=some (.int .i64 c.win):=(bu V _ _ _ _ _ he.o).trans rfl;have c3:V.cell? ⟨w.heap.size,3,none⟩=some (.int .i64 c.bits):=(bu V _ _ _ _ _ he.o).trans rfl
 have c4:V.cell? ⟨w.heap.size,4,none⟩=some (.int .u64 (c.seed:Int)):=(bu V _ _ _ _ _ he.o).trans rfl
 iterate 4 (refine cF rfl (by kernel_rfl) (fun _ _ _ h=>h) rfl ⟨c0,c1,c2,c3,c4⟩ (by rintro w' ⟨ha,hj,hb,hk,hl⟩; go_simp; rfl) ?_; simp only[Act.put,ag,ai,ah])
 refine bJ 7 rfl (by kernel_rfl) (by kernel_rfl) (by kernel_rfl) (fun _ _ _ h=>h) rfl ⟨c0,c1,c2,c3,c4⟩ (by rintro w' ⟨ha,hj,hb,hk,hl⟩; go_simp; rfl) ?_;simp only[Act.put,ag,ai,ah];refine bJ 8 rfl (by kernel_rfl) (by kernel_rfl) (by kernel_rfl) (fun _ _ _ h=>h) rfl ⟨c0,c1,c2,c3,c4⟩ (by rintro w' ⟨ha,hj,hb,hk,hl⟩; go_simp; rfl) ?_
 simp only[Act.put,ag,ai,ah];refine bJ 9 rfl (by kernel_rfl) (by kernel_rfl) (by kernel_rfl) (fun _ _ _ h=>h) rfl ⟨c0,c1,c2,c3,c4⟩ (by rintro w' ⟨ha,hj,hb,hk,hl⟩; go_simp; rfl) ?_;simp only[Act.put,ag,ai,ah];refine bJ 10 rfl (by kernel_rfl) (by kernel_rfl) (by kernel_rfl) (fun _ _ _ h=>h) rfl ⟨c0,c1,c2,c3,c4⟩ (by rintro w' ⟨ha,hj,hb,hk,hl⟩; go_simp; rfl) ?_
 simp only[Act.put,ag,ai,ah];refine cy 4 rfl (fun K hK=> ?_);go_wp2_with fail;refine(Fr c.seed W c.win V HW.o h1 h2).mono ?_;rintro e w2 ⟨rb,rfl,hN,hy,hn⟩;have hA:=an (aw hD.o hn);have hd:=an (dV hn he.o);have hx:=an (dV hn hL.o);have hv:=an hy;clear c0 c1 c2 c3 c4 hn hy;have c0:w2.cell? ⟨w.heap.size,0,none⟩=some (.int .i64 c.mn):=(bu w2 _ _ _ _ _ hd.o).trans rfl
 have c1:w2.cell? ⟨w.heap.size,1,none⟩=some (.int .i64 c.mx):=(bu w2 _ _ _ _ _ hd.o).trans rfl;have c2:w2.cell? ⟨w.heap.size,2,none⟩=some (.int .i64 c.win):=(bu w2 _ _ _ _ _ hd.o).trans rfl;have c3:w2.cell? ⟨w.heap.size,3,none⟩=some (.int .i64 c.bits):=(bu w2 _ _ _ _ _ hd.o).trans rfl;have c4:w2.cell? ⟨w.heap.size,4,none⟩=some (.int .u64 (c.seed:Int)):=(bu w2 _ _ _ _ _ hd.o).trans rfl
 go_wp2_with fail;refine⟨⟨c0,c1,c2,c3,c4⟩, ?_⟩;refine bJ 5 rfl (by kernel_rfl) (by kernel_rfl) (by kernel_rfl) (fun _ _ _ h=>h) rfl ⟨c0,c1,c2,c3,c4⟩ (by rintro w' ⟨ha,hj,hb,hk,hl⟩; go_simp; rfl) ?_;simp only[Act.put,ag,ai,ah];obtain⟨rc,ho⟩: ∃rc,rc=kY c.seed (List.replicate 64 0) W 0 0 0:=⟨_,rfl⟩
 have hp:rc.length=324:=by rw[ho]; exact ui _ (by simp) _ _ _ _
 rw[<-ho]at hv;have hw:=an ho;clear ho;have hg:=an (show(Tryz.prog.info? 237).map (·.size)=some rc.length by rw[hp]; kernel_rfl);have hG:=an (mr hv.o);have hC:=an (Ej rc c (-c.mn) hp);have hH:=an hp;clear hp;refine cy 6 rfl (fun K hK=> ?_);go_wp2_with (refine dO rfl 237 _ rfl rb 0 rfl rc _ hG.o Tryz.underlying237 rfl hg.o ?_)
 refine⟨⟨c0,c1,c2,c3,c4⟩, ?_⟩;simp only[Act.put,ag,ai,ah];refine cy 11 rfl (fun K hK=> ?_);go_wp2_with (go_loud (refine iH rfl 239 _ rfl [(0, .agg rc.toArray),(1,ko c),(3, .int .i64 (-c.mn))] (by kernel_rfl) _ hC.o ?_));refine⟨⟨c0,c1,c2,c3,c4⟩, ?_⟩;simp only[Act.put,ag,ai,ah]
 refine cy 12 rfl (fun K hK=> ?_);obtain⟨mc,hh⟩: ∃mc,mc=rc++(fR c++[Value.int .i64 0,Value.int .i64 (-c.mn)]):=⟨_,rfl⟩;have hu:mc.length=331:=by rw[hh]; exact uc c hH.o 0 (-c.mn)
 rw[<-hh];have hF:=an hh;have hc:=an (show(Tryz.prog.info? 239).map (·.size)=some mc.toArray.size by rw[bU,hu]; kernel_rfl);have hr:=an (show Tryz.zeroCells239.size=mc.toArray.size by rw[show mc.toArray.size=331 from by rw[bU]; exact hu]; kernel_rfl);have hs:=an (show mc.toArray.all (·.oneCell')=true from dU (by
  rw[hh,hw.o];exact zH c _ _ _))
 clear hu hh;go_wp2_with (go_loud (refine du rfl 239 _ _ rfl (w.heap.size+1) _ rfl rfl _ _ hx.o hc.o hr.o hs.o ?_));simp only[Act.put];obtain⟨w3,hb⟩: ∃w3,w3=w2.setRow (w.heap.size+1) mc.toArray:=⟨_,rfl⟩;rw[<-hb];have hf:w3.heap[w.heap.size]? =some (.cells (fR c).toArray 45 (0,0)):=by rw[hb,setRow_other w2 _ _ _ (by omega)]; exact hd.o
 have hE:=an (show w3.heap[w.heap.size+1]? =some (.cells mc.toArray 239 (0,0)) by rw[hb]; exact dW w2 _ _ _ _ _ hx.o);have hB:=an (show Below w.heap.size w w3 by rw[hb]; exact er hA.o (by omega) _);clear hb;refine⟨⟨(bu w3 _ _ _ _ _ hf).trans rfl,(bu w3 _ _ _ _ _ hf).trans rfl,(bu w3 _ _ _ _ _ hf).trans rfl,(bu w3 _ _ _ _ _ hf).trans rfl,(bu w3 _ _ _ _ _ hf).trans rfl⟩, ?_⟩
 refine cH (by kernel_rfl) ?_;clear c0 c1 c2 c3 c4 hf;have hq:=an (show Ending.returned (.agg mc.toArray)=Ending.returned (.agg (rH c (kY c.seed (List.replicate 64 0) W 0 0 0) 0 (-c.mn)).toArray) by rw[hF.o,hw.o]; rfl);go_wp2_with fail;refine cN (results_cell_row rfl _ _ (w.heap.size+1) _ _ _ _ rfl hE.o Tryz.underlying239 rfl hc.o) rfl ?_;exact⟨hq.o,hB.o⟩
end Go.Proofs.YtpffpjbkbaleiaaGreatDoor
