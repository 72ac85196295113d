/- Texts of this proof, one after the other: R3B, R3C, PartB, LookP, LoadA, LookA, FtC, FtD, FtE, FtP, FtQ, BldA, LoadB, BldB. -/
import Derived.Test.YtpffpjbkbaleiaaGreatDoorCSharesE
set_option maxRecDepth 100000
set_option maxHeartbeats 8000000
namespace Go.Proofs.YtpffpjbkbaleiaaGreatDoor
section
open Go Go.RowKit
theorem nW (w:World) (n:Nat):Below w.heap.size w (w.drewN n):=⟨rfl,rfl,rfl,ah _,fun _ _=>rfl⟩
theorem Qv (a b c d e f g h:Int):Tryz.prog.built 216 [(0, .int .u32 a),(1, .int .u32 b),(2, .int .u32 c),(3, .int .u32 d),(4, .int .u32 e),(5, .int .u32 f),(6, .int .u32 g),(7, .int .u32 h)]=some #[.int .u32 a, .int .u32 b, .int .u32 c, .int .u32 d, .int .u32 e, .int .u32 f, .int .u32 g, .int .u32 h]:=by kernel_rfl
theorem Jy (v u:V8):BB v u=BB u v:=by unfold BB uq; simp only[mi]
structure lI (vb : Nat) (W wq : World) (r : V8) : Prop where
 box:wq.heap[vb]? =some (.cells (r.list.map fp).toArray 216 (0,0))
 grown:W.grownBy wq (some vb)
theorem lI.next {vb:Nat} {W wq w':World} {r:V8} (h:lI vb W wq r) (hb:Below wq.heap.size wq w'):lI vb W w' r:=
 ⟨(hb.block vb (am h.box)).trans h.box,⟨hb.os.trans h.grown.os,hb.tape.trans h.grown.tape,hb.output.trans h.grown.output,an h.grown.size hb.size,fun k hk hne=>(hb.block k (aO hk h.grown.size)).trans (h.grown.block k hk hne)⟩⟩
theorem lI.get {vb:Nat} {W wq:World} {r:V8} (h:lI vb W wq r) {j x:Nat} (hj:r.list[j]? =some x):wq.cell? ⟨vb,j,none⟩=some (.int .u32 (x:Int)):=by rw[br wq _ j _ _ _ h.box,aF,bm,hj]; rfl
theorem lI.put {vb:Nat} {W wq:World} {r:V8} (h:lI vb W wq r) {r':V8} {c:Array Value} (hc:c=(r'.list.map fp).toArray):lI vb W (wq.setRow vb c) r':=
 ⟨by rw[eu _ _ _ _ _ _ h.box,hc],⟨h.grown.os,h.grown.tape,h.grown.output,by rw[size_setRow]; exact h.grown.size,fun k hk hne=>(setRow_other _ _ _ _ (fun e=>hne (by rw[e]))).trans (h.grown.block k hk hne)⟩⟩
theorem lI.keep {vb:Nat} {W wq:World} {r:V8} (h:lI vb W wq r) {b:Nat} {o:Obj} (hb:W.heap[b]? =some o) (hne:b≠vb):wq.heap[b]? =some o:=
 (h.grown.block b (am hb) (fun e=>hne (bt e))).trans hb
theorem Fd (v:V8) (bk o cap:Nat) (bs:List UInt8) (w:World) (hv:v.Ok) (hl:bs.length=64) (_hcap:64<=cap) (_hcapm:cap<=maxLen) (hbs: ∀j b,bs[j]? =some b->w.cell? ⟨bk,o+j,none⟩=some (u8W b)):
  Calls Tryz.prog 216 #[.agg (v.list.map fp).toArray, .slice (some ⟨bk,o,none⟩) 64 cap] w fun e w'=>e= .returned (.agg ((sF v bs).list.map fp).toArray)/\Below w.heap.size w w':=by
 have HS:=ag hbs;obtain⟨W0,hD⟩:=bH ((w.alloc (.cells (v.list.map fp).toArray 216)).alloc (.cells (List.replicate 8 (fp 0)).toArray 216));have HE:=ag (show Below w.heap.size w W0 by rw[hD]; exact(eT).alloc (by simp) _);have HI:=ag (show W0.heap[w.heap.size]? =some (.cells (v.list.map fp).toArray 216 (0,0)) by rw[hD]; exact(cN _ _ _ (by simp)).trans (aC w _))
 have HU:=ag (show W0.heap[w.heap.size+1]? =some (.cells (List.replicate 8 (fp 0)).toArray 216 (0,0)) by rw[hD]; have:=aC (w.alloc (.cells (v.list.map fp).toArray 216)) (.cells (List.replicate 8 (fp 0)).toArray 216); simpa using this);clear hbs
 go_enter Tryz.func216,Tryz.ntmps216
 go_upto_region 1 with(fail)
 change Code.wp _ _ _ _ ((w.alloc (.cells (v.list.map fp).toArray 216)).alloc (.cells (List.replicate 8 (fp 0)).toArray 216))
 rw[<-hD];clear hD;go_wp2_with fail;refine(yS _).mono ?_;rintro e w1 ⟨rfl,ho⟩;have HF:=ag (aj HE.o ho);have HK:=ag (eA ho HI.o);have HX:=ag (eA ho HU.o);clear ho
 go_upto_region 2 with(first | (refine dF rfl 252 _ _ rfl w1.heap.size nF rfl rfl _ _ (aC w1 _) (by kernel_rfl) (by kernel_rfl) (by kernel_rfl) ?_) | fail)
 obtain⟨W2,hO⟩:=bH ((w1.alloc (.cells (List.replicate 64 (fp 0)).toArray 252)).setRow w1.heap.size nF)
 change Code.wp _ _ _ _ ((w1.alloc (.cells (List.replicate 64 (fp 0)).toArray 252)).setRow w1.heap.size nF)
 have hV:=ag (show Below w1.heap.size w1 W2 by rw[hO]; exact eK (eT) (ah _) _);have Hj:=ag (show W2.heap[w1.heap.size]? =some (.cells nF 252 (0,0)) by rw[hO]; exact eu _ _ _ _ _ _ (aC w1 _));have hL:=ag (aj HF.o hV.o);have Hh:=ag (eA hV.o HK.o);have Hm:=ag (eA hV.o HX.o);rw[<-hO];clear hO
 go_upto_region 3 with(first | (refine iS rfl 252 _ rfl [] (by kernel_rfl) (List.replicate 64 (fp 0)).toArray (by kernel_rfl) ?_) | (refine dF rfl 252 _ _ rfl W2.heap.size (List.replicate 64 (fp 0)).toArray rfl rfl _ _ (aC W2 _) (by kernel_rfl) (by kernel_rfl) (by kernel_rfl) ?_) | fail)
 obtain⟨W3,hP⟩:=bH ((W2.alloc (.cells (List.replicate 64 (fp 0)).toArray 252)).setRow W2.heap.size (List.replicate 64 (fp 0)).toArray)
 change Code.wp _ _ _ _ ((W2.alloc (.cells (List.replicate 64 (fp 0)).toArray 252)).setRow W2.heap.size (List.replicate 64 (fp 0)).toArray)
 have He:=ag (show kA W2 bs 0 W3 from⟨by rw[hP,eu _ _ _ _ _ _ (aC W2 _)]; rfl,by rw[hP]; exact eK (eT) (ah _) _⟩);rw[<-hP];clear hP;go_wp2_with fail
 go_loopw [7] (fun i wr=> ∃t:Nat,t<=16/\i= .int .i64 (t:Int)/\kA W2 bs t wr) (fun i _=>16-(intOf i).toNat)
 ·exact⟨0,by omega,rfl,He.o⟩
 ·obtain⟨t,ht,rfl,hs⟩:=hrel;have HA:=ag hs;have hz:=hs.below.size;have hA:=ag (hL.o.trans (hs.below.mono hL.o.size));clear hs
  by_cases H3:t<16
  ·obtain⟨q,hq⟩:=bH (4*t);have HQ:=ag hq;have yv:IntKind.i64.wrap (4*(t:Int))=(q:Int):=by rw[bI]; omega
   obtain⟨r1,Hx⟩:=bH (q+1);obtain⟨r2,Hy⟩:=bH (q+2);obtain⟨r3,Hz⟩:=bH (q+3);have H8:(q:Int)<64:=by omega
   have H9:(r1:Int)<64:=by omega
   have ya:(r2:Int)<64:=by omega
   have yb:(r3:Int)<64:=by omega
   have hJ:(t:Int)<64:=by omega
   have yl:IntKind.i64.wrap ((q:Int)+1)=(r1:Int):=by rw[bI]; omega
   have yn:IntKind.i64.wrap ((q:Int)+2)=(r2:Int):=by rw[bI]; omega
   have yp:IntKind.i64.wrap ((q:Int)+3)=(r3:Int):=by rw[bI]; omega
   obtain⟨b0,h4⟩:=bH (bs.getD q 0);obtain⟨b1,ho⟩:=bH (bs.getD r1 0);obtain⟨b2,h7⟩:=bH (bs.getD r2 0);obtain⟨b3,h9⟩:=bH (bs.getD r3 0);have q0:=HS.o q (bs.getD q 0) (Dk (by omega));have q1:=HS.o r1 (bs.getD r1 0) (Dk (by omega));have q2:=HS.o r2 (bs.getD r2 0) (Dk (by omega));have q3:=HS.o r3 (bs.getD r3 0) (Dk (by omega));have HW:=ag (show Bp bs t=ET b0 b1 b2 b3 by rw[h4,ho,h7,h9,Hx,Hy,Hz,hq]; rfl)
   rw[<-h4]at q0;rw[<-ho]at q1;rw[<-h7]at q2;rw[<-h9]at q3;have hR:=block_lt_of_cell q0;simp only[u8W]at q0 q1 q2 q3;have c0:=(hA.o.cell (p:=⟨bk,o+q,none⟩) hR).trans q0;have c1:=(hA.o.cell (p:=⟨bk,o+r1,none⟩) hR).trans q1;have c2:=(hA.o.cell (p:=⟨bk,o+r2,none⟩) hR).trans q2;have c3:=(hA.o.cell (p:=⟨bk,o+r3,none⟩) hR).trans q3;have ch:=HA.o.here (by omega)
   have cf:=HA.o.free t;clear q0 q1 q2 q3 h4 ho h7 h9 hq Hx Hy Hz;go_wp2_with fail;refine bL [some 35,none] (by kernel_rfl) (by kernel_rfl) (by kernel_rfl) ?_;simp only[ef,aS,aY,bA,bQ]
   repeat (first | (refine cy rfl ?_; simp only[bM]) | (refine cP rfl (fun K hK=> ?_); go_simp; refine hK _ ?_; clear hK K))
   refine cO ?_;refine eE rfl (fun K hK=> ?_);go_wp2_with fail
   go_roundw
   ·rw[yM,<-HW.o];exact⟨t+1,by omega,by simp,(HA.o.put (by omega) (Jp bs H3)).drew⟩
   simp[intOf]; omega
  ·obtain rfl:t=16:=by omega
   obtain⟨W4,H5⟩:=bH wr;subst H5;have Hf:=HA;clear HA hA hz;rw[show((16:Nat):Int)=(16:Int)from rfl];go_wp2_with fail
   go_loopw [8,9,10] (fun i x1 x2 wr=> ∃t:Nat,16<=t/\t<=64/\i= .int .i64 (t:Int)/\kA W2 bs t wr) (fun i _ _ _=>64-(intOf i).toNat)
   ·exact⟨16,by omega,by omega,rfl,Hf.o⟩
   ·obtain⟨t,H4,ht,rfl,hs⟩:=hrel;have HA:=ag hs;have hz:=hs.below.size;clear hs
    by_cases H6:t<64
    ·obtain⟨j2,Hu⟩:=bH (t-2);obtain⟨j15,hF⟩:=bH (t-15);obtain⟨j7,Hv⟩:=bH (t-7);obtain⟨j16,hG⟩:=bH (t-16);have c2:=HA.o.get (j:=j2) (by omega);have c15:=HA.o.get (j:=j15) (by omega);have c7:=HA.o.get (j:=j7) (by omega);have c16:=HA.o.get (j:=j16) (by omega);have e2:IntKind.i64.wrap ((t:Int)-2)=(j2:Int):=by rw[bI]; omega
     have e15:IntKind.i64.wrap ((t:Int)-15)=(j15:Int):=by rw[bI]; omega
     have e7:IntKind.i64.wrap ((t:Int)-7)=(j7:Int):=by rw[bI]; omega
     have e16:IntKind.i64.wrap ((t:Int)-16)=(j16:Int):=by rw[bI]; omega
     have l2:(j2:Int)<64:=by omega
     have l15:(j15:Int)<64:=by omega
     have l7:(j7:Int)<64:=by omega
     have l16:(j16:Int)<64:=by omega
     have ch:=HA.o.here (by omega);have cf:=HA.o.free t;have HJ:=ag (show j2=t-2/\j15=t-15/\j7=t-7/\j16=t-16 from⟨Hu,hF,Hv,hG⟩);clear Hu hF Hv hG;obtain⟨x2,hT⟩:=bH ((tp bs t).getD j2 0);obtain⟨x15,hf⟩:=bH ((tp bs t).getD j15 0);obtain⟨x7,Hd⟩:=bH ((tp bs t).getD j7 0);obtain⟨x16,hu⟩:=bH ((tp bs t).getD j16 0);rw[<-hT]at c2;rw[<-hf]at c15
     rw[<-Hd]at c7;rw[<-hu]at c16;have o2:x2<4294967296:=by rw[hT]; exact(Cn bs t).get j2
     have o15:x15<4294967296:=by rw[hf]; exact(Cn bs t).get j15
     have HN:=ag (show rh (tp bs t)=(((Lp x2+x7)%4294967296+Lo x15)%4294967296+x16)%4294967296 by unfold rh;rw[pg,hT,hf,Hd,hu,HJ.o.1,HJ.o.2.1,HJ.o.2.2.1,HJ.o.2.2.2])
     clear hT hf Hd hu;go_wp2_with fail
     go_quiet ((go_at_call 218; refine Calls.quiet_of (pQ _ _ _ o15 (by decide))))
     rw[show yk x15 7=gQ x15 25 from rfl,show yk x15 18=gQ x15 14 from rfl,Bc o15];obtain⟨W5,hn⟩:=bH (wr.drewN nq);rw[<-hn];have hg:=ag (show kA W2 bs t W5 by rw[hn]; exact HA.o.next (nW wr nq));have d2:W5.cell? ⟨W2.heap.size,j2,none⟩=some (.int .u32 (x2:Int)):=by rw[hn]; exact c2
     have d7:W5.cell? ⟨W2.heap.size,j7,none⟩=some (.int .u32 (x7:Int)):=by rw[hn]; exact c7
     have d16:W5.cell? ⟨W2.heap.size,j16,none⟩=some (.int .u32 (x16:Int)):=by rw[hn]; exact c16
     have ch:=hg.o.here (by omega);have cf:=hg.o.free t;clear hn c15 c2 c7 c16;go_wp2_with fail
     go_quiet ((go_at_call 218; refine Calls.quiet_of (pQ _ _ _ o2 (by decide))))
     rw[show yk x2 17=gQ x2 15 from rfl,show yk x2 19=gQ x2 13 from rfl,Bd o2];obtain⟨W6,he⟩:=bH (W5.drewN nq);rw[<-he];have hU:=ag (show kA W2 bs t W6 by rw[he]; exact hg.o.next (nW W5 nq));have f7:W6.cell? ⟨W2.heap.size,j7,none⟩=some (.int .u32 (x7:Int)):=by rw[he]; exact d7
     have f16:W6.cell? ⟨W2.heap.size,j16,none⟩=some (.int .u32 (x16:Int)):=by rw[he]; exact d16
     clear ch cf;have ch:=hU.o.here (by omega);have cf:=hU.o.free t;have hJ:(t:Int)<64:=by omega
     clear he d2 d7 d16;go_wp2_with fail;refine bL [some 15,none] (by kernel_rfl) (by kernel_rfl) (by kernel_rfl) ?_;simp only[ef,aS,aY,bA,bQ]
     repeat (first | (refine cy rfl ?_; simp only[bM]) | (refine cP rfl (fun K hK=> ?_); go_simp; refine hK _ ?_; clear hK K))
     refine cO ?_;refine eE rfl (fun K hK=> ?_);go_wp2_with fail
     go_roundw
     ·have HV:((((Lp x2:Nat):Int)+(x7:Int)+((Lo x15:Nat):Int)+(x16:Int))%4294967296)=((rh (tp bs t):Nat):Int):=by rw[HN.o]; omega
      rw[HV];exact⟨t+1,by omega,by omega,by simp,(hU.o.put (by omega) (ER bs H4)).drew⟩
     simp[intOf]; omega
    ·obtain rfl:t=64:=by omega
     obtain⟨W5,hn⟩:=bH wr;subst hn;have hg:=HA;have hM:=ag (hL.o.trans (HA.o.below.mono hL.o.size));have hN:=ag ((HA.o.below.block _ (am Hh.o)).trans Hh.o);have hW:=ag ((HA.o.below.block _ (am Hm.o)).trans Hm.o);have Hk:=ag ((HA.o.below.block _ (am Hj.o)).trans Hj.o);have HZ:=ag (mJ hN.o);have HO:=ag (show(Tryz.prog.info? 216).map (·.size)=some (v.list.map fp).length by kernel_rfl)
     have HD:=ag (show(v.list.map fp).toArray.all (·.oneCell')=true from er (fun x hx=>by obtain⟨y,-,rfl⟩:=aQ.1 hx; rfl));clear HA hz Hf He;rw[show((64:Nat):Int)=(64:Int)from rfl]
     go_upto_region 14 with(first | (refine el rfl 216 _ rfl w.heap.size 0 rfl (v.list.map fp) _ HZ.o fP rfl HO.o ?_) | (refine dF rfl 216 _ _ rfl W5.heap.size (v.list.map fp).toArray rfl rfl _ _ (aC W5 _) (by kernel_rfl) (by kernel_rfl) HD.o ?_) | fail)
     obtain⟨W6,he⟩:=bH ((W5.alloc (.cells (List.replicate 8 (fp 0)).toArray 216)).setRow W5.heap.size (v.list.map fp).toArray)
     change Code.wp _ _ _ _ ((W5.alloc (.cells (List.replicate 8 (fp 0)).toArray 216)).setRow W5.heap.size (v.list.map fp).toArray)
     have hw:=ag (show Below W5.heap.size W5 W6 by rw[he]; exact eK (eT) (ah _) _);have Hq:=ag (show W6.heap[W5.heap.size]? =some (.cells (v.list.map fp).toArray 216 (0,0)) by rw[he]; exact eu _ _ _ _ _ _ (aC W5 _));rw[<-he];clear he;have hB:=ag (show lI W5.heap.size W6 W6 v from⟨Hq.o,⟨rfl,rfl,rfl,ah _,fun _ _ _=>rfl⟩⟩)
     obtain⟨vb,Hc⟩: ∃vb,W5.heap.size=vb:=⟨_,rfl⟩;have hp:=ag Hc;rw[Hc]at hB Hq ⊢;clear Hc;go_wp2_with fail
     go_loopw [12,13,14,15,16,17,18,19,20] (fun i y1 y2 y3 y4 y5 y6 y7 y8 wr=> ∃(t:Nat) (r:V8),t<=64/\i= .int .i64 (t:Int)/\r=rTo bs v t/\lI vb W6 wr r) (fun i _ _ _ _ _ _ _ _ _=>64-(intOf i).toNat)
     ·exact⟨0,v,by omega,rfl,rfl,hB.o⟩
     ·obtain⟨t,r,ht,rfl,hr,HB⟩:=hrel;have Ho:=ag hr;have ha:=ag HB;have hh:=ag (show r.Ok by rw[hr]; exact Gh bs t hv);clear hr HB
      by_cases h0:t<64
      ·have v0:=ha.o.get (j:=0) (x:=r.a) rfl;have v1:=ha.o.get (j:=1) (x:=r.b) rfl;have v2:=ha.o.get (j:=2) (x:=r.c) rfl;have v4:=ha.o.get (j:=4) (x:=r.e) rfl;have v5:=ha.o.get (j:=5) (x:=r.f) rfl;have v6:=ha.o.get (j:=6) (x:=r.g) rfl;go_wp2_with fail
       go_quiet (fail)
       obtain⟨W7,hE⟩:=bH (wr.drewN nq);rw[<-hE];have hc:=ag (show lI vb W6 W7 r by rw[hE]; exact ha.o.next (nW wr nq));obtain⟨k,hk⟩:=bH (kc.getD t 0);obtain⟨x,hx⟩:=bH ((wsP bs).getD t 0);have Hl:=ag (aB hk hx);have v7:=hc.o.get (j:=7) (x:=r.h) rfl;have v3:=hc.o.get (j:=3) (x:=r.d) rfl;have ck:W7.cell? ⟨w1.heap.size,t,none⟩=some (.int .u32 (k:Int)):=by rw[br W7 _ t _ _ _ (hc.o.keep (eA hw.o Hk.o) (by have:=am Hk.o; have:=hp.o; omega))];unfold nF;rw[aF,bm,getD_some (by rw[BR]; exact h0),<-hk]; rfl
       have cx:W7.cell? ⟨W2.heap.size,t,none⟩=some (.int .u32 (x:Int)):=by rw[br W7 _ t _ _ _ (hc.o.keep (eA hw.o hg.o.box) (by have:=am hg.o.box; have:=hp.o; omega)),<-br W5 _ t _ _ _ hg.o.box,hg.o.get h0,Cm,<-hx]
       have hJ:(t:Int)<64:=by omega
       clear hE hk hx v0 v1 v2 v4 v5 v6;go_wp2_with fail
       go_quiet ((go_at_call 218; refine Calls.quiet_of (pQ _ _ _ hh.o.e (by decide))))
       rw[show yk r.e 6=gQ r.e 26 from rfl,show yk r.e 11=gQ r.e 21 from rfl,show yk r.e 25=gQ r.e 7 from rfl,Jj hh.o,Ir hh.o,
        show((((r.h:Int)+((s1P r:Nat):Int)+((chP r:Nat):Int)+(k:Int))%4294967296+(x:Int))%4294967296)=((OI r k x:Nat):Int) by rw[GI]; omega]
       obtain⟨t1,Ha⟩:=bH (OI r k x);rw[<-Ha];have Hp:=ag Ha;obtain⟨W8,h3⟩:=bH (W7.drewN nq);rw[<-h3];have hY:=ag (show lI vb W6 W8 r by rw[h3]; exact hc.o.next (nW W7 nq));clear h3 v7 v3 ck cx Ha;go_wp2_with fail;refine(pQ _ _ _ hh.o.a (by decide)).mono ?_;rintro e W9 ⟨rfl,m9,Hw⟩;have hZ:=ag (show lI vb W6 W9 r by rw[Hw]; exact hY.o.next (nW W8 m9))
       clear Hw;go_wp2_with fail;refine(pQ _ _ _ hh.o.a (by decide)).mono ?_;rintro e Hs ⟨rfl,m10,hH⟩;have hC:=ag (show lI vb W6 Hs r by rw[hH]; exact hZ.o.next (nW W9 m10));clear hH;go_wp2_with fail;refine(pQ _ _ _ hh.o.a (by decide)).mono ?_;rintro e H2 ⟨rfl,m11,hI⟩;have hb:=ag (show lI vb W6 H2 r by rw[hI]; exact hC.o.next (nW Hs m11))
       clear hI;have v3:=hb.o.get (j:=3) (x:=r.d) rfl
       go_upto_region 20 with(fail)
       rw[show yk r.a 2=gQ r.a 30 from rfl,show yk r.a 13=gQ r.a 19 from rfl,show yk r.a 22=gQ r.a 10 from rfl,Ji hh.o,IP hh.o,
        show((((s0P r:Nat):Int)+((mjP r:Nat):Int))%4294967296)=((t2P r:Nat):Int) by rw[Oj]; omega]
       obtain⟨t2,Hb⟩:=bH (t2P r);rw[<-Hb];have H1:=ag Hb;clear Hb;go_wp2_with (refine iS rfl 216 _ rfl [(0, .int .u32 (((t1:Int)+(t2:Int))%4294967296)),(1, .int .u32 (r.a:Int)),(2, .int .u32 (r.b:Int)),(3, .int .u32 (r.c:Int)),(4, .int .u32 (((r.d:Int)+(t1:Int))%4294967296)),(5, .int .u32 (r.e:Int)),(6, .int .u32 (r.f:Int)),(7, .int .u32 (r.g:Int))] (by kernel_rfl) _ (Qv _ _ _ _ _ _ _ _) ?_; go_must (refine dF rfl 216 _ _ rfl vb #[.int .u32 (((t1:Int)+(t2:Int))%4294967296), .int .u32 (r.a:Int), .int .u32 (r.b:Int), .int .u32 (r.c:Int), .int .u32 (((r.d:Int)+(t1:Int))%4294967296), .int .u32 (r.e:Int), .int .u32 (r.f:Int), .int .u32 (r.g:Int)] (by kernel_rfl) (by kernel_rfl) _ _ hb.o.box (by kernel_rfl) (by kernel_rfl) (by kernel_rfl) ?_))
       go_roundw
       ·refine⟨t+1,Gm r k x,by omega,by simp, ?_,hb.o.put ?_⟩
        ·rw[Ej bs v h0,Ho.o,Hl.o.1,Hl.o.2]
        ·rw[show(((t1:Int)+(t2:Int))%4294967296)=(((OI r k x+t2P r)%4294967296:Nat):Int) by rw[Hp.o,H1.o]; omega,show(((r.d:Int)+(t1:Int))%4294967296)=(((r.d+OI r k x)%4294967296:Nat):Int) by rw[Hp.o]; omega]
         rfl
       simp[intOf]; omega
      ·obtain rfl:t=64:=by omega
       obtain⟨W7,hE⟩:=bH wr;subst hE;have HR:=ag (show lO vb r v [] 216 W7 W7 0 from lO.start (by rw[cg]; exact ha.o.box) (ak _ _));have HL:=ag (ha.o.keep (eA hw.o hN.o) (by have:=am hN.o; have:=hp.o; omega));have HY:=ag (ha.o.keep (eA hw.o hW.o) (by have:=am hW.o; have:=hp.o; omega));rw[show((64:Nat):Int)=(64:Int)from rfl]
       go_wp2_with fail
       go_loopw [21] (fun i wq=> ∃j:Nat,j<=8/\i= .int .i64 (j:Int)/\lO vb r v [] 216 W7 wq j) (fun i _=>8-(intOf i).toNat)
       ·exact⟨0,by omega,rfl,HR.o⟩
       ·obtain⟨j,hj,rfl,hm⟩:=hrel;have HM:=ag hm;clear hm
        by_cases h8:j<8
        ·have cs:=HM.o.here h8;have cf:=HM.o.free j;have cv:wr.cell? ⟨w.heap.size,j,none⟩=some (.int .u32 ((v.list.getD j 0:Nat):Int)):=(br wr _ _ _ _ _ (HM.o.keep HL.o (by have:=am hN.o; have:=hp.o; omega))).trans (by rw[aF]; exact Ql v h8);obtain⟨x,hx⟩:=bH (r.list.getD j 0);obtain⟨y,hy⟩:=bH (v.list.getD j 0);rw[<-hx]at cs
         rw[<-hy]at cv;have Hr:=ag (aB hx hy);clear hx hy;have H7:(j:Int)<8:=by omega
         go_wp2_with fail;refine bL [some 8,none] (by kernel_rfl) (by kernel_rfl) (by kernel_rfl) ?_;simp only[ef,aS,aY,bA,bQ]
         repeat (first | (refine cy rfl ?_; simp only[bM]) | (refine cP rfl (fun K hK=> ?_); go_simp; refine hK _ ?_; clear hK K))
         refine cO ?_;refine eE rfl (fun K hK=> ?_);go_wp2_with fail
         go_roundw
         ·refine⟨j+1,by omega,by simp, ?_⟩;exact(HM.o.put h8 (by rw[<-Hr.o.1,<-Hr.o.2]; unfold fp uq; simp)).drew
         simp[intOf]; omega
        ·obtain rfl:j=8:=by omega
         have Ht:wr.heap[vb]? =some (.cells (((sF v bs).list.map fp)).toArray 216 (0,0)):=by have h1:=HM.o.box;rw[cg,show Kx r v 8=(BB r v).list from rfl,Jy,Ho.o,<-Eh]at h1;exact h1
         have Hg:=ag Ht;have Hn:=ag (HM.o.keep HY.o (by have:=am hW.o; have:=hp.o; omega));obtain⟨cs8,hd⟩:=bH ((sF v bs).list.map fp);rw[<-hd]at Hg;have HH:=ag hd;have hS:cs8.length=8:=by rw[hd]; rfl
         have hX:=ag (mJ Hg.o);have HP:=ag (show(Tryz.prog.info? 216).map (·.size)=some cs8.length by rw[hS]; kernel_rfl);have Hi:=ag (show(Tryz.prog.info? 216).map (·.size)=some cs8.toArray.size by rw[bR,hS]; kernel_rfl);have H0:=ag (show(List.replicate 8 (fp 0)).toArray.size=cs8.toArray.size by rw[bR,bR,hS]; rfl)
         have HT:=ag (show cs8.toArray.all (·.oneCell')=true from er (fun x hx=>by rw[hd]at hx; obtain⟨y,-,rfl⟩:=aQ.1 hx; rfl));have HG:=ag (show Below w.heap.size w wr from(hM.o.trans (hw.o.mono hM.o.size)).trans ((show Below w.heap.size W6 wr from by
          have h1:=ha.o.grown;have h2:=HM.o.grown;have yc:w.heap.size<=vb:=by rw[<-hp.o]; exact hM.o.size
          have HC:w.heap.size<=W6.heap.size:=an hM.o.size hw.o.size;exact⟨h2.os.trans h1.os,h2.tape.trans h1.tape,h2.output.trans h1.output,an h1.size h2.size,fun k hk=>(h2.block k (aO hk (an HC h1.size)) (fun e=>by cases e; omega)).trans (h1.block k (aO hk HC) (fun e=>by cases e; omega))⟩)))
         clear Ht hd hS;go_wp2_with (first | (refine el rfl 216 _ rfl vb 0 rfl cs8 _ hX.o fP rfl HP.o ?_) | (refine dF rfl 216 _ _ rfl (w.heap.size+1) cs8.toArray rfl rfl _ _ Hn.o Hi.o H0.o HT.o ?_) | fail);refine cS (results_cell_row rfl _ _ (w.heap.size+1) _ _ _ _ rfl (eu wr _ _ _ _ _ Hn.o) fP rfl Hi.o) rfl ?_
         exact⟨by rw[HH.o],eK HG.o (by omega) _⟩
def lenOf (v:Value):Nat:=match v with
 | .slice _ n _=>n
 | _=>0
theorem lA {x:Nat} {y:Int} (h:y=(x:Int)%256):Value.int .u8 y=aZ (UInt8.ofNat x):=by rw[h];simp[aZ]
theorem Ny (S:Nat->Prop) (v:Value) (data:List UInt8) (w:World) (hv:bB S w v data) (hl:data.length<549755813888):
  Calls Tryz.prog 215 #[v] w fun e w'=> ∃a c,e= .returned (.slice a (data++pN data.length).length c)/\mj w' w.heap.size (.slice a (data++pN data.length).length c) (data++pN data.length)/\Below w.heap.size w w':=by
 obtain⟨hS,a,cap,rfl,hn,hm,-⟩:=id hv;unfold maxLen at hm;have HV:=ag hv;obtain⟨n,hs⟩:=bH data.length;rw[<-hs]at hl hn ⊢;have HN:=ag hs;have hA:=ag (show(w.alloc (.cells #[] 5)).ownsRow w.heap.size 5 1 (.slice (some ⟨w.heap.size,0,none⟩) 0 0) 0 []from cW (e:=5) (size:=1) (base:=w.heap.size) w #[] 0 (ah _) (aR _) (by simp))
 have hL:=ag ((ak w.heap.size w).alloc (ah _) (.cells #[] 5));have hP:=ag (show bX S (w.alloc (.cells #[] 5)) 1 (.slice a n cap) n (data.map aZ) by rw[hs]; exact bX.below hv (by omega) ((ak w.heap.size w).alloc (ah _) _));clear hv hS hs
 go_enter Tryz.func215,Tryz.ntmps215
 have hU:0+n<1099511627775:=by omega
 have hT:n<1099511627775:=by omega
 have hJ:w.heap.size<=(w.alloc (.cells #[] 5)).heap.size:=by simp
 go_wp2_with (at_builtin; first
  | (refine dV Tryz.appBytes rfl _ _ rfl w.heap.size (.slice (some ⟨w.heap.size,0,none⟩) 0 0) 0 [] rfl hA.o (.slice a n cap) n (data.map aZ) rfl hP.o (fE data) hU hJ ?_; intro v1 w1 hg hE; rw[bO,aJ]at hg; obtain⟨a1,c1,rfl,-,-⟩:=aH hg; have hB:=ag hg; have hu:=ag (bZ hL.o hA.o hE (ah _) hJ); clear hg hE)
  | (refine bP Tryz.appBytes rfl _ _ rfl w.heap.size (.slice a1 n c1) n (data.map aZ) rfl w1 [Value.int .u8 128] _ rfl rfl (fE [128]) hB.o hT hu.o.size ?_; intro v2 w2 hh hF _ _; obtain⟨a2,c2,rfl,-,-⟩:=aH hh))
 have hO:=ag (show w2.ownsRow w.heap.size 5 1 (.slice a2 (n+1) c2) (n+1) ((data++128::List.replicate 0 0).map aZ) by rw[aI]; exact hh);have hM:=ag (bZ hu.o hB.o hF (ah _) hu.o.size);clear hh hF
 go_loopw [3] (fun o wr=> ∃(k:Nat) (a c:_),k<=iT n/\o= .slice a (n+1+k) c/\wr.ownsRow w.heap.size 5 1 (.slice a (n+1+k) c) (n+1+k) ((data++128::List.replicate k 0).map aZ)/\Below w.heap.size w wr) (fun o _=>iT n+n+1-lenOf o)
 ·exact⟨0,_,_,by omega,rfl,hO.o,hM.o⟩
 ·obtain⟨k,a3,c3,hk,rfl,ho,hb⟩:=hrel;obtain⟨m,hy⟩:=bH (n+1+k);rw[<-hy]at ho ⊢;have HM:=ag hy;have HO:=ag ho;have HB:=ag hb;have hz:=hb.size;clear ho hb hy;have hI:iT n<64:=cZ _ (by decide)
  by_cases hR:m%64=56
  ·have e1:((m:Int)%64 != 56)=false:=by rw[bne_eq_false_iff_eq]; omega
   have hx:k=iT n:=by have:=HM.o; unfold iT at hk hI ⊢; omega
   subst hx;clear hR;go_wp2_with fail;obtain⟨w5,hV⟩:=bH wr;subst hV;obtain⟨pre,hq⟩:=bH (data++128::List.replicate (iT n) 0);rw[<-hq]at HO;have hw:=ag hq;have hG:pre.length=m:=by rw[hq,HM.o,HN.o]; simp; omega
   have hN:=ag hG;have hr:m+8<1099511627775:=by have:=HM.o; omega
   clear hq hG e1 hk hI
   go_loopw [3,5] (fun o i wr=> ∃(j:Nat) (a c:_),j<=8/\i= .int .i64 (7-(j:Int))/\o= .slice a (m+j) c/\wr.ownsRow w.heap.size 5 1 (.slice a (m+j) c) (m+j) ((pre++(nR (n*8)).take j).map aZ)/\Below w.heap.size w wr) (fun _ i _=>(intOf i+1).toNat)
   ·exact⟨0,a3,c3,by omega,rfl,rfl,by simpa using HO.o,HB.o⟩
   ·obtain⟨j,a5,c5,hj,rfl,rfl,ho,hb⟩:=hrel;have hd:=ag ho;have hp:=ag hb;have hf:=hb.size;clear ho hb hz;have hc:j=0\/j=1\/j=2\/j=3\/j=4\/j=5\/j=6\/j=7\/j=8:=by omega
    rcases hc with rfl | rfl | rfl | rfl | rfl | rfl | rfl | rfl | rfl
    ·skip
     rw[show(7-((0:Nat):Int))=7 from rfl];go_wp2_with (at_builtin; go_must (refine bP Tryz.appBytes rfl _ _ rfl w.heap.size (.slice a5 (m+0) c5) (m+0) ((pre++(nR (n*8)).take 0).map aZ) rfl wr [Value.int .u8 ((n:Int)*8/72057594037927936)] _ rfl rfl (by simp[Value.oneCell']) hd.o (by omega) hf ?_); intro v4 w4 ha he _ _; obtain⟨a4,c4,rfl,-,-⟩:=aH ha)
     go_roundw
     ·refine⟨0+1,a4,c4,by omega,by simp,rfl, ?_,bZ hp.o hd.o he (ah _) hf⟩;rw[show(nR (n*8)).take (0+1)=(nR (n*8)).take 0++[UInt8.ofNat (n*8/2^56)]from rfl,<-bg,aI,fh,<-lA (x:=n*8/2^56) (y:=((n:Int)*8/72057594037927936)) (by omega)];exact ha
     simp[intOf]
    ·skip
     rw[show(7-((1:Nat):Int))=6 from rfl];go_wp2_with (at_builtin; go_must (refine bP Tryz.appBytes rfl _ _ rfl w.heap.size (.slice a5 (m+1) c5) (m+1) ((pre++(nR (n*8)).take 1).map aZ) rfl wr [Value.int .u8 ((n:Int)*8/281474976710656)] _ rfl rfl (by simp[Value.oneCell']) hd.o (by omega) hf ?_); intro v4 w4 ha he _ _; obtain⟨a4,c4,rfl,-,-⟩:=aH ha)
     go_roundw
     ·refine⟨1+1,a4,c4,by omega,by simp,rfl, ?_,bZ hp.o hd.o he (ah _) hf⟩;rw[show(nR (n*8)).take (1+1)=(nR (n*8)).take 1++[UInt8.ofNat (n*8/2^48)]from rfl,<-bg,aI,fh,<-lA (x:=n*8/2^48) (y:=((n:Int)*8/281474976710656)) (by omega)];exact ha
     simp[intOf]
    ·skip
     rw[show(7-((2:Nat):Int))=5 from rfl];go_wp2_with (at_builtin; go_must (refine bP Tryz.appBytes rfl _ _ rfl w.heap.size (.slice a5 (m+2) c5) (m+2) ((pre++(nR (n*8)).take 2).map aZ) rfl wr [Value.int .u8 ((n:Int)*8/1099511627776)] _ rfl rfl (by simp[Value.oneCell']) hd.o (by omega) hf ?_); intro v4 w4 ha he _ _; obtain⟨a4,c4,rfl,-,-⟩:=aH ha)
     go_roundw
     ·refine⟨2+1,a4,c4,by omega,by simp,rfl, ?_,bZ hp.o hd.o he (ah _) hf⟩;rw[show(nR (n*8)).take (2+1)=(nR (n*8)).take 2++[UInt8.ofNat (n*8/2^40)]from rfl,<-bg,aI,fh,<-lA (x:=n*8/2^40) (y:=((n:Int)*8/1099511627776)) (by omega)];exact ha
     simp[intOf]
    ·skip
     rw[show(7-((3:Nat):Int))=4 from rfl];go_wp2_with (at_builtin; go_must (refine bP Tryz.appBytes rfl _ _ rfl w.heap.size (.slice a5 (m+3) c5) (m+3) ((pre++(nR (n*8)).take 3).map aZ) rfl wr [Value.int .u8 ((n:Int)*8/4294967296%256)] _ rfl rfl (by simp[Value.oneCell']) hd.o (by omega) hf ?_); intro v4 w4 ha he _ _; obtain⟨a4,c4,rfl,-,-⟩:=aH ha)
     go_roundw
     ·refine⟨3+1,a4,c4,by omega,by simp,rfl, ?_,bZ hp.o hd.o he (ah _) hf⟩;rw[show(nR (n*8)).take (3+1)=(nR (n*8)).take 3++[UInt8.ofNat (n*8/2^32)]from rfl,<-bg,aI,fh,<-lA (x:=n*8/2^32) (y:=((n:Int)*8/4294967296%256)) (by omega)];exact ha
     simp[intOf]
    ·skip
     rw[show(7-((4:Nat):Int))=3 from rfl];go_wp2_with (at_builtin; go_must (refine bP Tryz.appBytes rfl _ _ rfl w.heap.size (.slice a5 (m+4) c5) (m+4) ((pre++(nR (n*8)).take 4).map aZ) rfl wr [Value.int .u8 ((n:Int)*8/16777216%256)] _ rfl rfl (by simp[Value.oneCell']) hd.o (by omega) hf ?_); intro v4 w4 ha he _ _; obtain⟨a4,c4,rfl,-,-⟩:=aH ha)
     go_roundw
     ·refine⟨4+1,a4,c4,by omega,by simp,rfl, ?_,bZ hp.o hd.o he (ah _) hf⟩;rw[show(nR (n*8)).take (4+1)=(nR (n*8)).take 4++[UInt8.ofNat (n*8/2^24)]from rfl,<-bg,aI,fh,<-lA (x:=n*8/2^24) (y:=((n:Int)*8/16777216%256)) (by omega)];exact ha
     simp[intOf]
    ·skip
     rw[show(7-((5:Nat):Int))=2 from rfl];go_wp2_with (at_builtin; go_must (refine bP Tryz.appBytes rfl _ _ rfl w.heap.size (.slice a5 (m+5) c5) (m+5) ((pre++(nR (n*8)).take 5).map aZ) rfl wr [Value.int .u8 ((n:Int)*8/65536%256)] _ rfl rfl (by simp[Value.oneCell']) hd.o (by omega) hf ?_); intro v4 w4 ha he _ _; obtain⟨a4,c4,rfl,-,-⟩:=aH ha)
     go_roundw
     ·refine⟨5+1,a4,c4,by omega,by simp,rfl, ?_,bZ hp.o hd.o he (ah _) hf⟩;rw[show(nR (n*8)).take (5+1)=(nR (n*8)).take 5++[UInt8.ofNat (n*8/2^16)]from rfl,<-bg,aI,fh,<-lA (x:=n*8/2^16) (y:=((n:Int)*8/65536%256)) (by omega)];exact ha
     simp[intOf]
    ·skip
     rw[show(7-((6:Nat):Int))=1 from rfl];go_wp2_with (at_builtin; go_must (refine bP Tryz.appBytes rfl _ _ rfl w.heap.size (.slice a5 (m+6) c5) (m+6) ((pre++(nR (n*8)).take 6).map aZ) rfl wr [Value.int .u8 ((n:Int)*8/256%256)] _ rfl rfl (by simp[Value.oneCell']) hd.o (by omega) hf ?_); intro v4 w4 ha he _ _; obtain⟨a4,c4,rfl,-,-⟩:=aH ha)
     go_roundw
     ·refine⟨6+1,a4,c4,by omega,by simp,rfl, ?_,bZ hp.o hd.o he (ah _) hf⟩;rw[show(nR (n*8)).take (6+1)=(nR (n*8)).take 6++[UInt8.ofNat (n*8/2^8)]from rfl,<-bg,aI,fh,<-lA (x:=n*8/2^8) (y:=((n:Int)*8/256%256)) (by omega)];exact ha
     simp[intOf]
    ·skip
     rw[show(7-((7:Nat):Int))=0 from rfl];go_wp2_with (at_builtin; go_must (refine bP Tryz.appBytes rfl _ _ rfl w.heap.size (.slice a5 (m+7) c5) (m+7) ((pre++(nR (n*8)).take 7).map aZ) rfl wr [Value.int .u8 ((n:Int)*8%256)] _ rfl rfl (by simp[Value.oneCell']) hd.o (by omega) hf ?_); intro v4 w4 ha he _ _; obtain⟨a4,c4,rfl,-,-⟩:=aH ha)
     go_roundw
     ·refine⟨7+1,a4,c4,by omega,by simp,rfl, ?_,bZ hp.o hd.o he (ah _) hf⟩;rw[show(nR (n*8)).take (7+1)=(nR (n*8)).take 7++[UInt8.ofNat (n*8)]from rfl,<-bg,aI,fh,<-lA (x:=n*8) (y:=((n:Int)*8%256)) (by omega)];exact ha
     simp[intOf]
    ·rw[show(7-((8:Nat):Int))= -1 from rfl];have hD:=ag (show data++pN n=pre++nR (n*8) by
      rw[hw.o];unfold pN;rw[eM (by omega)]
      simp)
     have hC:=ag (show m+8=(data++pN n).length by rw[hD.o,ai,hN.o]; rfl);go_wp2_with fail;go_ret;refine⟨a5,c5,by rw[hC.o]; rfl, ?_,hp.o⟩;have h:=hd.o;rw[show(nR (n*8)).take 8=nR (n*8)from rfl,<-hD.o,hC.o]at h;exact h
  ·have e1:((m:Int)%64 != 56)=true:=by rw[bne_iff_ne]; omega
   have hx:k+1<=iT n:=by
    have:=HM.o
    rcases dN k (iT n)with h | h
    ·exact h
    ·exfalso
     have:k=iT n:=by omega
     unfold iT at this;omega
   have hr:m<1099511627775:=by have:=HM.o; omega
   go_wp2_with (at_builtin; go_must (refine bP Tryz.appBytes rfl _ _ rfl w.heap.size (.slice a3 m c3) m ((data++128::List.replicate k 0).map aZ) rfl wr [Value.int .u8 0] _ rfl rfl (fE [0]) HO.o hr hz ?_); intro v4 w4 ha he _ _; obtain⟨a4,c4,rfl,-,-⟩:=aH ha)
   go_roundw
   case rel=>
    have hH:m+1=n+1+(k+1):=by rw[HM.o]; omega
    refine⟨k+1,a4,c4,hx,by rw[hH], ?_,bZ HB.o HO.o he (ah _) hz⟩;rw[<-hH,List.replicate_succ',<-aK,<-bg,aI];exact ha
   case measure=>
    have:=HM.o
    show iT n+n+1-(m+1)<iT n+n+1-m
    omega
end
section
open Go.RowKit
def LY (xs:List ByteArray) (w:World) (e:Ending) (w':World):Prop:=
 ∃a cap,e= .returned (.tuple #[.slice a xs.length cap, .int .i64 0])/\xs.length<=cap/\cap<=maxLen/\lP (w.heap.size<= ·) w' (.slice a xs.length cap) xs/\Below w.heap.size w w'
theorem sK : ∀ {xs ys:List ByteArray},xs.map bl=ys.map bl->xs=ys
 | [],[],_=>rfl
 | [],_::_,h=>by simp at h
 | _::_,[],h=>by simp at h
 | x::xs,y::ys,h=>by simp only[bS,gt]at h;rw[kF h.1,sK h.2]
def jR (l:List UInt8):List ByteArray:=(dd 47 l).map fun p=>⟨p.toArray⟩
theorem AM (l:List UInt8):(jR l).map bl=dd 47 l:=by
 unfold jR;rw[gV];have:(bl ∘ fun p:List UInt8=>(⟨p.toArray⟩:ByteArray))=id:=by funext p; exact jQ p
 rw[this,List.map_id]
theorem EG (s:ByteArray) (w:World) (he:nJ w) (hv:dH (bl s)=true):Calls Tryz.prog 82 #[.string s] w (LY (jR (bl s)) w):=by
 refine(ry s w he).mono ?_;rintro e w' (⟨_,v,xs,rfl,hx,hs,hb⟩ | ⟨hf,_⟩)
 ·have:xs=jR (bl s):=sK (hx.trans (AM _).symm);subst this;obtain⟨a,cap,rfl,h1,h2,_⟩:=hs.shape;exact⟨a,cap,rfl,h1,h2,hs,hb⟩
 ·rw[hv]at hf; cases hf
theorem Lv (s:ByteArray) (w:World) (he:nJ w) (hv:dH (bl s)=false):Calls Tryz.prog 82 #[.string s] w fun e w'=>e= .returned (.tuple #[.slice none 0 0, .int .i64 1])/\Below w.heap.size w w':=by
 refine(ry s w he).mono ?_;rintro e w' (⟨ht,_⟩ | ⟨_,rfl,hb⟩)
 ·rw[hv]at ht; cases ht
 ·exact⟨rfl,hb⟩
def pJ (cs:List (ByteArray×List UInt8)):List ByteArray->ci->Except Int ci
 | [],it=> .ok it
 | c::r,it=>if it.kind=2 then(match gq cs it.node with
  | .error x=> .error x
  | .ok l=>match l.find? (fun y=>decide (y.name=c))with
   | none=> .error 4
   | some y=>pJ cs r y)else .error 4
def nE (root:bY):ci:=⟨⟨#[]⟩,2,0,0,0,⟨#[]⟩,[],root⟩
def lq (cs:List (ByteArray×List UInt8)) (root:bY) (path:ByteArray):Except Int ci:=
 if dH (bl path)=true/\lj root=true then pJ cs (jR (bl path)) (nE root)else .error 1
open Go Go.RowKit
def lD (w:World) (base eb:Nat) (v:Value) (acc:List dk):Prop:=
 w.heap[eb]? =some (.cells #[v] 46 (0,0))/\ ∃ys:List pX,ys.map Prod.snd=acc/\w.ownsRow base 79 6 v ys.length (jx ys)/\ ∀y∈ys,w.ownsRow base 5 1 y.1 y.2.data.length (y.2.data.map aZ)
structure sG (base eb : Nat) (v v' : Value) (w w' : World) : Prop where
 below:Below base w w'
 same: ∀k,k<w.heap.size->k≠eb->v.ownBlock≠some k->w'.heap[k]? =w.heap[k]?
 place: ∀k,v'.ownBlock=some k->v.ownBlock=some k\/w.heap.size<=k
theorem sG.refl (base eb:Nat) (v:Value) (w:World):sG base eb v v w w:=⟨ak _ _,fun _ _ _ _=>rfl,fun _ h=> .inl h⟩
theorem sG.trans {base eb:Nat} {v v1 v2:Value} {A B C:World} (h:sG base eb v v1 A B) (k:sG base eb v1 v2 B C) (hs:A.heap.size<=B.heap.size):sG base eb v v2 A C:=
 ⟨h.below.trans k.below,fun i h1 h2 h3=>(k.same i (by omega) h2 (fun e=>by
  rcases h.place i e with e2 | e2
  ·exact h3 e2
  ·omega)).trans (h.same i h1 h2 h3),fun i e=>by
  rcases k.place i e with e2 | e2
  ·exact h.place i e2
  ·exact .inr (by omega)⟩
theorem sG.ofBelow {base eb:Nat} {v:Value} {w w':World} (h:Below w.heap.size w w') (hb:base<=w.heap.size):sG base eb v v w w':=⟨h.mono hb,fun k h1 _ _=>h.block k h1,fun _ e=> .inl e⟩
theorem lD.below {w w':World} {base eb:Nat} {v:Value} {acc:List dk} (h:lD w base eb v acc) (hb:Below w.heap.size w w'):lD w' base eb v acc:=by obtain⟨h1,ys,h2,h3,h4⟩:=h;exact⟨eA hb h1,ys,h2,cY h3 hb,fun y hy=>cY (h4 y hy) hb⟩
theorem bU {w:World} {k:Nat} {cs cs':Array Value} {t t':TypeId} {z z':Nat×Nat} (h:w.heap[k]? =some (.cells cs t z)) (h':w.heap[k]? =some (.cells cs' t' z')):t=t':=by have:=h.symm.trans h';simp at this;exact this.2.1
theorem fj {w w':World} {base sz n:Nat} {e:TypeId} {v:Value} {xs:List Value} (h:w.ownsRow base e sz v n xs) (hs: ∀k,k<w.heap.size->v.ownBlock=some k->w'.heap[k]? =w.heap[k]?):w'.ownsRow base e sz v n xs:=by
 obtain⟨hl,h2⟩:=h;refine⟨hl, ?_⟩
 rcases h2 with h2 | ⟨g,cap,cur,rfl,hg,hh,h3⟩
 ·exact .inl h2
 ·exact .inr ⟨g,cap,cur,rfl,hg,(hs g (am hh) rfl).trans hh,h3⟩
theorem lD.push {w w2:World} {base eb:Nat} {v v' dv:Value} {ys:List pX} {e:dk} (hx:w.heap[eb]? =some (.cells #[v] 46 (0,0))) (hr:w.ownsRow base 79 6 v ys.length (jx ys)) (hd: ∀y∈ys,w.ownsRow base 5 1 y.1 y.2.data.length (y.2.data.map aZ)) (hn:w.ownsRow base 5 1 dv e.data.length (e.data.map aZ))
  (hown:w2.ownsRow base 79 6 v' (ys.length+1) (jx ys++vR dv e)) (hg:w.grownBy w2 v.ownBlock) (hpl: ∀k,v'.ownBlock=some k->v.ownBlock=some k\/w.heap.size<=k) (hbe:base<=eb) (hbz:base<=w.heap.size):
  lD (w2.setCell ⟨eb,0,none⟩ v') base eb v' (ys.map Prod.snd++[e])/\sG base eb v v' w (w2.setCell ⟨eb,0,none⟩ v'):=by
 have hj:=am hx;have he:v.ownBlock≠some eb:=fun h=>by obtain⟨cs,hc⟩:=bK hr h;exact absurd (bU hx hc) (by decide)
 have hb:v'.ownBlock≠some eb:=fun h=>by
  rcases hpl eb h with h | h
  ·exact he h
  ·omega
 have hf:=(hg.block eb hj (fun h=>he h.symm)).trans hx;have ha: ∀(u:Value) (bs:List UInt8),w.ownsRow base 5 1 u bs.length (bs.map aZ)->(w2.setCell ⟨eb,0,none⟩ v').ownsRow base 5 1 u bs.length (bs.map aZ):=by intro u bs h;refine fj h (fun k hk hu=> ?_);obtain⟨cs,hc⟩:=bK h hu;rw[az _ _ _ _ (show k≠eb from fun e=>absurd (bU (e▸hc) hx) (by decide))];refine hg.block k hk (fun e=> ?_);obtain⟨cs2,hh⟩:=bK hr e.symm;exact absurd (bU hc hh) (by decide)
 refine⟨⟨?_,ys++[(dv,e)],by simp, ?_,fun y hy=> ?_⟩,⟨?_,fun k hk h1 h2=> ?_,hpl⟩⟩
 ·have:=jb (k:=0) hf v'
  simpa using this
 ·rw[ai,bT,xk];exact hown.kept (cJ _ _ _ _) (.inr (fun h=>hb h))
 ·rcases aP.1 hy with hy | hy
  ·exact ha _ _ (hd y hy)
  ·rw[aL]at hy;subst hy;exact ha _ _ hn
 ·exact((ak base w).grown hg hbz (fun k hk=>(hr.lt k hk).1)).grown (cJ w2 eb 0 v') (an hbz hg.size) (fun k hk=>by cases hk; exact hbe)
 ·rw[az _ _ _ _ (show k≠eb from h1)];exact hg.block k hk (fun e=>h2 e.symm)
structure vQ (w : World) (h5 h6 base eb : Nat) (v itv : Value) (l : List ci) (wr : World) (v2 : Value) (acc : List dk) : Prop where
 box:lD wr base eb v2 acc
 kp:sG base eb v v2 w wr
 apart: ∀k,v2.ownBlock=some k->k<h5\/h6<=k
 lo:eb<h5
 ord:w.heap.size<=h5/\h5<=h6/\h6<=wr.heap.size
 its:eO (fun k=>h5<=k/\k<h6) wr itv l
theorem vQ.step {w wr w':World} {h5 h6 base eb:Nat} {v itv v2 v3:Value} {l:List ci} {acc acc3:List dk} (h:vQ w h5 h6 base eb v itv l wr v2 acc) (h1:lD w' base eb v3 acc3) (h2:sG base eb v2 v3 wr w'):vQ w h5 h6 base eb v itv l w' v3 acc3:=by
 have ho:=h.ord;have hl:=h.lo;have hz:=h2.below.size;refine⟨h1,h.kp.trans h2 (by omega),fun k hk=> ?_,hl,⟨ho.1,ho.2.1,by omega⟩,h.its.same (fun k hk hS=>h2.same k hk (by omega) (fun e=> ?_))⟩
 ·rcases h2.place k hk with e | e
  ·exact h.apart k e
  ·exact .inr (by omega)
 ·have:=h.apart k e;omega
theorem vQ.below {w wr w':World} {h5 h6 base eb:Nat} {v itv v2:Value} {l:List ci} {acc:List dk} (h:vQ w h5 h6 base eb v itv l wr v2 acc) (hb:Below wr.heap.size wr w') (hbz:base<=wr.heap.size):vQ w h5 h6 base eb v itv l w' v2 acc:=
 h.step (h.box.below hb) (sG.ofBelow hb hbz)
theorem vK {w:World} {b:Nat} {a0 a1 a2 x0 x1 x2:Value} {t:TypeId} (h:w.heap[b]? =some (.cells #[a0,a1,a2] t (0,0))):
  (((w.setCell ⟨b,0,none⟩ x0).setCell ⟨b,1,none⟩ x1).setCell ⟨b,2,none⟩ x2).heap[b]? =some (.cells #[x0,x1,x2] t (0,0)):=by
 have:=jb (k:=2) (jb (k:=1) (jb (k:=0) h x0) x1) x2
 simpa using this
theorem Jm {w:World} {b:Nat} {a0 a1 a2 a3 a4 a5 a6 a7 a8 a9 x0 x1 x2 x3 x4 x5 x6 x7 x8 x9:Value} {t:TypeId} (h:w.heap[b]? =some (.cells #[a0,a1,a2,a3,a4,a5,a6,a7,a8,a9] t (0,0))):
  ((((((((((w.setCell ⟨b,0,none⟩ x0).setCell ⟨b,1,none⟩ x1).setCell ⟨b,2,none⟩ x2).setCell ⟨b,3,none⟩ x3).setCell ⟨b,4,none⟩ x4).setCell ⟨b,5,none⟩ x5).setCell ⟨b,6,none⟩ x6).setCell ⟨b,7,none⟩ x7).setCell ⟨b,8,none⟩ x8).setCell ⟨b,9,none⟩ x9).heap[b]? =some (.cells #[x0,x1,x2,x3,x4,x5,x6,x7,x8,x9] t (0,0)):=by
 have:=jb (k:=9) (jb (k:=8) (jb (k:=7) (jb (k:=6) (jb (k:=5) (jb (k:=4) (jb (k:=3) (jb (k:=2) (jb (k:=1) (jb (k:=0) (h) x0) x1) x2) x3) x4) x5) x6) x7) x8) x9
 simpa using this
theorem iu {B b:Nat} {a w:World} {x0 x1 x2:Value} (h:Below B a w) (hb:B<=b):Below B a (((w.setCell ⟨b,0,none⟩ x0).setCell ⟨b,1,none⟩ x1).setCell ⟨b,2,none⟩ x2):=(cz (cz (cz h hb x0) hb x1) hb x2)
theorem jv {B b:Nat} {a w:World} {x0 x1 x2 x3 x4 x5 x6 x7 x8 x9:Value} (h:Below B a w) (hb:B<=b):Below B a ((((((((((w.setCell ⟨b,0,none⟩ x0).setCell ⟨b,1,none⟩ x1).setCell ⟨b,2,none⟩ x2).setCell ⟨b,3,none⟩ x3).setCell ⟨b,4,none⟩ x4).setCell ⟨b,5,none⟩ x5).setCell ⟨b,6,none⟩ x6).setCell ⟨b,7,none⟩ x7).setCell ⟨b,8,none⟩ x8).setCell ⟨b,9,none⟩ x9):=(cz (cz (cz (cz (cz (cz (cz (cz (cz (cz h hb x0) hb x1) hb x2) hb x3) hb x4) hb x5) hb x6) hb x7) hb x8) hb x9)
theorem eB {b k:Nat} {w:World} {x0 x1 x2:Value} (hk:k≠b):(((w.setCell ⟨b,0,none⟩ x0).setCell ⟨b,1,none⟩ x1).setCell ⟨b,2,none⟩ x2).heap[k]? =w.heap[k]? :=(az _ _ _ _ hk).trans ((az _ _ _ _ hk).trans (az _ _ _ _ hk))
theorem qg {b k:Nat} {w:World} {x0 x1 x2 x3 x4 x5 x6 x7 x8 x9:Value} (hk:k≠b):((((((((((w.setCell ⟨b,0,none⟩ x0).setCell ⟨b,1,none⟩ x1).setCell ⟨b,2,none⟩ x2).setCell ⟨b,3,none⟩ x3).setCell ⟨b,4,none⟩ x4).setCell ⟨b,5,none⟩ x5).setCell ⟨b,6,none⟩ x6).setCell ⟨b,7,none⟩ x7).setCell ⟨b,8,none⟩ x8).setCell ⟨b,9,none⟩ x9).heap[k]? =w.heap[k]? :=(az _ _ _ _ hk).trans ((az _ _ _ _ hk).trans ((az _ _ _ _ hk).trans ((az _ _ _ _ hk).trans ((az _ _ _ _ hk).trans ((az _ _ _ _ hk).trans ((az _ _ _ _ hk).trans ((az _ _ _ _ hk).trans ((az _ _ _ _ hk).trans (az _ _ _ _ hk)))))))))
def xy (c:ByteArray):List ci->Nat->Int
 | [],_=> -1
 | x::t,k=>if x.name=c then(k:Int)else xy c t (k+1)
theorem Af {c:ByteArray} {l:List ci} {k:Nat} {x:ci} (h:l[k]? =some x):xy c (l.drop k) k=if x.name=c then(k:Int)else xy c (l.drop (k+1)) (k+1):=by obtain⟨hk,rfl⟩:=aA.1 h;rw[cD hk,xy]
theorem Ag (c:ByteArray): ∀(l:List ci) (k:Nat),(l.find? (fun y=>decide (y.name=c))=none/\xy c l k= -1)\/ ∃(j:Nat) (y:ci),l[j]? =some y/\l.find? (fun y=>decide (y.name=c))=some y/\xy c l k=((k+j:Nat):Int)
 | [],_=> .inl ⟨rfl,rfl⟩
 | x::t,k=>by
  by_cases h:x.name=c
  ·exact .inr ⟨0,x,rfl,by rw[List.find?_cons_of_pos (by simp[h])],by rw[xy,if_pos h]; rfl⟩
  ·rw[List.find?_cons_of_neg (by simp[h]),xy,if_neg h]
   rcases Ag c t (k+1)with⟨h1,h2⟩ | ⟨j,y,h1,h2,h3⟩
   ·exact .inl ⟨h1,h2⟩
   ·exact .inr ⟨j+1,y,by simpa using h1,h2,by rw[h3]; congr 1; omega⟩
theorem Ar (it:ci) (cv:Value) (c:ByteArray) (pb:Nat) (w:World) (hc:w.cell? ⟨pb,0,none⟩=some (.string c)):
  Calls Tryz.prog 85 #[sC cv it, .pointer (some ⟨pb,0,none⟩)] w fun e w'=>e= .returned (.bool (decide (it.name=c)))/\Below w.heap.size w w':=by
 have ha:=cR hc;simp only at ha;have hb: ¬pb=w.heap.size:=by omega
 unfold sC
 go_enter Tryz.func85,Tryz.ntmps85
 go_wp2_with fail;go_ret;refine⟨cj ?_,eT⟩;rw[dy];simp only[fF,kf,aG];exact⟨fun h=>kF h,fun h=>by rw[h]⟩
theorem yX (S:Nat->Prop) (l:List ci) (c:ByteArray) (pb:Nat) (v:Value) (w:World) (hv:eO S w v l) (hc:w.cell? ⟨pb,0,none⟩=some (.string c)):
  Calls Tryz.prog 84 #[v, .func (.func 85) #[] #[.pointer (some ⟨pb,0,none⟩)]] w fun e w'=>e= .returned (.int .i64 (xy c l 0))/\Below w.heap.size w w':=by
 obtain⟨a,cap,rfl,ho,hm,-⟩:=cU.shape hv lm.len;unfold maxLen at hm;have HV:=ag hv;have HC:=ag hc;clear hv hc
 go_enter Tryz.func84,Tryz.ntmps84
 go_wp2_with fail
 go_loopw [8] (fun i wr=> ∃k:Nat,k<=l.length/\i= .int .i64 k/\Below w.heap.size w wr/\xy c l 0=xy c (l.drop k) k) (fun i _=>l.length-(intOf i).toNat)
 ·exact⟨0,aR _,rfl,ak _ _,rfl⟩
 ·obtain⟨k,hk,rfl,hb,hd⟩:=hrel;have HB:=ag hb;have HD:=ag hd;clear hb hd
  by_cases hl:k<l.length
  ·obtain⟨it,hr⟩: ∃it,l[k]? =some it:=⟨l[k],by simp[hl]⟩;obtain⟨b,o,ca,cc,rfl,-,-,hn,-,ha⟩:=lR HV.o HB.o hr;have q0:=ha 0 (by omega);have q1:=ha 1 (by omega);have q2:=ha 2 (by omega);have q3:=ha 3 (by omega);have q4:=ha 4 (by omega);have q5:=ha 5 (by omega);have q6:=ha 6 (by omega);have q7:=ha 7 (by omega);have q8:=ha 8 (by omega);have q9:=ha 9 (by omega)
   simp only[fu,aD,cI,dh]at q0 q1 q2 q3 q4 q5 q6 q7 q8 q9;have hj:=ag ((HB.o.cell (p:=⟨pb,0,none⟩) (cR HC.o)).trans HC.o);have HR:=ag hr;clear ha hr
   by_cases hg:it.name=c
   ·have he:=ag hg;clear hg;go_wp2_with (go_at_call 85; refine(Ar it (.slice ca it.chunks.length cc) c pb _ hj.o).mono ?_; rintro e w1 ⟨rfl,hf⟩; rw[de he.o]; have hh:=ag hf; clear hf);go_ret;exact⟨dK (by rw[HD.o,Af HR.o,if_pos he.o]),aj HB.o hh.o⟩
   ·have he:=ag hg;clear hg;go_wp2_with (go_at_call 85; refine(Ar it (.slice ca it.chunks.length cc) c pb _ hj.o).mono ?_; rintro e w1 ⟨rfl,hf⟩; rw[cE he.o]; have hh:=ag hf; clear hf)
    go_roundw
    ·exact⟨k+1,by omega,by go_num,aj HB.o hh.o,by rw[HD.o,Af HR.o,if_neg he.o]⟩
    simp[intOf]; omega
  ·go_wp2_with fail;go_ret;exact⟨dK (by rw[HD.o,ee (by omega)]; rfl),HB.o⟩
end
section
open Go.RowKit
theorem CV (a:Option Addr) (c:Nat) (w:World):(convert 29 9 (.slice a 0 c)).run Tryz.prog w= .ok (.string ⟨#[]⟩) w:=by cases a<;> kernel_rfl
theorem JR {S:Nat->Prop} {w:World} {v:Value} {bs:List UInt8} (hd:eD S w v bs):(convert 29 9 v).run Tryz.prog w= .ok (.string (strOfNums (bs.map fun b=>(b.toNat:Int)))) w:=by
 obtain⟨_,a,cap,rfl,hn,hm,h0⟩:=hd
 rcases h0 with h0 | ⟨b,o,rfl,_,hc⟩
 ·obtain rfl:=bq h0;exact CV a cap w
 ·exact run_convert_bytes_arg (P:=Tryz.prog) w 29 5 cV Tryz.underlying5 b o bs.length cap (bs.map fun b=>(b.toNat:Int)) (by simp) (fun i hi=>by rw[hc i (u8V bs[i]) (by simp[hi])];simp[u8V,List.getD,hi]) 9 eo
open Go.RowKit Go.Maps
theorem lu (p q:ByteArray) (w:World) (he:nJ w) (hv:dH (bl p)=true) (hq:q=⟨(cu (bl p)).toArray⟩):
  Calls Tryz.prog 72 #[.string p] w fun e w'=>e= .returned (.tuple #[.string q, .bool true])/\Below w.heap.size w w':=by
 rw[hq]; exact Gc p w he hv
theorem oJ (q:ByteArray):q.toList.isEmpty=decide (bl q=[]):=by rw[fF,dy]; simp
theorem rY (S:Nat->Prop) (en:dk) (v:Value) (b:Bool) (w:World) (hd:eD S w v en.data) (hok:nu en) (henv:nJ w) (h:ij en=b):Calls Tryz.prog 117 #[JW v en] w fun e w'=>e= .returned (.bool b)/\Below w.heap.size w w':=by rw[<-h]; exact GN S en v w hd hok henv
theorem zJ : ∀ {m pre:List dk} (r:List dk),Tr (pre++m)->pj pre (m++r)=pj (pre++m) r
 | [],pre,r,_=>by simp
 | e::m,pre,r,h=>by have h1:Tr (pre++[e]):=Tr.pre (M:=m) (by simpa using h);have h2:=(qN h1.pre e).2 h1;have h3:=zJ (m:=m) (pre:=pre++[e]) r (by simpa using h);rw[aK,pj,if_pos h2,h3];simp
theorem CK {L:List dk} (hl:L.length<=4096) {k:Nat} (h:Tr (L.take k)):iJ L=pj (L.take k) (L.drop k):=by have h1:=zJ (m:=L.take k) (pre:=[]) (L.drop k) (by simpa using h);rw[dA,aJ]at h1;unfold iJ;rw[if_neg (by omega),h1]
theorem zS {α:Type} {L:List α} {k:Nat} {e:α} (h:L[k]? =some e):L.drop k=e::L.drop (k+1):=by obtain⟨h1,h2⟩:=aA.1 h;rw[cD h1,h2]
theorem jG {L:List dk} (hl:L.length<=4096) {k:Nat} (h:Tr (L.take k)) {e:dk} (he:L[k]? =some e) {x:Int} (hx:gm (L.take k) e=x) (h0:x≠0):iJ L=x:=by rw[CK hl h,zS he,pj,hx,if_neg h0]
theorem mC {L:List dk} {k:Nat} (h:Tr (L.take k)) {e:dk} (he:L[k]? =some e) (hx:gm (L.take k) e=0):Tr (L.take (k+1)):=by rw[cw,he];exact(qN h e).1 hx
theorem wN {L:List dk} (hl:L.length<=4096) (h:Tr (L.take L.length)):iJ L=0:=by rw[CK hl h,jh]; rfl
theorem zK {L:List dk} (hl:4096<L.length):iJ L=2:=by unfold iJ; rw[if_pos hl]
def xH (e:dk):Value×Value:=(.string e.path, .int .i64 e.kind)
theorem lr :Tryz.prog.underlying 47=some (.map 9 3):=Tryz.underlying47
theorem FR (w:World) (n:Nat) (hn:n<=4096):(Instr.makeMap 47 (some (.int .i64 (n:Int)))).run Tryz.prog w= .ok (.map (some w.heap.size)) (w.alloc (.map #[] 0)):=by
 have h1:IntKind.i64.wrap (n:Int)=n:=by rw[bI]; omega
 simp[Instr.makeMap,asInt,asIntOf]
theorem rM {w:World} {mb:Nat} {M:List dk} (h:iQ Tryz.prog 9 w mb (M.map xH)) {p:ByteArray} (hp:p.size<=maxLen) {f:dk} (hf:jJ M p=some f):
  (Instr.lookup 47 (.map (some mb)) (.string p) true).run Tryz.prog w= .ok (.tuple #[.int .i64 f.kind, .bool true]) w:=by
 obtain⟨h1,h2⟩:=sQ hf;have h3:(Value.string p,Value.int .i64 f.kind)∈M.map xH:=aQ.2 ⟨f,h1,by rw[<-h2]; rfl⟩;have:=h.is.hit gB lr (iL hp) h3 true
 simpa only[if_true]using this
theorem xI {w:World} {mb:Nat} {M:List dk} (h:iQ Tryz.prog 9 w mb (M.map xH)) {p:ByteArray} (hp:p.size<=maxLen) (hf:jJ M p=none):
  (Instr.lookup 47 (.map (some mb)) (.string p) true).run Tryz.prog w= .ok (.tuple #[.int .i64 0, .bool false]) w:=by
 have hz:(zeroValue 3).run Tryz.prog w= .ok (.int .i64 0) w:=by kernel_rfl
 have:=h.is.miss gB lr hz (iL hp) (fun q hq e=>by obtain⟨x,hx,rfl⟩:=aQ.1 hq;simp only[xH,eJ]at e;exact xp hf x hx e) true
 simpa only[if_true]using this
theorem rN {M:List dk} {e:dk} (h:Tr (M++[e])): ∀q∈M.map xH,q.1≠Value.string e.path:=by intro q hq hc;obtain⟨x,hx,rfl⟩:=aQ.1 hq;simp only[xH,eJ]at hc;have hn:=h.ord.nodup;rw[aI,dX]at hn;exact hn.2.2 x.path (aQ.2 ⟨x,hx,rfl⟩) e.path (by simp) hc
theorem zO (a b:ByteArray) (o:Int) (w:World) (ha:a.size<=maxLen) (h:fA (bl a) (bl b)=o):Calls Tryz.prog 118 #[.string a, .string b] w fun e w'=>e= .returned (.int .i64 o)/\Below w.heap.size w w':=by rw[<-h]; exact CT a b w (by unfold maxLen at ha; omega)
theorem Cz {L:List dk} {k:Nat} {f e:dk} (hf:L[k]? =some f):nP (L.take (k+1)) e=decide (fA (bl f.path) (bl e.path)<0):=by
 have:(L.take (k+1)).getLast? =some f:=by rw[cw,hf]; simp
 unfold nP;rw[this]; rfl
def Qq (L:List dk) (mb:Nat) (w:World) (k:Nat) (wr:World):Prop:=Tr (L.take k)/\iQ Tryz.prog 9 wr mb ((L.take k).map xH)/\Below w.heap.size w wr
theorem JM (S:Nat->Prop) (L:List dk) (v:Value) (w:World) (hv:eR S w v L) (henv:nJ w):Calls Tryz.prog 71 #[v] w fun e w'=>e= .returned (.int .i64 (iJ L))/\Below w.heap.size w w':=by
 have HV:=ag hv;have HE:=ag henv;obtain⟨a,cap,rfl,hc,hm,-⟩:=cU.shape hv mu.len;unfold maxLen at hm;obtain⟨n,hn⟩:=bH L.length;have HN:=ag hn;rw[<-hn]at hc HV ⊢;clear hv henv
 by_cases hU:4096<n
 ·have Hk:(4096:Int)<(n:Int):=by omega
  have HC:=ag (zK (by rw[<-hn]; exact hU));clear hU hn
  go_enter Tryz.func71,Tryz.ntmps71
  go_wp2_with fail;go_ret;exact⟨dK (by rw[HC.o]),ak _ _⟩
 ·have Hk:(n:Int)<=(4096:Int):=by omega
  have Hp:=FR w n (by omega);have hT:=ag (show L.length<=4096 by omega);clear hU hn
  go_enter Tryz.func71,Tryz.ntmps71
  go_wp2_with fail;obtain⟨W0,h9⟩:=bH (w.alloc (.map #[] 0));rw[<-h9];have Hj:=ag (show iQ Tryz.prog 9 W0 w.heap.size [] by rw[h9]; exact iQ.made w);have Hi:=ag (show Below w.heap.size w W0 by rw[h9]; exact eT);clear h9;clear Hp
  go_loopw [18] (fun i wr=> ∃k:Nat,k<=n/\i= .int .i64 k/\Qq L w.heap.size w k wr) (fun i _=>n-(intOf i).toNat)
  ·exact⟨0,aR _,rfl,⟨fy,by simp,by simp⟩,Hj.o,Hi.o⟩
  ·obtain⟨k,hk,rfl,Hh,Hf,Hd⟩:=hrel;have hI:=ag Hh;have hw:=ag Hf;have hJ:=ag Hd;clear Hh Hf Hd
   by_cases Ho:k<n
   ·obtain⟨e,he⟩: ∃e,L[k]? =some e:=⟨L[k]'(by rw[<-HN.o]; exact Ho),by simp⟩;obtain⟨b,o,dv,rfl,-,hb,hd,Hg,-,q0,q1,q2,q3,q4,q5⟩:=jN (HV.o.below hJ.o) he;have hp:=ag he;have HD:=ag hd;have hO:=ag Hg;obtain⟨a1,cap1,rfl,Hq,Hl⟩:=hd.slice;unfold maxLen at Hl;clear he hd Hg
    cases hV:ij e
    ·have hB:=ag hV;have hG:=ag (show gm (L.take k) e=1 by unfold gm; rw[hV]; rfl);clear hV;go_wp2_with fail;obtain⟨W,hW⟩:=bH (wr.alloc (.cells #[.string e.path, .int .i64 e.kind, .int .i64 e.mode, .int .i64 e.time, .slice a1 e.data.length cap1, .string e.link] 79));rw[<-hW];have HX:=ag (show W.heap[wr.heap.size]? =some (.cells #[.string e.path, .int .i64 e.kind, .int .i64 e.mode, .int .i64 e.time, .slice a1 e.data.length cap1, .string e.link] 79 (0,0)) by rw[hW]; exact ez wr _)
     have hu:=ag (show Below wr.heap.size wr W by rw[hW]; exact eT);have hM:=ag (aj hJ.o hu.o);clear hW;refine(rY S e _ false _ (HD.o.below hu.o) hO.o (HE.o.below hM.o) hB.o).mono ?_;rintro e7 w7 ⟨rfl,hE⟩;have hg:=ag (aj hM.o hE);clear hE;go_wp2_with fail;go_ret;exact⟨dK (by rw[jG hT.o hI.o hp.o (x:=1) hG.o (by decide)]),hg.o⟩
    ·have hB:=ag hV;obtain⟨q,hq⟩: ∃q:ByteArray,q=⟨(cu (bl e.path)).toArray⟩:=⟨_,rfl⟩;have hZ:=ag (show bl q=cu (bl e.path) by rw[hq]; exact jQ _);have HQ:=ag hq;have hX:=ag (show q.size<=maxLen by have h1:=fL (dm hV);have h2:=mM (dm hV);rw[bi,hZ.o]; unfold maxLen; omega)
     clear hV hq
     rcases eI k with Ha | Ha
     ·have e9:decide (0<k)=false:=by simp; omega
      have e8:(k:Int)<=0:=by omega
      have h3:=ag (show(ij e && nP (L.take k) e)=true by rw[Ha,hB.o]; rfl);clear Ha;go_wp2_with fail;obtain⟨W,hW⟩:=bH (wr.alloc (.cells #[.string e.path, .int .i64 e.kind, .int .i64 e.mode, .int .i64 e.time, .slice a1 e.data.length cap1, .string e.link] 79));rw[<-hW];have HX:=ag (show W.heap[wr.heap.size]? =some (.cells #[.string e.path, .int .i64 e.kind, .int .i64 e.mode, .int .i64 e.time, .slice a1 e.data.length cap1, .string e.link] 79 (0,0)) by rw[hW]; exact ez wr _)
      have hu:=ag (show Below wr.heap.size wr W by rw[hW]; exact eT);have hM:=ag (aj hJ.o hu.o);clear hW;refine(rY S e _ true _ (HD.o.below hu.o) hO.o (HE.o.below hM.o) hB.o).mono ?_;rintro e7 w7 ⟨rfl,hE⟩;have hP:=ag ((hE.block wr.heap.size (ml HX.o)).trans HX.o);have hN:=ag (hu.o.trans (hE.mono hu.o.size));obtain⟨c0,c1,c2,c3,c4,c5,_⟩:=aT hP.o
      clear hE;go_wp2_with fail;refine bL [some 11,none,some 2] (by kernel_rfl) (by kernel_rfl) (by kernel_rfl) ?_;simp only[ef,aS,aY,bA,bQ];obtain⟨wd,hF⟩:=bH w7.drew;rw[<-hF];have hL:=ag (show Below wr.heap.size wr wd by rw[hF]; exact hN.o.trans ((ak w7.heap.size w7).drew.mono hN.o.size))
      have hR:=ag (show wd.heap[wr.heap.size]? =some (.cells #[.string e.path, .int .i64 e.kind, .int .i64 e.mode, .int .i64 e.time, .slice a1 e.data.length cap1, .string e.link] 79 (0,0)) by rw[hF]; exact hP.o);clear hF c0 c1 c2 c3 c4 c5;obtain⟨c0,c1,c2,c3,c4,c5,_⟩:=aT hR.o
      repeat (first | (refine cy rfl ?_; simp only[bM]) | (refine cP rfl (fun K hK=> ?_); go_simp; refine hK _ ?_; clear hK K))
      refine cO ?_;refine wI rfl ?_;simp only[bM]
      repeat (first | (refine cy rfl ?_; simp only[bM]) | (refine cP rfl (fun K hK=> ?_); go_simp; refine hK _ ?_; clear hK K))
      refine cO ?_;clear c0 c1 c2 c3 c4 c5;have hl:=ag hL.o;have ho:=ag hR.o;have hr:=ag (aj hJ.o hL.o);obtain⟨c0,c1,c2,c3,c4,c5,_⟩:=aT ho.o;go_wp2_with fail
      by_cases h0:cu (bl e.path)=[]
      ·have e1:q.toList.isEmpty=true:=by rw[oJ,hZ.o,de h0]
       have hH:=ag (mC hI.o hp.o (show gm (L.take k) e=0 by unfold gm; rw[if_pos h3.o]; unfold mD; rw[if_pos h0]));clear h0;refine(lu e.path q _ (HE.o.below hr.o) (dm hB.o) HQ.o).mono ?_;rintro e9 w9 ⟨rfl,ha⟩;have hz:=ag (hl.o.trans (ha.mono hl.o.size));have hg:=ag (aj hr.o ha);have hC:=ag ((ha.block wr.heap.size (ml ho.o)).trans ho.o)
       have hs:=ag (hw.o.same (hz.o.block w.heap.size hw.o.lt));clear ha;obtain⟨c0,c1,c2,c3,c4,c5,_⟩:=aT hC.o;go_wp2_with (at_mapUpdate; go_must (refine kO gB rfl _ _ _ _ rfl lr w.heap.size _ hs.o rfl (.string e.path) (.int .i64 e.kind) rfl rfl (iL hO.o.pth) (rN (by have h1:=hH.o; rw[cw,hp.o]at h1; exact h1)) ?_); intro w10 hj hh)
       have hA:=ag hj;have hy:=ag hh;clear hj hh c0 c1 c2 c3 c4 c5;go_wp2_with fail
       go_roundw
       ·refine⟨k+1,by omega,by go_num,hH.o, ?_, ?_⟩
        ·rw[cw,hp.o,aI]; exact hA.o
        ·exact hg.o.grown hy.o hg.o.size (fun k e=>by cases e; exact ah _)
       simp[intOf]; omega
      ·have e1:q.toList.isEmpty=false:=by rw[oJ,hZ.o,cE h0]
       have hS:=ag (show ∀x,(match jJ (L.take k) q with | none=>(4:Int) | some f=>if f.kind=2 then 0 else 13)=x->gm (L.take k) e=x from fun x hx=>by unfold gm; rw[if_pos h3.o]; unfold mD; rw[if_neg h0,<-HQ.o]; exact hx);clear h0
       cases hf:jJ (L.take k) q with
       | none=>
        have HF:=ag hf;have hG:=ag (hS.o 4 (by rw[hf]));clear hf;refine(lu e.path q _ (HE.o.below hr.o) (dm hB.o) HQ.o).mono ?_;rintro e9 w9 ⟨rfl,ha⟩;have hz:=ag (hl.o.trans (ha.mono hl.o.size));have hg:=ag (aj hr.o ha);have hC:=ag ((ha.block wr.heap.size (ml ho.o)).trans ho.o);have hs:=ag (hw.o.same (hz.o.block w.heap.size hw.o.lt));clear ha
        obtain⟨c0,c1,c2,c3,c4,c5,_⟩:=aT hC.o;have h4:=xI hs.o hX.o HF.o;go_wp2_with fail;go_ret;exact⟨dK (by rw[jG hT.o hI.o hp.o (x:=4) hG.o (by decide)]),hg.o⟩
       | some f=>
        have HF:=ag hf
        by_cases hD:f.kind=2
        ·have e3:(f.kind != 2)=false:=by simp[hD]
         have hH:=ag (mC hI.o hp.o (hS.o 0 (by rw[hf]; simp only[if_pos hD])));clear hf hD;refine(lu e.path q _ (HE.o.below hr.o) (dm hB.o) HQ.o).mono ?_;rintro e9 w9 ⟨rfl,ha⟩;have hz:=ag (hl.o.trans (ha.mono hl.o.size));have hg:=ag (aj hr.o ha);have hC:=ag ((ha.block wr.heap.size (ml ho.o)).trans ho.o);have hs:=ag (hw.o.same (hz.o.block w.heap.size hw.o.lt))
         clear ha;obtain⟨c0,c1,c2,c3,c4,c5,_⟩:=aT hC.o;have h4:=rM hs.o hX.o HF.o;go_wp2_with (at_mapUpdate; go_must (refine kO gB rfl _ _ _ _ rfl lr w.heap.size _ hs.o rfl (.string e.path) (.int .i64 e.kind) rfl rfl (iL hO.o.pth) (rN (by have h1:=hH.o; rw[cw,hp.o]at h1; exact h1)) ?_); intro w10 hj hh);have hA:=ag hj
         have hy:=ag hh;clear hj hh c0 c1 c2 c3 c4 c5;go_wp2_with fail
         go_roundw
         ·refine⟨k+1,by omega,by go_num,hH.o, ?_, ?_⟩
          ·rw[cw,hp.o,aI]; exact hA.o
          ·exact hg.o.grown hy.o hg.o.size (fun k e=>by cases e; exact ah _)
         simp[intOf]; omega
        ·have e3:(f.kind != 2)=true:=by simp[hD]
         have hG:=ag (hS.o 13 (by rw[hf]; simp only[if_neg hD]));clear hf hD;refine(lu e.path q _ (HE.o.below hr.o) (dm hB.o) HQ.o).mono ?_;rintro e9 w9 ⟨rfl,ha⟩;have hz:=ag (hl.o.trans (ha.mono hl.o.size));have hg:=ag (aj hr.o ha);have hC:=ag ((ha.block wr.heap.size (ml ho.o)).trans ho.o);have hs:=ag (hw.o.same (hz.o.block w.heap.size hw.o.lt))
         clear ha;obtain⟨c0,c1,c2,c3,c4,c5,_⟩:=aT hC.o;have h4:=rM hs.o hX.o HF.o;go_wp2_with fail;go_ret;exact⟨dK (by rw[jG hT.o hI.o hp.o (x:=13) hG.o (by decide)]),hg.o⟩
     ·obtain⟨j,rfl⟩: ∃j,k=j+1:=⟨k-1,by omega⟩;obtain⟨f,hf⟩: ∃f,L[j]? =some f:=⟨L[j]'(by rw[<-HN.o]; omega),by simp⟩;obtain⟨b',o',dv',He,-,-,-,h8,-,p0,-⟩:=jN (HV.o.below hJ.o) hf;simp only[aV,iK,and_true]at He;obtain⟨rfl,rfl⟩:=He;have Hc:=ag h8.pth;obtain⟨c,hc⟩: ∃c,fA (bl f.path) (bl e.path)=c:=⟨_,rfl⟩
      have HC:=ag hc;have e9:decide (0<j+1)=true:=by simp
      have Hr:j<n:=by omega
      have Hm:(j:Int)<(n:Int):=by omega
      have Hn:decide (j<n)=true:=by simp; omega
      have Hs:IntKind.i64.wrap (j:Int)=j:=by rw[bI]; omega
      have Hb:=ag (show nP (L.take (j+1)) e=decide (c<0) by rw[Cz hf,hc]);clear hf h8 hc Ha
      by_cases h7:c<0
      ·have h3:=ag (show(ij e && nP (L.take (j+1)) e)=true by rw[hB.o,Hb.o,de h7]; rfl);have e8:decide (0<=c)=false:=by simp; omega
       go_wp2_with fail;obtain⟨W,hW⟩:=bH (wr.alloc (.cells #[.string e.path, .int .i64 e.kind, .int .i64 e.mode, .int .i64 e.time, .slice a1 e.data.length cap1, .string e.link] 79));rw[<-hW];have HX:=ag (show W.heap[wr.heap.size]? =some (.cells #[.string e.path, .int .i64 e.kind, .int .i64 e.mode, .int .i64 e.time, .slice a1 e.data.length cap1, .string e.link] 79 (0,0)) by rw[hW]; exact ez wr _)
       have hu:=ag (show Below wr.heap.size wr W by rw[hW]; exact eT);have hM:=ag (aj hJ.o hu.o);clear hW;refine(rY S e _ true _ (HD.o.below hu.o) hO.o (HE.o.below hM.o) hB.o).mono ?_;rintro e7 w7 ⟨rfl,hE⟩;have hP:=ag ((hE.block wr.heap.size (ml HX.o)).trans HX.o);have hN:=ag (hu.o.trans (hE.mono hu.o.size));obtain⟨c0,c1,c2,c3,c4,c5,_⟩:=aT hP.o
       clear hE;go_wp2_with fail;refine bL [some 11,none,some 2] (by kernel_rfl) (by kernel_rfl) (by kernel_rfl) ?_;simp only[ef,aS,aY,bA,bQ];obtain⟨wd,hF⟩:=bH w7.drew;rw[<-hF];have hL:=ag (show Below wr.heap.size wr wd by rw[hF]; exact hN.o.trans ((ak w7.heap.size w7).drew.mono hN.o.size))
       have hR:=ag (show wd.heap[wr.heap.size]? =some (.cells #[.string e.path, .int .i64 e.kind, .int .i64 e.mode, .int .i64 e.time, .slice a1 e.data.length cap1, .string e.link] 79 (0,0)) by rw[hF]; exact hP.o);clear hF c0 c1 c2 c3 c4 c5;obtain⟨c0,c1,c2,c3,c4,c5,_⟩:=aT hR.o;have y0:=(hL.o.cell (cR p0)).trans p0
       repeat (first | (refine cy rfl ?_; simp only[bM]) | (refine cP rfl (fun K hK=> ?_); go_simp; refine hK _ ?_; clear hK K))
       refine cO ?_;refine eE rfl (fun K hK=> ?_);go_wp2_with (go_at_call 118; refine(zO f.path e.path c _ Hc.o HC.o).mono ?_; rintro e8' w8 ⟨rfl,hY⟩; have hl:=ag (hL.o.trans (hY.mono hL.o.size)); have ho:=ag ((hY.block wr.heap.size (ml hR.o)).trans hR.o); clear hY c0 c1 c2 c3 c4 c5 y0)
       repeat (first | (refine cy rfl ?_; simp only[bM]) | (refine cP rfl (fun K hK=> ?_); go_simp; refine hK _ ?_; clear hK K))
       refine cO ?_;have hr:=ag (aj hJ.o hl.o);obtain⟨c0,c1,c2,c3,c4,c5,_⟩:=aT ho.o;go_wp2_with fail
       by_cases h0:cu (bl e.path)=[]
       ·have e1:q.toList.isEmpty=true:=by rw[oJ,hZ.o,de h0]
        have hH:=ag (mC hI.o hp.o (show gm (L.take (j+1)) e=0 by unfold gm; rw[if_pos h3.o]; unfold mD; rw[if_pos h0]));clear h0;refine(lu e.path q _ (HE.o.below hr.o) (dm hB.o) HQ.o).mono ?_;rintro e9 w9 ⟨rfl,ha⟩;have hz:=ag (hl.o.trans (ha.mono hl.o.size));have hg:=ag (aj hr.o ha);have hC:=ag ((ha.block wr.heap.size (ml ho.o)).trans ho.o)
        have hs:=ag (hw.o.same (hz.o.block w.heap.size hw.o.lt));clear ha;obtain⟨c0,c1,c2,c3,c4,c5,_⟩:=aT hC.o;go_wp2_with (at_mapUpdate; go_must (refine kO gB rfl _ _ _ _ rfl lr w.heap.size _ hs.o rfl (.string e.path) (.int .i64 e.kind) rfl rfl (iL hO.o.pth) (rN (by have h1:=hH.o; rw[cw,hp.o]at h1; exact h1)) ?_); intro w10 hj hh)
        have hA:=ag hj;have hy:=ag hh;clear hj hh c0 c1 c2 c3 c4 c5;go_wp2_with fail
        go_roundw
        ·refine⟨j+1+1,by omega,by go_num,hH.o, ?_, ?_⟩
         ·rw[cw,hp.o,aI]; exact hA.o
         ·exact hg.o.grown hy.o hg.o.size (fun k e=>by cases e; exact ah _)
        simp[intOf]; omega
       ·have e1:q.toList.isEmpty=false:=by rw[oJ,hZ.o,cE h0]
        have hS:=ag (show ∀x,(match jJ (L.take (j+1)) q with | none=>(4:Int) | some g=>if g.kind=2 then 0 else 13)=x->gm (L.take (j+1)) e=x from fun x hx=>by unfold gm; rw[if_pos h3.o]; unfold mD; rw[if_neg h0,<-HQ.o]; exact hx);clear h0
        cases hf:jJ (L.take (j+1)) q with
        | none=>
         have HF:=ag hf;have hG:=ag (hS.o 4 (by rw[hf]));clear hf;refine(lu e.path q _ (HE.o.below hr.o) (dm hB.o) HQ.o).mono ?_;rintro e9 w9 ⟨rfl,ha⟩;have hz:=ag (hl.o.trans (ha.mono hl.o.size));have hg:=ag (aj hr.o ha);have hC:=ag ((ha.block wr.heap.size (ml ho.o)).trans ho.o);have hs:=ag (hw.o.same (hz.o.block w.heap.size hw.o.lt))
         clear ha;obtain⟨c0,c1,c2,c3,c4,c5,_⟩:=aT hC.o;have h4:=xI hs.o hX.o HF.o;go_wp2_with fail;go_ret;exact⟨dK (by rw[jG hT.o hI.o hp.o (x:=4) hG.o (by decide)]),hg.o⟩
        | some g=>
         have HF:=ag hf
         by_cases hD:g.kind=2
         ·have e3:(g.kind != 2)=false:=by simp[hD]
          have hH:=ag (mC hI.o hp.o (hS.o 0 (by rw[hf]; simp only[if_pos hD])));clear hf hD;refine(lu e.path q _ (HE.o.below hr.o) (dm hB.o) HQ.o).mono ?_;rintro e9 w9 ⟨rfl,ha⟩;have hz:=ag (hl.o.trans (ha.mono hl.o.size));have hg:=ag (aj hr.o ha);have hC:=ag ((ha.block wr.heap.size (ml ho.o)).trans ho.o);have hs:=ag (hw.o.same (hz.o.block w.heap.size hw.o.lt))
          clear ha;obtain⟨c0,c1,c2,c3,c4,c5,_⟩:=aT hC.o;have h4:=rM hs.o hX.o HF.o;go_wp2_with (at_mapUpdate; go_must (refine kO gB rfl _ _ _ _ rfl lr w.heap.size _ hs.o rfl (.string e.path) (.int .i64 e.kind) rfl rfl (iL hO.o.pth) (rN (by have h1:=hH.o; rw[cw,hp.o]at h1; exact h1)) ?_); intro w10 hj hh);have hA:=ag hj
          have hy:=ag hh;clear hj hh c0 c1 c2 c3 c4 c5;go_wp2_with fail
          go_roundw
          ·refine⟨j+1+1,by omega,by go_num,hH.o, ?_, ?_⟩
           ·rw[cw,hp.o,aI]; exact hA.o
           ·exact hg.o.grown hy.o hg.o.size (fun k e=>by cases e; exact ah _)
          simp[intOf]; omega
         ·have e3:(g.kind != 2)=true:=by simp[hD]
          have hG:=ag (hS.o 13 (by rw[hf]; simp only[if_neg hD]));clear hf hD;refine(lu e.path q _ (HE.o.below hr.o) (dm hB.o) HQ.o).mono ?_;rintro e9 w9 ⟨rfl,ha⟩;have hz:=ag (hl.o.trans (ha.mono hl.o.size));have hg:=ag (aj hr.o ha);have hC:=ag ((ha.block wr.heap.size (ml ho.o)).trans ho.o);have hs:=ag (hw.o.same (hz.o.block w.heap.size hw.o.lt))
          clear ha;obtain⟨c0,c1,c2,c3,c4,c5,_⟩:=aT hC.o;have h4:=rM hs.o hX.o HF.o;go_wp2_with fail;go_ret;exact⟨dK (by rw[jG hT.o hI.o hp.o (x:=13) hG.o (by decide)]),hg.o⟩
      ·have hG:=ag (show gm (L.take (j+1)) e=1 by unfold gm; rw[Hb.o,cE h7]; simp);have e8:decide (0<=c)=true:=by simp; omega
       have e7:0<=c:=by omega
       go_wp2_with fail;obtain⟨W,hW⟩:=bH (wr.alloc (.cells #[.string e.path, .int .i64 e.kind, .int .i64 e.mode, .int .i64 e.time, .slice a1 e.data.length cap1, .string e.link] 79));rw[<-hW];have HX:=ag (show W.heap[wr.heap.size]? =some (.cells #[.string e.path, .int .i64 e.kind, .int .i64 e.mode, .int .i64 e.time, .slice a1 e.data.length cap1, .string e.link] 79 (0,0)) by rw[hW]; exact ez wr _)
       have hu:=ag (show Below wr.heap.size wr W by rw[hW]; exact eT);have hM:=ag (aj hJ.o hu.o);clear hW;refine(rY S e _ true _ (HD.o.below hu.o) hO.o (HE.o.below hM.o) hB.o).mono ?_;rintro e7 w7 ⟨rfl,hE⟩;have hP:=ag ((hE.block wr.heap.size (ml HX.o)).trans HX.o);have hN:=ag (hu.o.trans (hE.mono hu.o.size));obtain⟨c0,c1,c2,c3,c4,c5,_⟩:=aT hP.o
       clear hE;go_wp2_with fail;refine bL [some 11,none,some 2] (by kernel_rfl) (by kernel_rfl) (by kernel_rfl) ?_;simp only[ef,aS,aY,bA,bQ];obtain⟨wd,hF⟩:=bH w7.drew;rw[<-hF];have hL:=ag (show Below wr.heap.size wr wd by rw[hF]; exact hN.o.trans ((ak w7.heap.size w7).drew.mono hN.o.size))
       have hR:=ag (show wd.heap[wr.heap.size]? =some (.cells #[.string e.path, .int .i64 e.kind, .int .i64 e.mode, .int .i64 e.time, .slice a1 e.data.length cap1, .string e.link] 79 (0,0)) by rw[hF]; exact hP.o);clear hF c0 c1 c2 c3 c4 c5;obtain⟨c0,c1,c2,c3,c4,c5,_⟩:=aT hR.o;have y0:=(hL.o.cell (cR p0)).trans p0
       repeat (first | (refine cy rfl ?_; simp only[bM]) | (refine cP rfl (fun K hK=> ?_); go_simp; refine hK _ ?_; clear hK K))
       refine cO ?_;refine eE rfl (fun K hK=> ?_);go_wp2_with (go_at_call 118; refine(zO f.path e.path c _ Hc.o HC.o).mono ?_; rintro e8' w8 ⟨rfl,hY⟩; have hl:=ag (hL.o.trans (hY.mono hL.o.size)); clear hY c0 c1 c2 c3 c4 c5 y0)
       repeat (first | (refine cy rfl ?_; simp only[bM]) | (refine cP rfl (fun K hK=> ?_); go_simp; refine hK _ ?_; clear hK K))
       refine cO ?_;have hg:=ag (aj hJ.o hl.o);go_wp2_with fail;go_ret;exact⟨dK (by rw[jG hT.o hI.o hp.o (x:=1) hG.o (by decide)]),hg.o⟩
   ·have hD:k=n:=by omega
    subst hD;go_wp2_with fail;go_ret;exact⟨dK (by rw[wN hT.o (by rw[<-HN.o]; exact hI.o)]),hJ.o⟩
open Go Go.RowKit Go.Maps
def Di (p:ByteArray×Int):Value×Value:=(.string p.1, .int .i64 p.2)
def ld (S:Nat->Prop) (w:World) (gv:Value) (gs:List (ByteArray×Int)):Prop:=
 (gv= .map none/\gs=[])\/ ∃b,gv= .map (some b)/\S b/\iQ Tryz.prog 9 w b (gs.map Di)
theorem ld.keep {S:Nat->Prop} {w w':World} {gv:Value} {gs:List (ByteArray×Int)} (h:ld S w gv gs) (hs: ∀k,S k->k<w.heap.size->w'.heap[k]? =w.heap[k]?):ld S w' gv gs:=by
 rcases h with h | ⟨b,h1,h0,h2⟩
 ·exact .inl h
 ·exact .inr ⟨b,h1,h0,h2.same (hs b h0 h2.lt)⟩
theorem Dj {S:Nat->Prop} {w:World} {gv:Value} {gs:List (ByteArray×Int)} (h:ld S w gv gs) {n:ByteArray} (hn:n.size<=maxLen):
  (Instr.lookup 47 gv (.string n) false).run Tryz.prog w= .ok (.int .i64 (mU gs n)) w:=by
 have hz:(zeroValue 3).run Tryz.prog w= .ok (.int .i64 0) w:=by kernel_rfl
 obtain⟨l,hl⟩:=iL hn
 rcases h with⟨rfl,rfl⟩ | ⟨b,rfl,_,h2⟩
 ·have:=Maps.look_nil false gB (t:=47) (e:=3) lr hz hl
  simpa [mU]using this
 ·unfold mU
  cases hf:gs.find? (fun p=>decide (p.1=n))with
  | none=>
   have:=h2.is.miss gB lr hz ⟨l,hl⟩ (fun q hq e=>by obtain⟨x,hx,rfl⟩:=aQ.1 hq;simp only[Di,eJ]at e;have:=fg.1 hf x hx;simp[e]at this) false
   simpa using this
  | some p=>
   have h3:=ed hf;have h4:=jB hf;simp only[aG]at h4;have:=h2.is.hit gB lr ⟨l,hl⟩ (val:= .int .i64 p.2) (aQ.2 ⟨p,h3,by rw[<-h4]; rfl⟩) false
   simpa using this
def nT (v:Value) (b:cQ):List Value:=[.string b.ref.name, .int .i64 b.ref.gen, .int .i64 b.ref.size,v]
abbrev mp :=Value×cQ
def iw (zs:List mp):List Value:=zs.flatMap fun z=>nT z.1 z.2
theorem vj (zs:List mp) (z:mp):iw (zs++[z])=iw zs++nT z.1 z.2:=by simp[iw]
theorem rI {a:Option Addr} {n c:Nat} {b:cQ} : ∀u∈nT (.slice a n c) b,u.oneCell'=true:=by
 intro u hu;simp only[nT,aU,du,or_false]at hu
 rcases hu with rfl | rfl | rfl | rfl<;> rfl
theorem Tryz.appBlobs :kz Tryz.prog 49 53 4 56:=kz.mk' (z:= .agg #[.string ⟨#[]⟩, .int .i64 0, .int .i64 0, .slice none 0 0]) Tryz.underlying49 (by kernel_rfl) rfl (by decide) (by decide)
structure iz (w : World) (base : Nat) (v : Value) (zs : List mp) : Prop where
 row:w.ownsRow base 53 4 v zs.length (iw zs)
 dat: ∀z∈zs,w.ownsRow base 5 1 z.1 z.2.con.length (z.2.con.map aZ)
def nB (k:dq) (c:fQ) (gv:Value) (im kb:Nat) (v:Value):List Value:=eW k++gx c++[gv, .map (some im),v, .map (some kb)]
structure kP (w : World) (base bb : Nat) (k : dq) (c : fQ) (gv : Value) (im kb : Nat) (v : Value) (bs : List cQ) : Prop where
 box:w.heap[bb]? =some (.cells (nB k c gv im kb v).toArray 122 (0,0))
 own: ∃zs:List mp,zs.map Prod.snd=bs/\iz w base v zs
 known:iU w kb (bs.map cQ.ref)
structure ju (base bb kb : Nat) (v v' : Value) (w w' : World) : Prop where
 below:Below base w w'
 same: ∀k,k<w.heap.size->k≠bb->k≠kb->v.ownBlock≠some k->w'.heap[k]? =w.heap[k]?
 place: ∀k,v'.ownBlock=some k->v.ownBlock=some k\/w.heap.size<=k
theorem ju.refl (base bb kb:Nat) (v:Value) (w:World):ju base bb kb v v w w:=⟨ak _ _,fun _ _ _ _ _=>rfl,fun _ h=> .inl h⟩
theorem ju.trans {base bb kb:Nat} {v v1 v2:Value} {A B C:World} (h:ju base bb kb v v1 A B) (k:ju base bb kb v1 v2 B C):ju base bb kb v v2 A C:=by
 have hs:=h.below.size;refine⟨h.below.trans k.below,fun i h1 h2 ha h3=>(k.same i (by omega) h2 ha (fun e=> ?_)).trans (h.same i h1 h2 ha h3),fun i e=> ?_⟩
 ·rcases h.place i e with e2 | e2
  ·exact h3 e2
  ·omega
 ·rcases k.place i e with e2 | e2
  ·exact h.place i e2
  ·exact .inr (by omega)
theorem ju.ofBelow {base bb kb:Nat} {v:Value} {w w':World} (h:Below w.heap.size w w') (hb:base<=w.heap.size):ju base bb kb v v w w':=⟨h.mono hb,fun k h1 _ _ _=>h.block k h1,fun _ e=> .inl e⟩
theorem iz.below {w w':World} {base:Nat} {v:Value} {zs:List mp} (h:iz w base v zs) (hb:Below w.heap.size w w'):iz w' base v zs:=⟨cY h.row hb,fun z hz=>cY (h.dat z hz) hb⟩
theorem kP.below {w w':World} {base bb im kb:Nat} {k:dq} {c:fQ} {gv v:Value} {bs:List cQ} (h:kP w base bb k c gv im kb v bs) (hb:Below w.heap.size w w'):kP w' base bb k c gv im kb v bs:=by obtain⟨zs,h1,h2⟩:=h.own;exact⟨(hb.block _ (am h.box)).trans h.box,⟨zs,h1,h2.below hb⟩,h.known.same (hb.block _ h.known.map.lt)⟩
theorem kP.push {w w1 w2:World} {base bb im kb:Nat} {k:dq} {c:fQ} {gv v v' dv:Value} {bs:List cQ} {zs:List mp} {b:cQ} (hz:zs.map Prod.snd=bs) (h:iz w base v zs) (hx:w.heap[bb]? =some (.cells (nB k c gv im kb v).toArray 122 (0,0))) (hs:iU w kb ((bs++[b]).map cQ.ref))
  (hb:Below w.heap.size w w1) (hn:w1.ownsRow base 5 1 dv b.con.length (b.con.map aZ)) (hown:w2.ownsRow base 53 4 v' (zs.length+1) (iw zs++nT dv b)) (hg:w1.grownBy w2 v.ownBlock) (hpl: ∀k,v'.ownBlock=some k->v.ownBlock=some k\/w1.heap.size<=k) (hbe:base<=bb) (hbz:base<=w.heap.size):
  kP (w2.setCell ⟨bb,12,none⟩ v') base bb k c gv im kb v' (bs++[b])/\ju base bb kb v v' w (w2.setCell ⟨bb,12,none⟩ v'):=by
 have h1:=h.below hb;have he:=eA hb hx;have hp:=am he;have hh:=hb.size;have hj:v.ownBlock≠some bb:=fun e=>by obtain⟨cs,hc⟩:=bK h1.row e;exact absurd (bU he hc) (by decide)
 have hf:v'.ownBlock≠some bb:=fun e=>by
  rcases hpl bb e with e | e
  ·exact hj e
  ·omega
 have hk:=(hg.block bb hp (fun e=>hj e.symm)).trans he;have ha: ∀(u:Value) (ds:List UInt8),w1.ownsRow base 5 1 u ds.length (ds.map aZ)->(w2.setCell ⟨bb,12,none⟩ v').ownsRow base 5 1 u ds.length (ds.map aZ):=by intro u ds hd;refine fj hd (fun i hi hu=> ?_);obtain⟨cs,hc⟩:=bK hd hu;rw[az _ _ _ _ (show i≠bb from fun e=>absurd (bU (e▸hc) he) (by decide))];refine hg.block i hi (fun e=> ?_);obtain⟨cs2,hl⟩:=bK h1.row e.symm;exact absurd (bU hc hl) (by decide)
 have hm:kb<w1.heap.size:=aO hs.map.lt hh;have ho:(w2.setCell ⟨bb,12,none⟩ v').heap[kb]? =w.heap[kb]? :=by rw[az _ _ _ _ (show kb≠bb from fun e=>hs.cells (by rw[e]; exact hx))];refine(hg.block kb hm (fun e=> ?_)).trans (hb.block kb hs.map.lt);obtain⟨cs,hc⟩:=bK h.row e.symm;exact hs.cells hc
 refine⟨⟨?_,⟨zs++[(dv,b)],by simp[hz], ?_,fun z hz=> ?_⟩,hs.same ho⟩,⟨?_,fun i hi e1 e2 e3=> ?_,fun i e=> ?_⟩⟩
 ·have:=jb (k:=12) hk v'
  simpa [nB,eW,gx]using this
 ·rw[ai,bT,vj];exact hown.kept (cJ _ _ _ _) (.inr (fun e=>hf e))
 ·rcases aP.1 hz with hz | hz
  ·exact ha _ _ (h1.dat z hz)
  ·rw[aL]at hz;subst hz;exact ha _ _ hn
 ·exact((hb.mono hbz).grown hg (an hbz hh) (fun i hi=>(h.row.lt i hi).1)).grown (cJ w2 bb 12 v') (an hbz (an hh hg.size)) (fun i hi=>by cases hi; exact hbe)
 ·rw[az _ _ _ _ (show i≠bb from e1)];exact(hg.block i (by omega) (fun e=>e3 e.symm)).trans (hb.block i hi)
 ·rcases hpl i e with e | e
  ·exact .inl e
  ·exact .inr (by omega)
end
section
open Go Go.RowKit
theorem mL {l:List UInt8} (h:dH l=true):l.length<=512:=by unfold dH at h;simp only[aE,aG]at h;exact h.1.1
theorem qy {l:List UInt8} (h:dH l=true):1<=l.length:=by
 cases l with
 | nil=>exact absurd h (by decide)
 | cons a l=>simp
theorem vF (d n:ByteArray) (hn:1<=n.size):d.size+1<=(lW d n).size:=by
 unfold lW
 split
 ·omega
 ·simp only[ByteArray.size_append]
  show d.size+1<=d.size+1+n.size
  omega
theorem uS {cs:List (ByteArray×List UInt8)} {rec:ByteArray->bY->List dk->Int×List dk} {dir p:ByteArray} {it:ci} {r:List ci} {acc:List dk} (hp:lW dir it.name=p) (hv:dH (bl p)=true) (hl:acc.length<4096) (hk:it.kind=2):
  kW cs rec dir (it::r) acc=if(rec p it.node (acc++[⟨p,it.kind,it.mode,it.time,[],it.link⟩])).1=0 then kW cs rec dir r (rec p it.node (acc++[⟨p,it.kind,it.mode,it.time,[],it.link⟩])).2 else rec p it.node (acc++[⟨p,it.kind,it.mode,it.time,[],it.link⟩]):=by
 have hf:sB cs it=([],0):=by unfold sB; rw[if_neg (by omega)]
 rw[kW,hp,if_pos ⟨hv,hl⟩,hf];simp only[if_pos hk]
theorem yw {cs:List (ByteArray×List UInt8)} {rec:ByteArray->bY->List dk->Int×List dk} {dir p:ByteArray} {it:ci} {r:List ci} {acc:List dk} (hp:lW dir it.name=p) (hv:dH (bl p)=true) (hl:acc.length<4096) (hk:it.kind≠2) (hk1:it.kind≠1):
  kW cs rec dir (it::r) acc=kW cs rec dir r (acc++[⟨p,it.kind,it.mode,it.time,[],it.link⟩]):=by
 have hf:sB cs it=([],0):=by unfold sB; rw[if_neg hk1]
 rw[kW,hp,if_pos ⟨hv,hl⟩,hf];simp only[if_neg hk,if_true]
theorem ti {cs:List (ByteArray×List UInt8)} {rec:ByteArray->bY->List dk->Int×List dk} {dir p:ByteArray} {it:ci} {r:List ci} {acc:List dk} {bs:List UInt8} (hp:lW dir it.name=p) (hv:dH (bl p)=true) (hl:acc.length<4096) (hk1:it.kind=1) (hb:oL cs it.chunks []= .ok bs):
  kW cs rec dir (it::r) acc=kW cs rec dir r (acc++[⟨p,it.kind,it.mode,it.time,bs,it.link⟩]):=by
 have hf:sB cs it=(bs,0):=by unfold sB; rw[if_pos hk1,hb]
 have hk: ¬it.kind=2:=by omega
 rw[kW,hp,if_pos ⟨hv,hl⟩,hf];simp only[if_neg hk,if_true]
theorem Bg {cs:List (ByteArray×List UInt8)} {rec:ByteArray->bY->List dk->Int×List dk} {dir p:ByteArray} {it:ci} {r:List ci} {acc:List dk} {x:Int} (hp:lW dir it.name=p) (hv:dH (bl p)=true) (hl:acc.length<4096) (hk1:it.kind=1) (hb:oL cs it.chunks []= .error x) (hx:x≠0):
  kW cs rec dir (it::r) acc=(x,acc++[⟨p,it.kind,it.mode,it.time,[],it.link⟩]):=by
 have hf:sB cs it=([],x):=by unfold sB; rw[if_pos hk1,hb]
 have hk: ¬it.kind=2:=by omega
 rw[kW,hp,if_pos ⟨hv,hl⟩,hf];simp only[if_neg hk,if_neg hx]
def GX (cs:List (ByteArray×List UInt8)) (cv:Value) (B n:Nat):Prop:= ∀(dir:ByteArray) (ref:bY) (acc:List dk) (base eb:Nat) (v:Value) (w:World),
 514<=dir.size+n->(dir.size=0\/dH (bl dir)=true)->lD w base eb v acc->dZ ref->kU B cv cs w->B<=base->base<=eb->base<=w.heap.size->
 Calls Tryz.prog 78 #[cv, .string dir,eC ref, .pointer (some ⟨eb,0,none⟩)] w fun e w'=>e= .returned (.int .i64 (jz cs n dir ref acc).1)/\ ∃v',lD w' base eb v' (jz cs n dir ref acc).2/\sG base eb v v' w w'
theorem Kq (cs:List (ByteArray×List UInt8)) (cv:Value) (B:Nat):GX cs cv B 0:=by
 intro dir ref acc base eb v w hn hd
 exfalso
 rcases hd with h | h
 ·omega
 ·have:=mL h;rw[<-bi]at this;omega
theorem dO.wide {S:Nat->Prop} {w:World} : ∀ {m:List (Value×Value)} {cs:List (ByteArray×List UInt8)},dO S w m cs->dO (fun _=>True) w m cs
 | [],[],_=>trivial
 | [],_::_,h=>h
 | _::_,[],h=>h
 | (_,_)::_,(_,_)::_,h=>⟨h.1,bX.weak h.2.1 (fun _ _=>trivial),dO.wide h.2.2⟩
theorem fI.wide {S:Nat->Prop} {w:World} {cv:Value} {cs:List (ByteArray×List UInt8)} (h:fI S w cv cs):fI (fun _=>True) w cv cs:=by
 rcases h with h | ⟨b,m,h1,_,h2,h3⟩
 ·exact .inl h
 ·exact .inr ⟨b,m,h1,trivial,h2,h3.wide⟩
theorem kU.keepL {B base:Nat} {cv:Value} {cs:List (ByteArray×List UInt8)} {w w':World} (h:kU B cv cs w) (hb:Below base w w') (hB:B<=base):kU B cv cs w':=
 kU.keep w w' h ⟨hb.os,hb.tape,hb.output,hb.size,fun k _ hn=>hb.block k (by omega)⟩
theorem Ko (cs:List (ByteArray×List UInt8)) (cv:Value) (B n:Nat) (IH:GX cs cv B n):GX cs cv B (n+1):=by
 intro dir ref acc base eb v w hn hd Yg hr hi hB H4 Hu;have Yr:=ag IH;have HD:=ag hd;have Yj:=ag Yg;have HI:=ag hi;have HA:=ag ((ak w.heap.size w).alloc (ah _) (.cells #[.string ref.name, .int .i64 ref.gen, .int .i64 ref.size] 26));have H9:=tW (· <B) cv cs ref _ (hi.cont.below HA.o) hr (hi.env.below HA.o);have YF:eb<w.heap.size:=am Yg.1
 unfold eC at *;unfold Bz at H9;have Ys:=ag (show jz cs (n+1) dir ref acc=match gq cs ref with
  | .error x=>(x,acc)
  | .ok l=>kW cs (jz cs n) dir l acc from rfl)
 cases H1:gq cs ref with
 | error x=>
  rw[H1]at H9;have Yl:=ag H9;have HE:=ag (show jz cs (n+1) dir ref acc=(x,acc) by rw[Ys.o,H1]);clear H1 H9 IH hd Yg hr hi
  go_enter Tryz.func78,Tryz.ntmps78
  go_wp2_with fail;refine Yl.o.mono ?_;rintro e w1 ⟨yn,rfl,hx⟩;have yp:=ag (aj HA.o yn);have e1:(x != 0)=true:=by simp[hx]
  clear yn hx;go_wp2_with fail;go_ret;rw[HE.o];exact⟨rfl,v,Yj.o.below yp.o,sG.ofBelow yp.o Hu⟩
 | ok l=>
  rw[H1]at H9;have Yl:=ag H9;have HE:=ag (show jz cs (n+1) dir ref acc=kW cs (jz cs n) dir l acc by rw[Ys.o,H1]);have Yk:=ag (xQ H1);clear H1 H9 IH hd Yg hr hi
  go_enter Tryz.func78,Tryz.ntmps78
  go_wp2_with fail;refine Yl.o.mono ?_;rintro e w1 ⟨yn,v1,rfl,Yp⟩;have yp:=ag (aj HA.o yn);obtain⟨a1,cap1,rfl,YB,YC,-⟩:=cU.shape Yp lm.len;unfold maxLen at YC;have y7:=ag (show vQ w (w.heap.size+1) w1.heap.size base eb v (.slice a1 l.length cap1) l w1 v acc from
   ⟨Yj.o.below yp.o,sG.ofBelow yp.o Hu,fun k hk=> .inl (by obtain⟨_,ys,_,hr,_⟩:=Yj.o; have:=(hr.lt k hk).2; omega),by omega,⟨by omega,by have:=yn.size; simpa using this,ah _⟩,
    by have h:=eO.lt Yp; simpa using h⟩)
  obtain⟨m,hm⟩:=bH l.length;rw[<-hm]at y7 YB ⊢;have HM:=ag hm;have YG:m<=4096:=by rw[hm]; exact Yk.o.1
  clear yn Yp hm;go_wp2_with fail
  go_loopw [26] (fun i wr=> ∃(k:Nat) (v2:Value) (acc2:List dk),k<=m/\i= .int .i64 (k:Int)/\kW cs (jz cs n) dir (l.drop k) acc2=jz cs (n+1) dir ref acc/\vQ w (w.heap.size+1) w1.heap.size base eb v (.slice a1 m cap1) l wr v2 acc2) (fun i _=>m-(intOf i).toNat)
  ·exact⟨0,v,acc,aR _,rfl,HE.o.symm,y7.o⟩
  ·obtain⟨k,v2,acc2,hk,rfl,YA,Yv⟩:=hrel;have Ho:=ag YA;have hA:=ag Yv;clear YA Yv
   by_cases Yw:k<m
   ·obtain⟨it,hr⟩: ∃it,l[k]? =some it:=⟨l[k]'(by rw[<-HM.o]; exact Yw),by simp⟩;obtain⟨b,o,ca,cc,rfl,Yx,Yz,YD,-,HJ⟩:=lR hA.o.its (ak _ _) hr;have q0:=HJ 0 (by omega);have q1:=HJ 1 (by omega);have q2:=HJ 2 (by omega);have q3:=HJ 3 (by omega);have q4:=HJ 4 (by omega);have q5:=HJ 5 (by omega);have q6:=HJ 6 (by omega);have q7:=HJ 7 (by omega)
    have q8:=HJ 8 (by omega);have q9:=HJ 9 (by omega);simp only[fu,aD,cI,dh]at q0 q1 q2 q3 q4 q5 q6 q7 q8 q9;have HO:=ag Yx;have Yt:=ag Yz;have Ht:=ag (show l.drop k=it::l.drop (k+1) by
     rw[cD (by rw[<-HM.o]; exact Yw)]
     congr 1
     exact(aA.1 hr).2)
    have Yb:=(pS Yk.o.2.1).2 it (aM hr);have Yu:=ag Yb;have YE:dir.size<=512:=by
     rcases HD.o with h | h
     ·omega
     ·have:=mL h; rw[<-bi]at this; exact this
    have Yi:=qW.1 (by unfold jA at Yb; rw[aE]at Yb; exact Yb.1);have YH:it.name.size<=64:=by rw[bi]; exact tH Yi.val Yi.nos
    have H1:1<=it.name.size:=by rw[bi]; exact qy Yi.val
    have Yf:=ag (Yk.o.2.2 it (aM hr));clear hr Yx Yz HJ Yb Yi;have Hx:=ag (show base<=wr.heap.size by have:=hA.o.ord; omega)
    by_cases Yh:dir.size=0
    ·have e2:dir.toList=[]:=by rw[fF]; exact bq (by rw[<-bi]; exact Yh)
     have e3:dir.toList.isEmpty=true:=by rw[e2]; rfl
     have Hv:=ag (show lW dir it.name=it.name by unfold lW; rw[if_pos Yh]);go_wp2_with fail;obtain⟨W,hW⟩:=bH ((wr.alloc (.cells #[.string it.name, .int .i64 it.kind, .int .i64 it.mode, .int .i64 it.time, .int .i64 it.size, .string it.link, .slice ca it.chunks.length cc, .string it.node.name, .int .i64 it.node.gen, .int .i64 it.node.size] 28)).alloc (.cells #[.string (it.name), .int .i64 it.kind, .int .i64 it.mode, .int .i64 it.time, .slice none 0 0, .string it.link] 79))
     rw[<-hW];have Hp:=ag (show Below wr.heap.size wr W by rw[hW]; exact(eT).alloc (by simp) _);have Ya:=ag (show W.heap[wr.heap.size]? =some (.cells #[.string it.name, .int .i64 it.kind, .int .i64 it.mode, .int .i64 it.time, .int .i64 it.size, .string it.link, .slice ca it.chunks.length cc, .string it.node.name, .int .i64 it.node.gen, .int .i64 it.node.size] 28 (0,0)) by rw[hW]; exact mz (ez wr _) _)
     have HC:=ag (show W.heap[wr.heap.size+1]? =some (.cells #[.string (it.name), .int .i64 it.kind, .int .i64 it.mode, .int .i64 it.time, .slice none 0 0, .string it.link] 79 (0,0)) by rw[hW]; exact ql wr _ _);have Hm:=ag (hA.o.below Hp.o Hx.o);have y6:=ag (show nJ W from(HI.o.keepL (Hm.o.kp.below) hB).env);clear hW q0 q1 q2 q3 q4 q5 q6 q7 q8 q9
     cases Ha:dH (bl (it.name))with
     | false=>
      have h9:=ag Ha;clear Ha;refine(nf (it.name) false W y6.o h9.o).mono ?_;rintro e w2 ⟨rfl,h3⟩;have hC:=ag (Hm.o.below h3 (an Hx.o Hp.o.size));clear h3;go_wp2_with fail;go_ret;have h1:=Ho.o;rw[Ht.o,kW,if_neg (fun h=>by rw[Hv.o,h9.o]at h; cases h.1)]at h1;rw[<-h1];exact⟨rfl,v2,hC.o.box,hC.o.kp⟩
     | true=>
      have h9:=ag Ha;clear Ha;refine(nf (it.name) true W y6.o h9.o).mono ?_;rintro e w2 ⟨rfl,h3⟩;have hC:=ag (Hm.o.below h3 (an Hx.o Hp.o.size));have HX:=ag (eA h3 Ya.o);have HY:=ag (eA h3 HC.o);have h4:=ag (an (an Hx.o Hp.o.size) h3.size);have H8:=ag (show dJ (fun k=>w.heap.size+1<=k/\k<w1.heap.size) w2 (.slice ca it.chunks.length cc) it.chunks from cU.below (cU.below Yt.o (by omega) Hp.o (fun _ _ _ h=>h)) (by omega) h3 (fun _ _ _ h=>h))
      have H2:=ag (Hp.o.trans (h3.mono Hp.o.size));clear h3 Ya HC;obtain⟨ys0,H0,Hi,-⟩:=hC.o.box.2;obtain⟨av0,cv0,yc,yl,Yq⟩:=aH Hi;have HL:ys0.length=acc2.length:=by rw[<-H0,aw]
      rw[HL]at yc yl;have e0:=ar (k:=0) hC.o.box.1;simp only[aF,aD]at e0;rw[yc]at e0;obtain⟨c0,c1,_⟩:=aT HX.o;have c6:=ar (k:=6) HX.o;have c7:=ar (k:=7) HX.o;have c8:=ar (k:=8) HX.o;have c9:=ar (k:=9) HX.o;obtain⟨d0,d1,d2,d3,d4,d5,_⟩:=aT HY.o;simp only[fV]at c6 c7 c8 c9;clear H0 Hi yc HL
      by_cases hO:acc2.length<4096
      ·have Yn:(acc2.length:Int)<4096:=by omega
       have h7:=ag hO;clear hO
       by_cases Hg:it.kind=1
       ·have e1:(it.kind == 1)=true:=by simp[Hg]
        have H3:=ag Hg;have e2:(it.kind == 2)=false:=by simp[Hg]
        have HG:=nK Hg (by have h:=Yu.o; unfold jA at h; rw[aE]at h; exact h.2);have yb:=yC (l:=it.chunks) (by have:=Yf.o; omega) (fun r hr=>(HG.2.2.1 r hr).1) _ (ah _);rw[dw]at yb;have Hq:=vB (fun _=>True) cv (.slice ca it.chunks.length cc) cs it.chunks w2 (fI.wide (HI.o.keepL hC.o.kp.below hB).cont) (dJ.same H8.o (fun k _ _=>⟨trivial,rfl⟩)) yb.1 (by rw[<-HG.2.2.2.1]; exact HG.2.2.2.2) (by have:=Yf.o; omega) (fun r hr=>(HG.2.2.1 r hr).1)
        unfold Bw at Hq;clear Hg HG yb
        cases Hw:oL cs it.chunks []with
        | error x=>
         rw[Hw]at Hq;have Hl:=ag Hq;have H5:=ag Hw;clear Hq Hw;go_wp2_with fail;refine Hl.o.mono ?_;rintro e w5 ⟨hY,rfl,hx⟩;have HZ:=eA hY HX.o;have h0:=eA hY HY.o;have HC:=ag h0;have d4':=ar (k:=4) h0;have f4':=dD (k:=4) h0;simp only[fV]at d4';clear e0 c0 c1 c6 c7 c8 c9 d0 d1 d2 d3 d4 d5;go_wp2_with fail;obtain⟨W5,hM⟩:=bH (w5.setCell ⟨wr.heap.size+1,4,none⟩ (.slice none 0 0))
         rw[<-hM];have y9:=ag hM;have HB:=ag ((show W5.heap[wr.heap.size]? =w5.heap[wr.heap.size]? from by rw[hM,az _ _ _ _ (by show wr.heap.size≠wr.heap.size+1; omega)]).trans HZ);have Hb:=jb (k:=4) h0 (.slice none 0 0);simp only[aX,cG,cr]at Hb;rw[<-hM]at Hb;have HF:=ag Hb;have hl:=ag (show vQ w (w.heap.size+1) w1.heap.size base eb v (.slice (some ⟨b,o,none⟩) m cap1) l W5 v2 acc2 from hA.o.below (by rw[hM]; exact cz (H2.o.trans (hY.mono H2.o.size)) (by show wr.heap.size<=wr.heap.size+1; omega) _) Hx.o)
         have hE:=ag (show base<=W5.heap.size from an h4.o (by rw[hM]; have:=hY.size; simpa [World.setCell]using this));clear hM HZ h0 Hb d4' f4' HX HY hY;have HX:=HB;have HY:=HF;clear HB HF;have Hy:=ag (bN W5 base 5 1);have e4:(x != 0)=true:=by simp[hx]
         have h8:=ag (Bg (cs:=cs) (rec:=jz cs n) (r:=l.drop (k+1)) Hv.o h9.o h7.o H3.o H5.o hx);clear hx;obtain⟨ys,Hk,hz,hG⟩:=hl.o.box.2;obtain⟨av,cv2,HP,Yd,Yc⟩:=aH hz;have hD:=ag hl.o.box.1;have hs:=ag hz;have hp:=ag hG
         have Hd:=ag Hk;subst HP;clear Hk hz hG
         obtain⟨W6,hX⟩:=bH ((W5).drew);have hj:Below (W5).heap.size (W5) W6:=by rw[hX]; exact(ak _ _).drew
         have yv:=ag hj;have Hc:=ag (eA hj HX.o);have hU:=ag (eA hj HY.o);have hf:=ag (eA hj hD.o);have hg:=ag (cY hs.o hj);have hF:=ag (fun y hy=>cY (hp.o y hy) hj);have hR:=ag (cY (Hy).out hj);have hS:=ag (hl.o.below hj hE.o);have hZ:=an hE.o hj.size;have hP:=ag hZ;clear hj HX HY hl hD hs hp
         have hN:=ar (k:=0) hf.o;obtain⟨d0,d1,d2,d3,d4,d5,_⟩:=aT hU.o;have f1:=dD (k:=0) hf.o;simp only[aF,aD]at hN;refine eP (fun w'=>w'.cell? ⟨eb,0,none⟩=some (.slice av ys.length cv2)/\w'.cell? ⟨wr.heap.size+1,0,none⟩=some (.string (it.name))/\w'.cell? ⟨wr.heap.size+1,1,none⟩=some (.int .i64 it.kind)/\w'.cell? ⟨wr.heap.size+1,2,none⟩=some (.int .i64 it.mode)/\w'.cell? ⟨wr.heap.size+1,3,none⟩=some (.int .i64 it.time)/\w'.cell? ⟨wr.heap.size+1,4,none⟩=some (.slice none 0 0)/\w'.cell? ⟨wr.heap.size+1,5,none⟩=some (.string it.link)) (by kernel_rfl) (by kernel_rfl) ?_
         simp only[bu,bw,ay,bp,Nat.reduceAdd,Nat.reduceSub];rw[<-hX];clear hX
         iterate 5 (refine cF rfl ⟨hN,d0,d1,d2,d3,d4,d5⟩ (by rintro w' ⟨HQ,HR,HS,HT,HU,HV,HW⟩; go_simp; rfl) ?_; simp only[bM])
         have hH:eb<W6.heap.size:=am hf.o;have hb:wr.heap.size+1<W6.heap.size:=am hU.o;have hu:=ag ((ak W6.heap.size W6).alloc (ah _) (.cells #[.string (it.name), .int .i64 it.kind, .int .i64 it.mode, .int .i64 it.time, .slice none 0 0, .string it.link] 79));have He:=aB ((hu.o.cell (p:=⟨eb,0,none⟩) hH).trans hN) (aB ((hu.o.cell (p:=⟨wr.heap.size+1,0,none⟩) hb).trans d0) (aB ((hu.o.cell (p:=⟨wr.heap.size+1,1,none⟩) hb).trans d1) (aB ((hu.o.cell (p:=⟨wr.heap.size+1,2,none⟩) hb).trans d2) (aB ((hu.o.cell (p:=⟨wr.heap.size+1,3,none⟩) hb).trans d3) (aB ((hu.o.cell (p:=⟨wr.heap.size+1,4,none⟩) hb).trans d4) ((hu.o.cell (p:=⟨wr.heap.size+1,5,none⟩) hb).trans d5))))))
         have Hz:=ag He;clear He;refine cA 5 rfl (fun K hK=> ?_);go_wp2_with fail
         (first | (refine⟨Hz.o, ?_⟩) | skip)
         refine cA 6 rfl (fun K hK=> ?_);have Ye:ys.length<4096:=by have h1:=h7.o; rw[<-Hd.o,aw]at h1; exact h1
         go_wp2_with (at_builtin; go_must (refine bP Tryz.appEnts rfl _ _ rfl base (.slice av ys.length cv2) ys.length (jx ys) rfl W6 [.string (it.name), .int .i64 it.kind, .int .i64 it.mode, .int .i64 it.time, .slice none 0 0, .string it.link] _ rfl rfl (ln (e:=⟨it.name,it.kind,it.mode,it.time,[],it.link⟩)) hg.o (by omega) (by omega) ?_); intro v' wc hh ha _ Hh; obtain⟨ae,ce,rfl,-,-⟩:=aH hh)
         have hI:(Value.slice av ys.length cv2).ownBlock≠some eb:=fun e=>by obtain⟨cs,hc⟩:=bK hg.o e;exact absurd (bU hf.o hc) (by decide)
         have hw: ∀i,(Value.slice av ys.length cv2).ownBlock=some i->i<wr.heap.size:=fun i e=>by obtain⟨_,ys',_,HN,_⟩:=hA.o.box;exact(HN.lt _ e).2
         have hL:(Value.slice av ys.length cv2).ownBlock≠some (wr.heap.size+1):=fun e=>by have:=hw _ e; omega
         have hJ:(Value.slice av ys.length cv2).ownBlock≠some wr.heap.size:=fun e=>by have:=hw _ e; omega
         have hv:=(ha.block eb hH (fun e=>hI e.symm)).trans hf.o;have h2:=(ha.block (wr.heap.size+1) hb (fun e=>hL e.symm)).trans hU.o;have Hj:=(ha.block wr.heap.size (am Hc.o) (fun e=>hJ e.symm)).trans Hc.o;have he:=lD.push (e:=⟨it.name,it.kind,it.mode,it.time,[],it.link⟩) hf.o hg.o hF.o hR.o hh ha Hh H4 hP.o
         rw[Hd.o]at he;have ho:=ag (hS.o.step he.1 he.2);have hT:=ag ((az wc ⟨eb,0,none⟩ (.slice ae (ys.length+1) ce) wr.heap.size (by show wr.heap.size≠eb; have:=hA.o.lo; have:=hA.o.ord; omega)).trans Hj);have hV:=ag ((az wc ⟨eb,0,none⟩ (.slice ae (ys.length+1) ce) (wr.heap.size+1) (by show wr.heap.size+1≠eb; have:=hA.o.lo; have:=hA.o.ord; omega)).trans h2)
         have c0':=ar (k:=0) hv;have f0':=dD (k:=0) hv;obtain⟨y0,y1,y2,y3,y4,y5,_⟩:=aT h2;simp only[aF,aD]at c0';clear hh ha Hh he hI hL hJ hw hN d0 d1 d2 d3 d4 d5 f1 hv h2 Hj;refine⟨⟨c0',y0,y1,y2,y3,y4,y5⟩, ?_⟩;refine cF rfl ⟨c0',y0,y1,y2,y3,y4,y5⟩ (by rintro w' ⟨HQ,HR,HS,HT,HU,HV,HW⟩; go_simp; rfl) ?_
         simp only[bM];refine cH (by kernel_rfl) ?_;refine eX rfl rfl (fun K hK=> ?_)
         go_upto_region 16 with(fail)
         obtain⟨W8,Hf⟩:=bH (wc.setCell ⟨eb,0,none⟩ (.slice ae (ys.length+1) ce));rw[<-Hf]at ho hT hV ⊢;clear Hf c0' f0' y0 y1 y2 y3 y4 y5;have HX:=hT;have HY:=hV;clear hT hV;obtain⟨c0,c1,_⟩:=aT HX.o;have c6:=ar (k:=6) HX.o;have c7:=ar (k:=7) HX.o;have c8:=ar (k:=8) HX.o;have c9:=ar (k:=9) HX.o;obtain⟨d0,d1,d2,d3,d4,d5,_⟩:=aT HY.o
         simp only[fV]at c6 c7 c8 c9;go_wp2_with fail;go_ret;rw[<-Ho.o,Ht.o,h8.o];exact⟨rfl,_,ho.o.box,ho.o.kp⟩
        | ok bs=>
         rw[Hw]at Hq;have Hl:=ag Hq;have H5:=ag Hw;clear Hq Hw;go_wp2_with fail;refine Hl.o.mono ?_;rintro e w5 ⟨hY,v5,rfl,ya⟩;obtain⟨a5,c5,rfl,-,-⟩:=aH ya;have y8:=ag ya;clear ya;have HZ:=eA hY HX.o;have h0:=eA hY HY.o;have HC:=ag h0;have d4':=ar (k:=4) h0;have f4':=dD (k:=4) h0;simp only[fV]at d4';clear e0 c0 c1 c6 c7 c8 c9 d0 d1 d2 d3 d4 d5
         go_wp2_with fail;obtain⟨W5,hM⟩:=bH (w5.setCell ⟨wr.heap.size+1,4,none⟩ (.slice a5 bs.length c5));rw[<-hM];have y9:=ag hM;have HB:=ag ((show W5.heap[wr.heap.size]? =w5.heap[wr.heap.size]? from by rw[hM,az _ _ _ _ (by show wr.heap.size≠wr.heap.size+1; omega)]).trans HZ);have Hb:=jb (k:=4) h0 (.slice a5 bs.length c5);simp only[aX,cG,cr]at Hb
         rw[<-hM]at Hb;have HF:=ag Hb;have hl:=ag (show vQ w (w.heap.size+1) w1.heap.size base eb v (.slice (some ⟨b,o,none⟩) m cap1) l W5 v2 acc2 from hA.o.below (by rw[hM]; exact cz (H2.o.trans (hY.mono H2.o.size)) (by show wr.heap.size<=wr.heap.size+1; omega) _) Hx.o);have hE:=ag (show base<=W5.heap.size from an h4.o (by rw[hM]; have:=hY.size; simpa [World.setCell]using this))
         clear hM HZ h0 Hb d4' f4' HX HY hY;have HX:=HB;have HY:=HF;clear HB HF;have Hy:=ag (show W5.ownsRow base 5 1 (.slice a5 bs.length c5) bs.length (bs.map aZ)from by rw[y9.o];refine(gP y8.o h4.o).kept (cJ w5 _ _ _) (.inr (fun e=> ?_));obtain⟨cs2,Ym⟩:=bK y8.o e;exact absurd (bU HC.o Ym) (by decide))
         have h8:=ag (ti (cs:=cs) (rec:=jz cs n) (r:=l.drop (k+1)) Hv.o h9.o h7.o H3.o H5.o);obtain⟨ys,Hk,hz,hG⟩:=hl.o.box.2;obtain⟨av,cv2,HP,Yd,Yc⟩:=aH hz;have hD:=ag hl.o.box.1;have hs:=ag hz;have hp:=ag hG
         have Hd:=ag Hk;subst HP;clear Hk hz hG
         obtain⟨W6,hX⟩:=bH ((W5).drew);have hj:Below (W5).heap.size (W5) W6:=by rw[hX]; exact(ak _ _).drew
         have yv:=ag hj;have Hc:=ag (eA hj HX.o);have hU:=ag (eA hj HY.o);have hf:=ag (eA hj hD.o);have hg:=ag (cY hs.o hj);have hF:=ag (fun y hy=>cY (hp.o y hy) hj);have hR:=ag (cY (Hy).out hj);have hS:=ag (hl.o.below hj hE.o);have hZ:=an hE.o hj.size;have hP:=ag hZ;clear hj HX HY hl hD hs hp
         have hN:=ar (k:=0) hf.o;obtain⟨d0,d1,d2,d3,d4,d5,_⟩:=aT hU.o;have f1:=dD (k:=0) hf.o;simp only[aF,aD]at hN;refine eP (fun w'=>w'.cell? ⟨eb,0,none⟩=some (.slice av ys.length cv2)/\w'.cell? ⟨wr.heap.size+1,0,none⟩=some (.string (it.name))/\w'.cell? ⟨wr.heap.size+1,1,none⟩=some (.int .i64 it.kind)/\w'.cell? ⟨wr.heap.size+1,2,none⟩=some (.int .i64 it.mode)/\w'.cell? ⟨wr.heap.size+1,3,none⟩=some (.int .i64 it.time)/\w'.cell? ⟨wr.heap.size+1,4,none⟩=some (.slice a5 bs.length c5)/\w'.cell? ⟨wr.heap.size+1,5,none⟩=some (.string it.link)) (by kernel_rfl) (by kernel_rfl) ?_
         simp only[bu,bw,ay,bp,Nat.reduceAdd,Nat.reduceSub];rw[<-hX];clear hX
         iterate 5 (refine cF rfl ⟨hN,d0,d1,d2,d3,d4,d5⟩ (by rintro w' ⟨HQ,HR,HS,HT,HU,HV,HW⟩; go_simp; rfl) ?_; simp only[bM])
         have hH:eb<W6.heap.size:=am hf.o;have hb:wr.heap.size+1<W6.heap.size:=am hU.o;have hu:=ag ((ak W6.heap.size W6).alloc (ah _) (.cells #[.string (it.name), .int .i64 it.kind, .int .i64 it.mode, .int .i64 it.time, .slice a5 bs.length c5, .string it.link] 79));have He:=aB ((hu.o.cell (p:=⟨eb,0,none⟩) hH).trans hN) (aB ((hu.o.cell (p:=⟨wr.heap.size+1,0,none⟩) hb).trans d0) (aB ((hu.o.cell (p:=⟨wr.heap.size+1,1,none⟩) hb).trans d1) (aB ((hu.o.cell (p:=⟨wr.heap.size+1,2,none⟩) hb).trans d2) (aB ((hu.o.cell (p:=⟨wr.heap.size+1,3,none⟩) hb).trans d3) (aB ((hu.o.cell (p:=⟨wr.heap.size+1,4,none⟩) hb).trans d4) ((hu.o.cell (p:=⟨wr.heap.size+1,5,none⟩) hb).trans d5))))))
         have Hz:=ag He;clear He;refine cA 5 rfl (fun K hK=> ?_);go_wp2_with fail
         (first | (refine⟨Hz.o, ?_⟩) | skip)
         refine cA 6 rfl (fun K hK=> ?_);have Ye:ys.length<4096:=by have h1:=h7.o; rw[<-Hd.o,aw]at h1; exact h1
         go_wp2_with (at_builtin; go_must (refine bP Tryz.appEnts rfl _ _ rfl base (.slice av ys.length cv2) ys.length (jx ys) rfl W6 [.string (it.name), .int .i64 it.kind, .int .i64 it.mode, .int .i64 it.time, .slice a5 bs.length c5, .string it.link] _ rfl rfl (ln (e:=⟨it.name,it.kind,it.mode,it.time,bs,it.link⟩)) hg.o (by omega) (by omega) ?_); intro v' wc hh ha _ Hh; obtain⟨ae,ce,rfl,-,-⟩:=aH hh)
         have hI:(Value.slice av ys.length cv2).ownBlock≠some eb:=fun e=>by obtain⟨cs,hc⟩:=bK hg.o e;exact absurd (bU hf.o hc) (by decide)
         have hw: ∀i,(Value.slice av ys.length cv2).ownBlock=some i->i<wr.heap.size:=fun i e=>by obtain⟨_,ys',_,HN,_⟩:=hA.o.box;exact(HN.lt _ e).2
         have hL:(Value.slice av ys.length cv2).ownBlock≠some (wr.heap.size+1):=fun e=>by have:=hw _ e; omega
         have hJ:(Value.slice av ys.length cv2).ownBlock≠some wr.heap.size:=fun e=>by have:=hw _ e; omega
         have hv:=(ha.block eb hH (fun e=>hI e.symm)).trans hf.o;have h2:=(ha.block (wr.heap.size+1) hb (fun e=>hL e.symm)).trans hU.o;have Hj:=(ha.block wr.heap.size (am Hc.o) (fun e=>hJ e.symm)).trans Hc.o;have he:=lD.push (e:=⟨it.name,it.kind,it.mode,it.time,bs,it.link⟩) hf.o hg.o hF.o hR.o hh ha Hh H4 hP.o
         rw[Hd.o]at he;have ho:=ag (hS.o.step he.1 he.2);have hT:=ag ((az wc ⟨eb,0,none⟩ (.slice ae (ys.length+1) ce) wr.heap.size (by show wr.heap.size≠eb; have:=hA.o.lo; have:=hA.o.ord; omega)).trans Hj);have hV:=ag ((az wc ⟨eb,0,none⟩ (.slice ae (ys.length+1) ce) (wr.heap.size+1) (by show wr.heap.size+1≠eb; have:=hA.o.lo; have:=hA.o.ord; omega)).trans h2)
         have c0':=ar (k:=0) hv;have f0':=dD (k:=0) hv;obtain⟨y0,y1,y2,y3,y4,y5,_⟩:=aT h2;simp only[aF,aD]at c0';clear hh ha Hh he hI hL hJ hw hN d0 d1 d2 d3 d4 d5 f1 hv h2 Hj;refine⟨⟨c0',y0,y1,y2,y3,y4,y5⟩, ?_⟩;refine cF rfl ⟨c0',y0,y1,y2,y3,y4,y5⟩ (by rintro w' ⟨HQ,HR,HS,HT,HU,HV,HW⟩; go_simp; rfl) ?_
         simp only[bM];refine cH (by kernel_rfl) ?_;refine eX rfl rfl (fun K hK=> ?_)
         go_upto_region 16 with(fail)
         obtain⟨W8,Hf⟩:=bH (wc.setCell ⟨eb,0,none⟩ (.slice ae (ys.length+1) ce));rw[<-Hf]at ho hT hV ⊢;clear Hf c0' f0' y0 y1 y2 y3 y4 y5;have HX:=hT;have HY:=hV;clear hT hV;obtain⟨c0,c1,_⟩:=aT HX.o;have c6:=ar (k:=6) HX.o;have c7:=ar (k:=7) HX.o;have c8:=ar (k:=8) HX.o;have c9:=ar (k:=9) HX.o;obtain⟨d0,d1,d2,d3,d4,d5,_⟩:=aT HY.o
         simp only[fV]at c6 c7 c8 c9;go_wp2_with fail;clear c0 c1 c6 c7 c8 c9 d0 d1 d2 d3 d4 d5
         go_roundw
         ·exact⟨k+1,_,_,by omega,by go_num,by rw[<-Ho.o,Ht.o,h8.o],ho.o⟩
         simp[intOf]; omega
       ·have e1:(it.kind == 1)=false:=by simp[Hg]
        have H3:=ag Hg;clear Hg;have hl:=hC;have hE:=h4;have Hy:=ag (bN w2 base 5 1);go_wp2_with fail;clear e0 c0 c1 c6 c7 c8 c9 d0 d1 d2 d3 d4 d5;obtain⟨ys,Hk,hz,hG⟩:=hl.o.box.2;obtain⟨av,cv2,HP,Yd,Yc⟩:=aH hz;have hD:=ag hl.o.box.1;have hs:=ag hz;have hp:=ag hG
        have Hd:=ag Hk;subst HP;clear Hk hz hG
        obtain⟨W6,hX⟩:=bH ((w2).drew);have hj:Below (w2).heap.size (w2) W6:=by rw[hX]; exact(ak _ _).drew
        have yv:=ag hj;have Hc:=ag (eA hj HX.o);have hU:=ag (eA hj HY.o);have hf:=ag (eA hj hD.o);have hg:=ag (cY hs.o hj);have hF:=ag (fun y hy=>cY (hp.o y hy) hj);have hR:=ag (cY (Hy).out hj);have hS:=ag (hl.o.below hj hE.o);have hZ:=an hE.o hj.size;have hP:=ag hZ;clear hj HX HY hl hD hs hp
        have hN:=ar (k:=0) hf.o;obtain⟨d0,d1,d2,d3,d4,d5,_⟩:=aT hU.o;have f1:=dD (k:=0) hf.o;simp only[aF,aD]at hN;refine eP (fun w'=>w'.cell? ⟨eb,0,none⟩=some (.slice av ys.length cv2)/\w'.cell? ⟨wr.heap.size+1,0,none⟩=some (.string (it.name))/\w'.cell? ⟨wr.heap.size+1,1,none⟩=some (.int .i64 it.kind)/\w'.cell? ⟨wr.heap.size+1,2,none⟩=some (.int .i64 it.mode)/\w'.cell? ⟨wr.heap.size+1,3,none⟩=some (.int .i64 it.time)/\w'.cell? ⟨wr.heap.size+1,4,none⟩=some (.slice none 0 0)/\w'.cell? ⟨wr.heap.size+1,5,none⟩=some (.string it.link)) (by kernel_rfl) (by kernel_rfl) ?_
        simp only[bu,bw,ay,bp,Nat.reduceAdd,Nat.reduceSub];rw[<-hX];clear hX
        iterate 5 (refine cF rfl ⟨hN,d0,d1,d2,d3,d4,d5⟩ (by rintro w' ⟨HQ,HR,HS,HT,HU,HV,HW⟩; go_simp; rfl) ?_; simp only[bM])
        have hH:eb<W6.heap.size:=am hf.o;have hb:wr.heap.size+1<W6.heap.size:=am hU.o;have hu:=ag ((ak W6.heap.size W6).alloc (ah _) (.cells #[.string (it.name), .int .i64 it.kind, .int .i64 it.mode, .int .i64 it.time, .slice none 0 0, .string it.link] 79));have He:=aB ((hu.o.cell (p:=⟨eb,0,none⟩) hH).trans hN) (aB ((hu.o.cell (p:=⟨wr.heap.size+1,0,none⟩) hb).trans d0) (aB ((hu.o.cell (p:=⟨wr.heap.size+1,1,none⟩) hb).trans d1) (aB ((hu.o.cell (p:=⟨wr.heap.size+1,2,none⟩) hb).trans d2) (aB ((hu.o.cell (p:=⟨wr.heap.size+1,3,none⟩) hb).trans d3) (aB ((hu.o.cell (p:=⟨wr.heap.size+1,4,none⟩) hb).trans d4) ((hu.o.cell (p:=⟨wr.heap.size+1,5,none⟩) hb).trans d5))))))
        have Hz:=ag He;clear He;refine cA 5 rfl (fun K hK=> ?_);go_wp2_with fail
        (first | (refine⟨Hz.o, ?_⟩) | skip)
        refine cA 6 rfl (fun K hK=> ?_);have Ye:ys.length<4096:=by have h1:=h7.o; rw[<-Hd.o,aw]at h1; exact h1
        go_wp2_with (at_builtin; go_must (refine bP Tryz.appEnts rfl _ _ rfl base (.slice av ys.length cv2) ys.length (jx ys) rfl W6 [.string (it.name), .int .i64 it.kind, .int .i64 it.mode, .int .i64 it.time, .slice none 0 0, .string it.link] _ rfl rfl (ln (e:=⟨it.name,it.kind,it.mode,it.time,[],it.link⟩)) hg.o (by omega) (by omega) ?_); intro v' wc hh ha _ Hh; obtain⟨ae,ce,rfl,-,-⟩:=aH hh)
        have hI:(Value.slice av ys.length cv2).ownBlock≠some eb:=fun e=>by obtain⟨cs,hc⟩:=bK hg.o e;exact absurd (bU hf.o hc) (by decide)
        have hw: ∀i,(Value.slice av ys.length cv2).ownBlock=some i->i<wr.heap.size:=fun i e=>by obtain⟨_,ys',_,HN,_⟩:=hA.o.box;exact(HN.lt _ e).2
        have hL:(Value.slice av ys.length cv2).ownBlock≠some (wr.heap.size+1):=fun e=>by have:=hw _ e; omega
        have hJ:(Value.slice av ys.length cv2).ownBlock≠some wr.heap.size:=fun e=>by have:=hw _ e; omega
        have hv:=(ha.block eb hH (fun e=>hI e.symm)).trans hf.o;have h2:=(ha.block (wr.heap.size+1) hb (fun e=>hL e.symm)).trans hU.o;have Hj:=(ha.block wr.heap.size (am Hc.o) (fun e=>hJ e.symm)).trans Hc.o;have he:=lD.push (e:=⟨it.name,it.kind,it.mode,it.time,[],it.link⟩) hf.o hg.o hF.o hR.o hh ha Hh H4 hP.o
        rw[Hd.o]at he;have ho:=ag (hS.o.step he.1 he.2);have hT:=ag ((az wc ⟨eb,0,none⟩ (.slice ae (ys.length+1) ce) wr.heap.size (by show wr.heap.size≠eb; have:=hA.o.lo; have:=hA.o.ord; omega)).trans Hj);have hV:=ag ((az wc ⟨eb,0,none⟩ (.slice ae (ys.length+1) ce) (wr.heap.size+1) (by show wr.heap.size+1≠eb; have:=hA.o.lo; have:=hA.o.ord; omega)).trans h2)
        have c0':=ar (k:=0) hv;have f0':=dD (k:=0) hv;obtain⟨y0,y1,y2,y3,y4,y5,_⟩:=aT h2;simp only[aF,aD]at c0';clear hh ha Hh he hI hL hJ hw hN d0 d1 d2 d3 d4 d5 f1 hv h2 Hj;refine⟨⟨c0',y0,y1,y2,y3,y4,y5⟩, ?_⟩;refine cF rfl ⟨c0',y0,y1,y2,y3,y4,y5⟩ (by rintro w' ⟨HQ,HR,HS,HT,HU,HV,HW⟩; go_simp; rfl) ?_
        simp only[bM];refine cH (by kernel_rfl) ?_;refine eX rfl rfl (fun K hK=> ?_)
        go_upto_region 16 with(fail)
        obtain⟨W8,Hf⟩:=bH (wc.setCell ⟨eb,0,none⟩ (.slice ae (ys.length+1) ce));rw[<-Hf]at ho hT hV ⊢;clear Hf c0' f0' y0 y1 y2 y3 y4 y5;have HX:=hT;have HY:=hV;clear hT hV;obtain⟨c0,c1,_⟩:=aT HX.o;have c6:=ar (k:=6) HX.o;have c7:=ar (k:=7) HX.o;have c8:=ar (k:=8) HX.o;have c9:=ar (k:=9) HX.o;obtain⟨d0,d1,d2,d3,d4,d5,_⟩:=aT HY.o
        simp only[fV]at c6 c7 c8 c9
        by_cases Hr:it.kind=2
        ·have e2:(it.kind == 2)=true:=by simp[Hr]
         have Hs:=Yr.o (it.name) it.node (acc2++[⟨it.name,it.kind,it.mode,it.time,[],it.link⟩]) base eb _ W8 (by have h1:=vF dir it.name H1; rw[Hv.o]at h1; omega) (.inr h9.o) ho.o.box HO.o.nd (HI.o.keepL ho.o.kp.below hB) hB H4 (an Hu ho.o.kp.below.size);have h8:=ag (uS (cs:=cs) (rec:=jz cs n) (r:=l.drop (k+1)) Hv.o h9.o h7.o Hr)
         obtain⟨q,hq⟩:=bH (jz cs n (it.name) it.node (acc2++[⟨it.name,it.kind,it.mode,it.time,[],it.link⟩]));rw[<-hq]at Hs h8;have H7:=ag Hs;clear Hs hq Hr;go_wp2_with fail;refine H7.o.mono ?_;rintro e w9 ⟨rfl,v9,HH,HK⟩;have Hn:=ag (ho.o.step HH HK);clear HH HK c0 c1 c6 c7 c8 c9 d0 d1 d2 d3 d4 d5
         by_cases hx:q.1=0
         ·have e3:(q.1 != 0)=false:=by simp[hx]
          have H6:=ag hx;clear hx;go_wp2_with fail
          go_roundw
          ·exact⟨k+1,v9,q.2,by omega,by go_num,by rw[<-Ho.o,Ht.o,h8.o,if_pos H6.o],Hn.o⟩
          simp[intOf]; omega
         ·have e3:(q.1 != 0)=true:=by simp[hx]
          have H6:=ag hx;clear hx;go_wp2_with fail;go_ret;rw[<-Ho.o,Ht.o,h8.o,if_neg H6.o];exact⟨rfl,v9,Hn.o.box,Hn.o.kp⟩
        ·have e2:(it.kind == 2)=false:=by simp[Hr]
         have h8:=ag (yw (cs:=cs) (rec:=jz cs n) (r:=l.drop (k+1)) Hv.o h9.o h7.o Hr H3.o);clear Hr;go_wp2_with fail;clear c0 c1 c6 c7 c8 c9 d0 d1 d2 d3 d4 d5
         go_roundw
         ·exact⟨k+1,_,_,by omega,by go_num,by rw[<-Ho.o,Ht.o,h8.o],ho.o⟩
         simp[intOf]; omega
      ·have Yn: ¬(acc2.length:Int)<4096:=by omega
       have h7:=ag hO;clear hO;go_wp2_with fail;go_ret;have h1:=Ho.o;rw[Ht.o,kW,if_neg (fun h=>h7.o h.2)]at h1;rw[<-h1];exact⟨rfl,v2,hC.o.box,hC.o.kp⟩
    ·have e2:dir.toList≠[]:=by rw[fF]; intro h; apply Yh; rw[bi,h]; rfl
     have e3:dir.toList.isEmpty=false:=by simpa using e2
     have Yy:lW dir it.name=dir++⟨#[47]⟩++it.name:=by unfold lW; rw[if_neg Yh]
     go_wp2_with fail;rw[<-Yy];obtain⟨pt,Yo⟩: ∃pt,lW dir it.name=pt:=⟨_,rfl⟩;have Hv:=ag Yo;rw[Yo];clear Yo Yy;obtain⟨W,hW⟩:=bH ((wr.alloc (.cells #[.string it.name, .int .i64 it.kind, .int .i64 it.mode, .int .i64 it.time, .int .i64 it.size, .string it.link, .slice ca it.chunks.length cc, .string it.node.name, .int .i64 it.node.gen, .int .i64 it.node.size] 28)).alloc (.cells #[.string (pt), .int .i64 it.kind, .int .i64 it.mode, .int .i64 it.time, .slice none 0 0, .string it.link] 79))
     rw[<-hW];have Hp:=ag (show Below wr.heap.size wr W by rw[hW]; exact(eT).alloc (by simp) _);have Ya:=ag (show W.heap[wr.heap.size]? =some (.cells #[.string it.name, .int .i64 it.kind, .int .i64 it.mode, .int .i64 it.time, .int .i64 it.size, .string it.link, .slice ca it.chunks.length cc, .string it.node.name, .int .i64 it.node.gen, .int .i64 it.node.size] 28 (0,0)) by rw[hW]; exact mz (ez wr _) _)
     have HC:=ag (show W.heap[wr.heap.size+1]? =some (.cells #[.string (pt), .int .i64 it.kind, .int .i64 it.mode, .int .i64 it.time, .slice none 0 0, .string it.link] 79 (0,0)) by rw[hW]; exact ql wr _ _);have Hm:=ag (hA.o.below Hp.o Hx.o);have y6:=ag (show nJ W from(HI.o.keepL (Hm.o.kp.below) hB).env);clear hW q0 q1 q2 q3 q4 q5 q6 q7 q8 q9
     cases Ha:dH (bl (pt))with
     | false=>
      have h9:=ag Ha;clear Ha;refine(nf (pt) false W y6.o h9.o).mono ?_;rintro e w2 ⟨rfl,h3⟩;have hC:=ag (Hm.o.below h3 (an Hx.o Hp.o.size));clear h3;go_wp2_with fail;go_ret;have h1:=Ho.o;rw[Ht.o,kW,if_neg (fun h=>by rw[Hv.o,h9.o]at h; cases h.1)]at h1;rw[<-h1];exact⟨rfl,v2,hC.o.box,hC.o.kp⟩
     | true=>
      have h9:=ag Ha;clear Ha;refine(nf (pt) true W y6.o h9.o).mono ?_;rintro e w2 ⟨rfl,h3⟩;have hC:=ag (Hm.o.below h3 (an Hx.o Hp.o.size));have HX:=ag (eA h3 Ya.o);have HY:=ag (eA h3 HC.o);have h4:=ag (an (an Hx.o Hp.o.size) h3.size);have H8:=ag (show dJ (fun k=>w.heap.size+1<=k/\k<w1.heap.size) w2 (.slice ca it.chunks.length cc) it.chunks from cU.below (cU.below Yt.o (by omega) Hp.o (fun _ _ _ h=>h)) (by omega) h3 (fun _ _ _ h=>h))
      have H2:=ag (Hp.o.trans (h3.mono Hp.o.size));clear h3 Ya HC;obtain⟨ys0,H0,Hi,-⟩:=hC.o.box.2;obtain⟨av0,cv0,yc,yl,Yq⟩:=aH Hi;have HL:ys0.length=acc2.length:=by rw[<-H0,aw]
      rw[HL]at yc yl;have e0:=ar (k:=0) hC.o.box.1;simp only[aF,aD]at e0;rw[yc]at e0;obtain⟨c0,c1,_⟩:=aT HX.o;have c6:=ar (k:=6) HX.o;have c7:=ar (k:=7) HX.o;have c8:=ar (k:=8) HX.o;have c9:=ar (k:=9) HX.o;obtain⟨d0,d1,d2,d3,d4,d5,_⟩:=aT HY.o;simp only[fV]at c6 c7 c8 c9;clear H0 Hi yc HL
      by_cases hO:acc2.length<4096
      ·have Yn:(acc2.length:Int)<4096:=by omega
       have h7:=ag hO;clear hO
       by_cases Hg:it.kind=1
       ·have e1:(it.kind == 1)=true:=by simp[Hg]
        have H3:=ag Hg;have e2:(it.kind == 2)=false:=by simp[Hg]
        have HG:=nK Hg (by have h:=Yu.o; unfold jA at h; rw[aE]at h; exact h.2);have yb:=yC (l:=it.chunks) (by have:=Yf.o; omega) (fun r hr=>(HG.2.2.1 r hr).1) _ (ah _);rw[dw]at yb;have Hq:=vB (fun _=>True) cv (.slice ca it.chunks.length cc) cs it.chunks w2 (fI.wide (HI.o.keepL hC.o.kp.below hB).cont) (dJ.same H8.o (fun k _ _=>⟨trivial,rfl⟩)) yb.1 (by rw[<-HG.2.2.2.1]; exact HG.2.2.2.2) (by have:=Yf.o; omega) (fun r hr=>(HG.2.2.1 r hr).1)
        unfold Bw at Hq;clear Hg HG yb
        cases Hw:oL cs it.chunks []with
        | error x=>
         rw[Hw]at Hq;have Hl:=ag Hq;have H5:=ag Hw;clear Hq Hw;go_wp2_with fail;refine Hl.o.mono ?_;rintro e w5 ⟨hY,rfl,hx⟩;have HZ:=eA hY HX.o;have h0:=eA hY HY.o;have HC:=ag h0;have d4':=ar (k:=4) h0;have f4':=dD (k:=4) h0;simp only[fV]at d4';clear e0 c0 c1 c6 c7 c8 c9 d0 d1 d2 d3 d4 d5;go_wp2_with fail;obtain⟨W5,hM⟩:=bH (w5.setCell ⟨wr.heap.size+1,4,none⟩ (.slice none 0 0))
         rw[<-hM];have y9:=ag hM;have HB:=ag ((show W5.heap[wr.heap.size]? =w5.heap[wr.heap.size]? from by rw[hM,az _ _ _ _ (by show wr.heap.size≠wr.heap.size+1; omega)]).trans HZ);have Hb:=jb (k:=4) h0 (.slice none 0 0);simp only[aX,cG,cr]at Hb;rw[<-hM]at Hb;have HF:=ag Hb;have hl:=ag (show vQ w (w.heap.size+1) w1.heap.size base eb v (.slice (some ⟨b,o,none⟩) m cap1) l W5 v2 acc2 from hA.o.below (by rw[hM]; exact cz (H2.o.trans (hY.mono H2.o.size)) (by show wr.heap.size<=wr.heap.size+1; omega) _) Hx.o)
         have hE:=ag (show base<=W5.heap.size from an h4.o (by rw[hM]; have:=hY.size; simpa [World.setCell]using this));clear hM HZ h0 Hb d4' f4' HX HY hY;have HX:=HB;have HY:=HF;clear HB HF;have Hy:=ag (bN W5 base 5 1);have e4:(x != 0)=true:=by simp[hx]
         have h8:=ag (Bg (cs:=cs) (rec:=jz cs n) (r:=l.drop (k+1)) Hv.o h9.o h7.o H3.o H5.o hx);clear hx;obtain⟨ys,Hk,hz,hG⟩:=hl.o.box.2;obtain⟨av,cv2,HP,Yd,Yc⟩:=aH hz;have hD:=ag hl.o.box.1;have hs:=ag hz;have hp:=ag hG
         have Hd:=ag Hk;subst HP;clear Hk hz hG
         obtain⟨W6,hX⟩:=bH ((W5).drew);have hj:Below (W5).heap.size (W5) W6:=by rw[hX]; exact(ak _ _).drew
         have yv:=ag hj;have Hc:=ag (eA hj HX.o);have hU:=ag (eA hj HY.o);have hf:=ag (eA hj hD.o);have hg:=ag (cY hs.o hj);have hF:=ag (fun y hy=>cY (hp.o y hy) hj);have hR:=ag (cY (Hy).out hj);have hS:=ag (hl.o.below hj hE.o);have hZ:=an hE.o hj.size;have hP:=ag hZ;clear hj HX HY hl hD hs hp
         have hN:=ar (k:=0) hf.o;obtain⟨d0,d1,d2,d3,d4,d5,_⟩:=aT hU.o;have f1:=dD (k:=0) hf.o;simp only[aF,aD]at hN;refine eP (fun w'=>w'.cell? ⟨eb,0,none⟩=some (.slice av ys.length cv2)/\w'.cell? ⟨wr.heap.size+1,0,none⟩=some (.string (pt))/\w'.cell? ⟨wr.heap.size+1,1,none⟩=some (.int .i64 it.kind)/\w'.cell? ⟨wr.heap.size+1,2,none⟩=some (.int .i64 it.mode)/\w'.cell? ⟨wr.heap.size+1,3,none⟩=some (.int .i64 it.time)/\w'.cell? ⟨wr.heap.size+1,4,none⟩=some (.slice none 0 0)/\w'.cell? ⟨wr.heap.size+1,5,none⟩=some (.string it.link)) (by kernel_rfl) (by kernel_rfl) ?_
         simp only[bu,bw,ay,bp,Nat.reduceAdd,Nat.reduceSub];rw[<-hX];clear hX
         iterate 5 (refine cF rfl ⟨hN,d0,d1,d2,d3,d4,d5⟩ (by rintro w' ⟨HQ,HR,HS,HT,HU,HV,HW⟩; go_simp; rfl) ?_; simp only[bM])
         have hH:eb<W6.heap.size:=am hf.o;have hb:wr.heap.size+1<W6.heap.size:=am hU.o;have hu:=ag ((ak W6.heap.size W6).alloc (ah _) (.cells #[.string (pt), .int .i64 it.kind, .int .i64 it.mode, .int .i64 it.time, .slice none 0 0, .string it.link] 79));have He:=aB ((hu.o.cell (p:=⟨eb,0,none⟩) hH).trans hN) (aB ((hu.o.cell (p:=⟨wr.heap.size+1,0,none⟩) hb).trans d0) (aB ((hu.o.cell (p:=⟨wr.heap.size+1,1,none⟩) hb).trans d1) (aB ((hu.o.cell (p:=⟨wr.heap.size+1,2,none⟩) hb).trans d2) (aB ((hu.o.cell (p:=⟨wr.heap.size+1,3,none⟩) hb).trans d3) (aB ((hu.o.cell (p:=⟨wr.heap.size+1,4,none⟩) hb).trans d4) ((hu.o.cell (p:=⟨wr.heap.size+1,5,none⟩) hb).trans d5))))))
         have Hz:=ag He;clear He;refine cA 5 rfl (fun K hK=> ?_);go_wp2_with fail
         (first | (refine⟨Hz.o, ?_⟩) | skip)
         refine cA 6 rfl (fun K hK=> ?_);have Ye:ys.length<4096:=by have h1:=h7.o; rw[<-Hd.o,aw]at h1; exact h1
         go_wp2_with (at_builtin; go_must (refine bP Tryz.appEnts rfl _ _ rfl base (.slice av ys.length cv2) ys.length (jx ys) rfl W6 [.string (pt), .int .i64 it.kind, .int .i64 it.mode, .int .i64 it.time, .slice none 0 0, .string it.link] _ rfl rfl (ln (e:=⟨pt,it.kind,it.mode,it.time,[],it.link⟩)) hg.o (by omega) (by omega) ?_); intro v' wc hh ha _ Hh; obtain⟨ae,ce,rfl,-,-⟩:=aH hh)
         have hI:(Value.slice av ys.length cv2).ownBlock≠some eb:=fun e=>by obtain⟨cs,hc⟩:=bK hg.o e;exact absurd (bU hf.o hc) (by decide)
         have hw: ∀i,(Value.slice av ys.length cv2).ownBlock=some i->i<wr.heap.size:=fun i e=>by obtain⟨_,ys',_,HN,_⟩:=hA.o.box;exact(HN.lt _ e).2
         have hL:(Value.slice av ys.length cv2).ownBlock≠some (wr.heap.size+1):=fun e=>by have:=hw _ e; omega
         have hJ:(Value.slice av ys.length cv2).ownBlock≠some wr.heap.size:=fun e=>by have:=hw _ e; omega
         have hv:=(ha.block eb hH (fun e=>hI e.symm)).trans hf.o;have h2:=(ha.block (wr.heap.size+1) hb (fun e=>hL e.symm)).trans hU.o;have Hj:=(ha.block wr.heap.size (am Hc.o) (fun e=>hJ e.symm)).trans Hc.o;have he:=lD.push (e:=⟨pt,it.kind,it.mode,it.time,[],it.link⟩) hf.o hg.o hF.o hR.o hh ha Hh H4 hP.o;rw[Hd.o]at he
         have ho:=ag (hS.o.step he.1 he.2);have hT:=ag ((az wc ⟨eb,0,none⟩ (.slice ae (ys.length+1) ce) wr.heap.size (by show wr.heap.size≠eb; have:=hA.o.lo; have:=hA.o.ord; omega)).trans Hj);have hV:=ag ((az wc ⟨eb,0,none⟩ (.slice ae (ys.length+1) ce) (wr.heap.size+1) (by show wr.heap.size+1≠eb; have:=hA.o.lo; have:=hA.o.ord; omega)).trans h2)
         have c0':=ar (k:=0) hv;have f0':=dD (k:=0) hv;obtain⟨y0,y1,y2,y3,y4,y5,_⟩:=aT h2;simp only[aF,aD]at c0';clear hh ha Hh he hI hL hJ hw hN d0 d1 d2 d3 d4 d5 f1 hv h2 Hj;refine⟨⟨c0',y0,y1,y2,y3,y4,y5⟩, ?_⟩;refine cF rfl ⟨c0',y0,y1,y2,y3,y4,y5⟩ (by rintro w' ⟨HQ,HR,HS,HT,HU,HV,HW⟩; go_simp; rfl) ?_
         simp only[bM];refine cH (by kernel_rfl) ?_;refine eX rfl rfl (fun K hK=> ?_)
         go_upto_region 16 with(fail)
         obtain⟨W8,Hf⟩:=bH (wc.setCell ⟨eb,0,none⟩ (.slice ae (ys.length+1) ce));rw[<-Hf]at ho hT hV ⊢;clear Hf c0' f0' y0 y1 y2 y3 y4 y5;have HX:=hT;have HY:=hV;clear hT hV;obtain⟨c0,c1,_⟩:=aT HX.o;have c6:=ar (k:=6) HX.o;have c7:=ar (k:=7) HX.o;have c8:=ar (k:=8) HX.o;have c9:=ar (k:=9) HX.o;obtain⟨d0,d1,d2,d3,d4,d5,_⟩:=aT HY.o
         simp only[fV]at c6 c7 c8 c9;go_wp2_with fail;go_ret;rw[<-Ho.o,Ht.o,h8.o];exact⟨rfl,_,ho.o.box,ho.o.kp⟩
        | ok bs=>
         rw[Hw]at Hq;have Hl:=ag Hq;have H5:=ag Hw;clear Hq Hw;go_wp2_with fail;refine Hl.o.mono ?_;rintro e w5 ⟨hY,v5,rfl,ya⟩;obtain⟨a5,c5,rfl,-,-⟩:=aH ya;have y8:=ag ya;clear ya;have HZ:=eA hY HX.o;have h0:=eA hY HY.o;have HC:=ag h0;have d4':=ar (k:=4) h0;have f4':=dD (k:=4) h0;simp only[fV]at d4';clear e0 c0 c1 c6 c7 c8 c9 d0 d1 d2 d3 d4 d5
         go_wp2_with fail;obtain⟨W5,hM⟩:=bH (w5.setCell ⟨wr.heap.size+1,4,none⟩ (.slice a5 bs.length c5));rw[<-hM];have y9:=ag hM;have HB:=ag ((show W5.heap[wr.heap.size]? =w5.heap[wr.heap.size]? from by rw[hM,az _ _ _ _ (by show wr.heap.size≠wr.heap.size+1; omega)]).trans HZ);have Hb:=jb (k:=4) h0 (.slice a5 bs.length c5);simp only[aX,cG,cr]at Hb
         rw[<-hM]at Hb;have HF:=ag Hb;have hl:=ag (show vQ w (w.heap.size+1) w1.heap.size base eb v (.slice (some ⟨b,o,none⟩) m cap1) l W5 v2 acc2 from hA.o.below (by rw[hM]; exact cz (H2.o.trans (hY.mono H2.o.size)) (by show wr.heap.size<=wr.heap.size+1; omega) _) Hx.o);have hE:=ag (show base<=W5.heap.size from an h4.o (by rw[hM]; have:=hY.size; simpa [World.setCell]using this))
         clear hM HZ h0 Hb d4' f4' HX HY hY;have HX:=HB;have HY:=HF;clear HB HF;have Hy:=ag (show W5.ownsRow base 5 1 (.slice a5 bs.length c5) bs.length (bs.map aZ)from by rw[y9.o];refine(gP y8.o h4.o).kept (cJ w5 _ _ _) (.inr (fun e=> ?_));obtain⟨cs2,Ym⟩:=bK y8.o e;exact absurd (bU HC.o Ym) (by decide))
         have h8:=ag (ti (cs:=cs) (rec:=jz cs n) (r:=l.drop (k+1)) Hv.o h9.o h7.o H3.o H5.o);obtain⟨ys,Hk,hz,hG⟩:=hl.o.box.2;obtain⟨av,cv2,HP,Yd,Yc⟩:=aH hz;have hD:=ag hl.o.box.1;have hs:=ag hz;have hp:=ag hG
         have Hd:=ag Hk;subst HP;clear Hk hz hG
         obtain⟨W6,hX⟩:=bH ((W5).drew);have hj:Below (W5).heap.size (W5) W6:=by rw[hX]; exact(ak _ _).drew
         have yv:=ag hj;have Hc:=ag (eA hj HX.o);have hU:=ag (eA hj HY.o);have hf:=ag (eA hj hD.o);have hg:=ag (cY hs.o hj);have hF:=ag (fun y hy=>cY (hp.o y hy) hj);have hR:=ag (cY (Hy).out hj);have hS:=ag (hl.o.below hj hE.o);have hZ:=an hE.o hj.size;have hP:=ag hZ;clear hj HX HY hl hD hs hp
         have hN:=ar (k:=0) hf.o;obtain⟨d0,d1,d2,d3,d4,d5,_⟩:=aT hU.o;have f1:=dD (k:=0) hf.o;simp only[aF,aD]at hN;refine eP (fun w'=>w'.cell? ⟨eb,0,none⟩=some (.slice av ys.length cv2)/\w'.cell? ⟨wr.heap.size+1,0,none⟩=some (.string (pt))/\w'.cell? ⟨wr.heap.size+1,1,none⟩=some (.int .i64 it.kind)/\w'.cell? ⟨wr.heap.size+1,2,none⟩=some (.int .i64 it.mode)/\w'.cell? ⟨wr.heap.size+1,3,none⟩=some (.int .i64 it.time)/\w'.cell? ⟨wr.heap.size+1,4,none⟩=some (.slice a5 bs.length c5)/\w'.cell? ⟨wr.heap.size+1,5,none⟩=some (.string it.link)) (by kernel_rfl) (by kernel_rfl) ?_
         simp only[bu,bw,ay,bp,Nat.reduceAdd,Nat.reduceSub];rw[<-hX];clear hX
         iterate 5 (refine cF rfl ⟨hN,d0,d1,d2,d3,d4,d5⟩ (by rintro w' ⟨HQ,HR,HS,HT,HU,HV,HW⟩; go_simp; rfl) ?_; simp only[bM])
         have hH:eb<W6.heap.size:=am hf.o;have hb:wr.heap.size+1<W6.heap.size:=am hU.o;have hu:=ag ((ak W6.heap.size W6).alloc (ah _) (.cells #[.string (pt), .int .i64 it.kind, .int .i64 it.mode, .int .i64 it.time, .slice a5 bs.length c5, .string it.link] 79));have He:=aB ((hu.o.cell (p:=⟨eb,0,none⟩) hH).trans hN) (aB ((hu.o.cell (p:=⟨wr.heap.size+1,0,none⟩) hb).trans d0) (aB ((hu.o.cell (p:=⟨wr.heap.size+1,1,none⟩) hb).trans d1) (aB ((hu.o.cell (p:=⟨wr.heap.size+1,2,none⟩) hb).trans d2) (aB ((hu.o.cell (p:=⟨wr.heap.size+1,3,none⟩) hb).trans d3) (aB ((hu.o.cell (p:=⟨wr.heap.size+1,4,none⟩) hb).trans d4) ((hu.o.cell (p:=⟨wr.heap.size+1,5,none⟩) hb).trans d5))))))
         have Hz:=ag He;clear He;refine cA 5 rfl (fun K hK=> ?_);go_wp2_with fail
         (first | (refine⟨Hz.o, ?_⟩) | skip)
         refine cA 6 rfl (fun K hK=> ?_);have Ye:ys.length<4096:=by have h1:=h7.o; rw[<-Hd.o,aw]at h1; exact h1
         go_wp2_with (at_builtin; go_must (refine bP Tryz.appEnts rfl _ _ rfl base (.slice av ys.length cv2) ys.length (jx ys) rfl W6 [.string (pt), .int .i64 it.kind, .int .i64 it.mode, .int .i64 it.time, .slice a5 bs.length c5, .string it.link] _ rfl rfl (ln (e:=⟨pt,it.kind,it.mode,it.time,bs,it.link⟩)) hg.o (by omega) (by omega) ?_); intro v' wc hh ha _ Hh; obtain⟨ae,ce,rfl,-,-⟩:=aH hh)
         have hI:(Value.slice av ys.length cv2).ownBlock≠some eb:=fun e=>by obtain⟨cs,hc⟩:=bK hg.o e;exact absurd (bU hf.o hc) (by decide)
         have hw: ∀i,(Value.slice av ys.length cv2).ownBlock=some i->i<wr.heap.size:=fun i e=>by obtain⟨_,ys',_,HN,_⟩:=hA.o.box;exact(HN.lt _ e).2
         have hL:(Value.slice av ys.length cv2).ownBlock≠some (wr.heap.size+1):=fun e=>by have:=hw _ e; omega
         have hJ:(Value.slice av ys.length cv2).ownBlock≠some wr.heap.size:=fun e=>by have:=hw _ e; omega
         have hv:=(ha.block eb hH (fun e=>hI e.symm)).trans hf.o;have h2:=(ha.block (wr.heap.size+1) hb (fun e=>hL e.symm)).trans hU.o;have Hj:=(ha.block wr.heap.size (am Hc.o) (fun e=>hJ e.symm)).trans Hc.o;have he:=lD.push (e:=⟨pt,it.kind,it.mode,it.time,bs,it.link⟩) hf.o hg.o hF.o hR.o hh ha Hh H4 hP.o;rw[Hd.o]at he
         have ho:=ag (hS.o.step he.1 he.2);have hT:=ag ((az wc ⟨eb,0,none⟩ (.slice ae (ys.length+1) ce) wr.heap.size (by show wr.heap.size≠eb; have:=hA.o.lo; have:=hA.o.ord; omega)).trans Hj);have hV:=ag ((az wc ⟨eb,0,none⟩ (.slice ae (ys.length+1) ce) (wr.heap.size+1) (by show wr.heap.size+1≠eb; have:=hA.o.lo; have:=hA.o.ord; omega)).trans h2)
         have c0':=ar (k:=0) hv;have f0':=dD (k:=0) hv;obtain⟨y0,y1,y2,y3,y4,y5,_⟩:=aT h2;simp only[aF,aD]at c0';clear hh ha Hh he hI hL hJ hw hN d0 d1 d2 d3 d4 d5 f1 hv h2 Hj;refine⟨⟨c0',y0,y1,y2,y3,y4,y5⟩, ?_⟩;refine cF rfl ⟨c0',y0,y1,y2,y3,y4,y5⟩ (by rintro w' ⟨HQ,HR,HS,HT,HU,HV,HW⟩; go_simp; rfl) ?_
         simp only[bM];refine cH (by kernel_rfl) ?_;refine eX rfl rfl (fun K hK=> ?_)
         go_upto_region 16 with(fail)
         obtain⟨W8,Hf⟩:=bH (wc.setCell ⟨eb,0,none⟩ (.slice ae (ys.length+1) ce));rw[<-Hf]at ho hT hV ⊢;clear Hf c0' f0' y0 y1 y2 y3 y4 y5;have HX:=hT;have HY:=hV;clear hT hV;obtain⟨c0,c1,_⟩:=aT HX.o;have c6:=ar (k:=6) HX.o;have c7:=ar (k:=7) HX.o;have c8:=ar (k:=8) HX.o;have c9:=ar (k:=9) HX.o;obtain⟨d0,d1,d2,d3,d4,d5,_⟩:=aT HY.o
         simp only[fV]at c6 c7 c8 c9;go_wp2_with fail;clear c0 c1 c6 c7 c8 c9 d0 d1 d2 d3 d4 d5
         go_roundw
         ·exact⟨k+1,_,_,by omega,by go_num,by rw[<-Ho.o,Ht.o,h8.o],ho.o⟩
         simp[intOf]; omega
       ·have e1:(it.kind == 1)=false:=by simp[Hg]
        have H3:=ag Hg;clear Hg;have hl:=hC;have hE:=h4;have Hy:=ag (bN w2 base 5 1);go_wp2_with fail;clear e0 c0 c1 c6 c7 c8 c9 d0 d1 d2 d3 d4 d5;obtain⟨ys,Hk,hz,hG⟩:=hl.o.box.2;obtain⟨av,cv2,HP,Yd,Yc⟩:=aH hz;have hD:=ag hl.o.box.1;have hs:=ag hz;have hp:=ag hG
        have Hd:=ag Hk;subst HP;clear Hk hz hG
        obtain⟨W6,hX⟩:=bH ((w2).drew);have hj:Below (w2).heap.size (w2) W6:=by rw[hX]; exact(ak _ _).drew
        have yv:=ag hj;have Hc:=ag (eA hj HX.o);have hU:=ag (eA hj HY.o);have hf:=ag (eA hj hD.o);have hg:=ag (cY hs.o hj);have hF:=ag (fun y hy=>cY (hp.o y hy) hj);have hR:=ag (cY (Hy).out hj);have hS:=ag (hl.o.below hj hE.o);have hZ:=an hE.o hj.size;have hP:=ag hZ;clear hj HX HY hl hD hs hp
        have hN:=ar (k:=0) hf.o;obtain⟨d0,d1,d2,d3,d4,d5,_⟩:=aT hU.o;have f1:=dD (k:=0) hf.o;simp only[aF,aD]at hN;refine eP (fun w'=>w'.cell? ⟨eb,0,none⟩=some (.slice av ys.length cv2)/\w'.cell? ⟨wr.heap.size+1,0,none⟩=some (.string (pt))/\w'.cell? ⟨wr.heap.size+1,1,none⟩=some (.int .i64 it.kind)/\w'.cell? ⟨wr.heap.size+1,2,none⟩=some (.int .i64 it.mode)/\w'.cell? ⟨wr.heap.size+1,3,none⟩=some (.int .i64 it.time)/\w'.cell? ⟨wr.heap.size+1,4,none⟩=some (.slice none 0 0)/\w'.cell? ⟨wr.heap.size+1,5,none⟩=some (.string it.link)) (by kernel_rfl) (by kernel_rfl) ?_
        simp only[bu,bw,ay,bp,Nat.reduceAdd,Nat.reduceSub];rw[<-hX];clear hX
        iterate 5 (refine cF rfl ⟨hN,d0,d1,d2,d3,d4,d5⟩ (by rintro w' ⟨HQ,HR,HS,HT,HU,HV,HW⟩; go_simp; rfl) ?_; simp only[bM])
        have hH:eb<W6.heap.size:=am hf.o;have hb:wr.heap.size+1<W6.heap.size:=am hU.o;have hu:=ag ((ak W6.heap.size W6).alloc (ah _) (.cells #[.string (pt), .int .i64 it.kind, .int .i64 it.mode, .int .i64 it.time, .slice none 0 0, .string it.link] 79));have He:=aB ((hu.o.cell (p:=⟨eb,0,none⟩) hH).trans hN) (aB ((hu.o.cell (p:=⟨wr.heap.size+1,0,none⟩) hb).trans d0) (aB ((hu.o.cell (p:=⟨wr.heap.size+1,1,none⟩) hb).trans d1) (aB ((hu.o.cell (p:=⟨wr.heap.size+1,2,none⟩) hb).trans d2) (aB ((hu.o.cell (p:=⟨wr.heap.size+1,3,none⟩) hb).trans d3) (aB ((hu.o.cell (p:=⟨wr.heap.size+1,4,none⟩) hb).trans d4) ((hu.o.cell (p:=⟨wr.heap.size+1,5,none⟩) hb).trans d5))))))
        have Hz:=ag He;clear He;refine cA 5 rfl (fun K hK=> ?_);go_wp2_with fail
        (first | (refine⟨Hz.o, ?_⟩) | skip)
        refine cA 6 rfl (fun K hK=> ?_);have Ye:ys.length<4096:=by have h1:=h7.o; rw[<-Hd.o,aw]at h1; exact h1
        go_wp2_with (at_builtin; go_must (refine bP Tryz.appEnts rfl _ _ rfl base (.slice av ys.length cv2) ys.length (jx ys) rfl W6 [.string (pt), .int .i64 it.kind, .int .i64 it.mode, .int .i64 it.time, .slice none 0 0, .string it.link] _ rfl rfl (ln (e:=⟨pt,it.kind,it.mode,it.time,[],it.link⟩)) hg.o (by omega) (by omega) ?_); intro v' wc hh ha _ Hh; obtain⟨ae,ce,rfl,-,-⟩:=aH hh)
        have hI:(Value.slice av ys.length cv2).ownBlock≠some eb:=fun e=>by obtain⟨cs,hc⟩:=bK hg.o e;exact absurd (bU hf.o hc) (by decide)
        have hw: ∀i,(Value.slice av ys.length cv2).ownBlock=some i->i<wr.heap.size:=fun i e=>by obtain⟨_,ys',_,HN,_⟩:=hA.o.box;exact(HN.lt _ e).2
        have hL:(Value.slice av ys.length cv2).ownBlock≠some (wr.heap.size+1):=fun e=>by have:=hw _ e; omega
        have hJ:(Value.slice av ys.length cv2).ownBlock≠some wr.heap.size:=fun e=>by have:=hw _ e; omega
        have hv:=(ha.block eb hH (fun e=>hI e.symm)).trans hf.o;have h2:=(ha.block (wr.heap.size+1) hb (fun e=>hL e.symm)).trans hU.o;have Hj:=(ha.block wr.heap.size (am Hc.o) (fun e=>hJ e.symm)).trans Hc.o;have he:=lD.push (e:=⟨pt,it.kind,it.mode,it.time,[],it.link⟩) hf.o hg.o hF.o hR.o hh ha Hh H4 hP.o;rw[Hd.o]at he
        have ho:=ag (hS.o.step he.1 he.2);have hT:=ag ((az wc ⟨eb,0,none⟩ (.slice ae (ys.length+1) ce) wr.heap.size (by show wr.heap.size≠eb; have:=hA.o.lo; have:=hA.o.ord; omega)).trans Hj);have hV:=ag ((az wc ⟨eb,0,none⟩ (.slice ae (ys.length+1) ce) (wr.heap.size+1) (by show wr.heap.size+1≠eb; have:=hA.o.lo; have:=hA.o.ord; omega)).trans h2)
        have c0':=ar (k:=0) hv;have f0':=dD (k:=0) hv;obtain⟨y0,y1,y2,y3,y4,y5,_⟩:=aT h2;simp only[aF,aD]at c0';clear hh ha Hh he hI hL hJ hw hN d0 d1 d2 d3 d4 d5 f1 hv h2 Hj;refine⟨⟨c0',y0,y1,y2,y3,y4,y5⟩, ?_⟩;refine cF rfl ⟨c0',y0,y1,y2,y3,y4,y5⟩ (by rintro w' ⟨HQ,HR,HS,HT,HU,HV,HW⟩; go_simp; rfl) ?_
        simp only[bM];refine cH (by kernel_rfl) ?_;refine eX rfl rfl (fun K hK=> ?_)
        go_upto_region 16 with(fail)
        obtain⟨W8,Hf⟩:=bH (wc.setCell ⟨eb,0,none⟩ (.slice ae (ys.length+1) ce));rw[<-Hf]at ho hT hV ⊢;clear Hf c0' f0' y0 y1 y2 y3 y4 y5;have HX:=hT;have HY:=hV;clear hT hV;obtain⟨c0,c1,_⟩:=aT HX.o;have c6:=ar (k:=6) HX.o;have c7:=ar (k:=7) HX.o;have c8:=ar (k:=8) HX.o;have c9:=ar (k:=9) HX.o;obtain⟨d0,d1,d2,d3,d4,d5,_⟩:=aT HY.o
        simp only[fV]at c6 c7 c8 c9
        by_cases Hr:it.kind=2
        ·have e2:(it.kind == 2)=true:=by simp[Hr]
         have Hs:=Yr.o (pt) it.node (acc2++[⟨pt,it.kind,it.mode,it.time,[],it.link⟩]) base eb _ W8 (by have h1:=vF dir it.name H1; rw[Hv.o]at h1; omega) (.inr h9.o) ho.o.box HO.o.nd (HI.o.keepL ho.o.kp.below hB) hB H4 (an Hu ho.o.kp.below.size);have h8:=ag (uS (cs:=cs) (rec:=jz cs n) (r:=l.drop (k+1)) Hv.o h9.o h7.o Hr);obtain⟨q,hq⟩:=bH (jz cs n (pt) it.node (acc2++[⟨pt,it.kind,it.mode,it.time,[],it.link⟩]))
         rw[<-hq]at Hs h8;have H7:=ag Hs;clear Hs hq Hr;go_wp2_with fail;refine H7.o.mono ?_;rintro e w9 ⟨rfl,v9,HH,HK⟩;have Hn:=ag (ho.o.step HH HK);clear HH HK c0 c1 c6 c7 c8 c9 d0 d1 d2 d3 d4 d5
         by_cases hx:q.1=0
         ·have e3:(q.1 != 0)=false:=by simp[hx]
          have H6:=ag hx;clear hx;go_wp2_with fail
          go_roundw
          ·exact⟨k+1,v9,q.2,by omega,by go_num,by rw[<-Ho.o,Ht.o,h8.o,if_pos H6.o],Hn.o⟩
          simp[intOf]; omega
         ·have e3:(q.1 != 0)=true:=by simp[hx]
          have H6:=ag hx;clear hx;go_wp2_with fail;go_ret;rw[<-Ho.o,Ht.o,h8.o,if_neg H6.o];exact⟨rfl,v9,Hn.o.box,Hn.o.kp⟩
        ·have e2:(it.kind == 2)=false:=by simp[Hr]
         have h8:=ag (yw (cs:=cs) (rec:=jz cs n) (r:=l.drop (k+1)) Hv.o h9.o h7.o Hr H3.o);clear Hr;go_wp2_with fail;clear c0 c1 c6 c7 c8 c9 d0 d1 d2 d3 d4 d5
         go_roundw
         ·exact⟨k+1,_,_,by omega,by go_num,by rw[<-Ho.o,Ht.o,h8.o],ho.o⟩
         simp[intOf]; omega
      ·have Yn: ¬(acc2.length:Int)<4096:=by omega
       have h7:=ag hO;clear hO;go_wp2_with fail;go_ret;have h1:=Ho.o;rw[Ht.o,kW,if_neg (fun h=>h7.o h.2)]at h1;rw[<-h1];exact⟨rfl,v2,hC.o.box,hC.o.kp⟩
   ·have Hr:k=m:=by omega
    subst Hr;go_wp2_with fail;go_ret;have h1:=Ho.o;rw[HM.o,jh,kW]at h1;rw[<-h1];exact⟨rfl,v2,hA.o.box,hA.o.kp⟩
theorem DK (cs:List (ByteArray×List UInt8)) (cv:Value) (B:Nat): ∀n,GX cs cv B n
 | 0=>Kq cs cv B
 | n+1=>Ko cs cv B n (DK cs cv B n)
def GV (B:Nat) (w:World) (v:Value) (acc:List dk):Prop:= ∃ys:List pX,ys.map Prod.snd=acc/\w.ownsRow B 79 6 v ys.length (jx ys)/\ ∀y∈ys,w.ownsRow B 5 1 y.1 y.2.data.length (y.2.data.map aZ)
def OQ (cs:List (ByteArray×List UInt8)) (root:bY) (w:World) (e:Ending) (w':World):Prop:=Below w.heap.size w w'/\match vD cs root with
 | .error x=>e= .returned (.tuple #[.slice none 0 0, .int .i64 x])/\x≠0
 | .ok l=> ∃v,e= .returned (.tuple #[v, .int .i64 0])/\GV w.heap.size w' v l
theorem DO (S:Nat->Prop) (cv:Value) (cs:List (ByteArray×List UInt8)) (root:bY) (w:World) (hc:fI S w cv cs) (henv:nJ w) (hr:dZ root):Calls Tryz.prog 25 #[eC root,cv] w (OQ cs root w):=by
 have hh:=ag ((ak w.heap.size w).alloc (ah _) (.cells #[.string root.name, .int .i64 root.gen, .int .i64 root.size] 26));have hw:=ag (ez w (.cells #[.string root.name, .int .i64 root.gen, .int .i64 root.size] 26));have HI:=ag (kU.start (hc.below hh.o) (henv.below hh.o));have HR:=ag hr;unfold eC;clear hc henv hr
 cases hv:lj root
 ·have hl:=ag hv;have HM:=ag (show vD cs root= .error 1 by unfold vD; rw[if_neg (by rw[hv]; simp)]);clear hv
  go_enter Tryz.func25,Tryz.ntmps25
  go_wp2_with fail;refine(iD root false _ HR.o hl.o).mono ?_;rintro e w1 ⟨rfl,ha⟩;have hb:=ag (aj hh.o ha);clear ha;go_wp2_with fail
  go_ret2
  exact⟨hb.o,by rw[HM.o]; exact⟨rfl,by decide⟩⟩
 ·have hl:=ag hv;obtain⟨q,hq⟩:=bH (jz cs 514 ⟨#[]⟩ root []);have HM:=ag (show vD cs root=if q.1=0 then .ok q.2 else .error q.1 by unfold vD; rw[if_pos hv,hq]);have HQ:=ag hq;clear hv hq
  go_enter Tryz.func25,Tryz.ntmps25
  go_wp2_with fail;refine(iD root true _ HR.o hl.o).mono ?_;rintro e w1 ⟨rfl,ha⟩;have hb:=ag (aj hh.o ha);have hk:=eA ha hw.o;have hz:=ag hk;have hA:=am hk;have hp:=kU.keepL (base:=w1.heap.size) (HI.o.keepL ha (ah _)) ((ak w1.heap.size w1).alloc (ah _) (.cells #[.slice none 0 0] 46)) ha.size;have hm:=DK cs cv _ 514 ⟨#[]⟩ root [] w1.heap.size w1.heap.size (.slice none 0 0) (w1.alloc (.cells #[.slice none 0 0] 46)) (by simp) (.inl rfl)
   ⟨ez w1 _,[],rfl,bN _ _ _ _,by simp⟩ HR.o hp ha.size (ah _) (by simp)
  rw[<-HQ.o]at hm;have ho:=ag hm;unfold eC at ho;obtain⟨c0,c1,c2,_⟩:=aT hk;clear ha hk hm hp;go_wp2_with fail;refine ho.o.mono ?_;rintro e w2 ⟨rfl,v2,hd,hg⟩;obtain⟨ys,hs,he,hf⟩:=hd.2;obtain⟨a2,c2',rfl,-,-⟩:=aH he;have e0:=ar (k:=0) hd.1;simp only[aF,aD]at e0;have hn:=ag (show Below w.heap.size w w2 from(hb.o.alloc hb.o.size (.cells #[.slice none 0 0] 46)).trans (hg.below.mono hb.o.size))
  have hu:=ag (show GV w.heap.size w2 (.slice a2 ys.length c2') q.2 from⟨ys,hs,gP he hb.o.size,fun y hy=>gP (hf y hy) hb.o.size⟩);clear hd hg hs he hf c0 c1 c2
  by_cases hx:q.1=0
  ·have e1:(q.1 != 0)=false:=by simp[hx]
   have hj:=ag hx;clear hx;go_wp2_with fail
   go_ret2
   exact⟨hn.o,by rw[HM.o,if_pos hj.o]; exact⟨_,rfl,hu.o⟩⟩
  ·have e1:(q.1 != 0)=true:=by simp[hx]
   have hj:=ag hx;clear hx;go_wp2_with fail
   go_ret2
   exact⟨hn.o,by rw[HM.o,if_neg hj.o]; exact⟨rfl,hj.o⟩⟩
open Go Go.RowKit Go.Maps
structure rZ (w : World) : Prop where
 env:nJ w
 envh:Bv w
 deb:Cu w
theorem rZ.keep {B:Nat} {w w':World} (h:rZ w) (hb:Below B w w') (h7:7<=B):rZ w':=
 ⟨h.env.belowB hb (by omega) (by omega) (by omega),⟨fun j x hj=>(hb.cell (p:=⟨2,j,none⟩) (show 2<B by omega)).trans (h.envh.init j x hj),fun j x hj=>(hb.cell (p:=⟨5,j,none⟩) (show 5<B by omega)).trans (h.envh.kons j x hj),⟨(hb.cell (p:=⟨0,0,none⟩) (show 0<B by omega)).trans h.envh.pads.1,(hb.cell (p:=⟨0,1,none⟩) (show 0<B by omega)).trans h.envh.pads.2⟩,
  aO h.envh.ilt hb.size,aO h.envh.klt hb.size,aO h.envh.plt hb.size⟩,h.deb.block (hb.block _ (show 6<B by omega)) hb.size⟩
theorem rZ.seven {w:World} (h:rZ w):7<=w.heap.size:=by have:=h.deb.lt;omega
theorem rZ.below {w w':World} (h:rZ w) (hb:Below w.heap.size w w'):rZ w':=h.keep hb h.seven
theorem OY {a:Act} {w:World} {b:Nat} {x0 x1 x2 e5:Value} (h:w.heap[b]? =some (.cells #[x0,x1,x2] 26 (0,0)))
  (h4:a.tmps[4]? =some (.pointer (some ⟨b,0,none⟩))) (h5:a.tmps[5]? =some e5):(results Tryz.f123 a.tmps).run Tryz.prog w= .ok (.tuple #[.agg #[x0,x1,x2],e5]) w:=by
 obtain⟨m0,m1,m2,_⟩:=aT h;simp[results,Tryz.results123,go_sem,h4,h5,m0,m1,m2]
theorem wg {a:Act} {w:World} {b:Nat} {a0 a1 a2 x0 x1 x2 e5:Value} {Q:Ending->World->Prop} (h:w.heap[b]? =some (.cells #[a0,a1,a2] 26 (0,0)))
  (h4:a.tmps[4]? =some (.pointer (some ⟨b,0,none⟩))) (h5:a.tmps[5]? =some e5) (hd:a.defers=[])
  (hQ:Q (.returned (.tuple #[.agg #[x0,x1,x2],e5])) (((w.setCell ⟨b,0,none⟩ x0).setCell ⟨b,1,none⟩ x1).setCell ⟨b,2,none⟩ x2)):
  bodyPost Tryz.prog Tryz.f123 Q Exit.ret a (((w.setCell ⟨b,0,none⟩ x0).setCell ⟨b,1,none⟩ x1).setCell ⟨b,2,none⟩ x2):=cS (OY (vK h) h4 h5) hd hQ
theorem ju.ofGrown {base bb kb:Nat} {v:Value} {w w':World} (h:w.grownBy w' (some kb)) (hb:base<=w.heap.size) (hk:base<=kb):ju base bb kb v v w w':=
 ⟨(ak base w).grown h hb (fun i e=>by cases e; exact hk),fun i h1 _ h3 _=>h.block i h1 (fun e=>h3 (bt e)),fun _ e=> .inl e⟩
theorem ju.setNew {base bb kb b j:Nat} {v v' u:Value} {w w':World} (h:ju base bb kb v v' w w') (hb:w.heap.size<=b) (hbz:base<=w.heap.size):ju base bb kb v v' w (w'.setCell ⟨b,j,none⟩ u):=
 ⟨cz h.below (show base<=b by omega) u,fun i h1 h2 h3 h4=>(az _ _ _ _ (show i≠b by omega)).trans (h.same i h1 h2 h3 h4),h.place⟩
theorem kP.other {w w':World} {base bb im kb b:Nat} {k:dq} {c:fQ} {gv v:Value} {bs:List cQ} {cs:Array Value} {t:TypeId} {z:Nat×Nat} (h:kP w base bb k c gv im kb v bs) (hb:w.heap[b]? =some (.cells cs t z)) (h1:t≠122) (h2:t≠53) (h3:t≠5) (hs: ∀i,i≠b->i<w.heap.size->w'.heap[i]? =w.heap[i]?):kP w' base bb k c gv im kb v bs:=by
 obtain⟨zs,hz,hr,hd⟩:=h.own;refine⟨(hs bb (fun e=> ?_) (am h.box)).trans h.box,⟨zs,hz,fj hr (fun i hi hu=>hs i (fun e=> ?_) hi),fun y hy=>fj (hd y hy) (fun i hi hu=>hs i (fun e=> ?_) hi)⟩,h.known.same (hs kb (fun e=>h.known.cells (by rw[e]; exact hb)) h.known.map.lt)⟩
 ·subst e; exact h1 (bU hb h.box)
 ·subst e;obtain⟨cs2,ha⟩:=bK hr hu;exact h2 (bU hb ha)
 ·subst e;obtain⟨cs2,ha⟩:=bK (hd y hy) hu;exact h3 (bU hb ha)
theorem AR (gs:List (ByteArray×Int)) (hgs: ∀p∈gs,0<=p.2/\p.2<=1099511627776) (n:ByteArray):0<=mU gs n/\mU gs n<=1099511627776:=by
 unfold mU
 cases hf:gs.find? (fun p=>decide (p.1=n))with
 | none=>exact⟨by decide,by decide⟩
 | some p=>exact hgs p (ed hf)
theorem vn {S:Nat->Prop} {w:World} {v:Value} {bs:List UInt8} {kb:Nat} {l:List bY} (h:bB S w v bs) (hk:iU w kb l):bB (fun i=>i≠kb/\i<w.heap.size) w v bs:=by
 obtain⟨h1,a,cap,rfl,h2,h3,h4⟩:=h;refine⟨h1,a,cap,rfl,h2,h3, ?_⟩
 rcases h4 with h4 | ⟨b,o,rfl,hS,hc⟩
 ·exact .inl h4
 ·cases bs with
  | nil=>exact .inl rfl
  | cons y ys=>
   have q:=hc 0 (aZ y) rfl;refine .inr ⟨b,o,rfl,⟨fun e=> ?_,cR q⟩,hc⟩;subst e;obtain⟨es,clock,hb,_⟩:=hk.map;simp[World.cell?,hb]at q
def EW (base bb kb:Nat) (k:dq) (c:fQ) (gs:List (ByteArray×Int)) (gv:Value) (im:Nat) (v:Value) (bs:List cQ) (x:List UInt8) (w:World) (e:Ending) (w':World):Prop:=
 e= .returned (.tuple #[eC (bF k gs x), .int .i64 0])/\ ∃v',kP w' base bb k c gv im kb v' (kh k gs bs x)/\ju base bb kb v v' w w'
theorem Ie (S:Nat->Prop) (base bb kb im:Nat) (k:dq) (c:fQ) (gs:List (ByteArray×Int)) (gv v cv:Value) (bs:List cQ) (x:List UInt8) (w:World) (h:kP w base bb k c gv im kb v bs) (hk:jK k=true) (hg:ld (· <base) w gv gs) (hgs: ∀p∈gs,0<=p.2/\p.2<=1099511627776)
  (hx:bB S w cv x) (hl:x.length<=32768) (hE:rZ w) (hbb:base<=bb) (hkb:base<=kb) (hbz:base<=w.heap.size) (_h7:7<=base) (hn:bs.length<1000000000000):
  Calls Tryz.prog 123 #[.pointer (some ⟨bb,0,none⟩),cv] w (EW base bb kb k c gs gv im v bs x w):=by
 obtain⟨_,a,cap,rfl,H2,Yj,-⟩:=id hx;have HX:=ag hx;obtain⟨xl,ya⟩:=bH x.length;rw[<-ya]at hl H2 ⊢;have hG:=ag ya;obtain⟨W0,Hj⟩:=bH ((w.alloc (.cells #[.string ⟨#[]⟩, .int .i64 0, .int .i64 0] 26)).alloc (.cells #[.string ⟨#[]⟩, .int .i64 0, .int .i64 (xl:Int)] 26));have HB:Below w.heap.size w W0:=by rw[Hj]; exact(eT).alloc (by simp) _
 have yb:=ag HB;have Ye:=ag (show W0.heap[w.heap.size]? =some (.cells #[.string ⟨#[]⟩, .int .i64 0, .int .i64 0] 26 (0,0)) by rw[Hj]; exact mz (ez w _) _);have HO:=ag (show W0.heap[w.heap.size+1]? =some (.cells #[.string ⟨#[]⟩, .int .i64 0, .int .i64 (xl:Int)] 26 (0,0)) by rw[Hj]; exact ql w _ _);have Ya:=ag (h.below HB);have HH:=ag h;have HK:=ag hk;have HG:=ag hg
 have Yc:=ag hgs;have HE:=ag (hE.below HB);have yl:=ag hE;have y6:bb<w.heap.size:=am h.box;have hs:=ag Ya.o.box;have k0:=ar (k:=0) hs.o;have k1:=ar (k:=1) hs.o;have k2:=ar (k:=2) hs.o;have k3:=ar (k:=3) hs.o;have k4:=ar (k:=4) hs.o;have k10:=ar (k:=10) hs.o;have k12:=ar (k:=12) hs.o;have k13:=ar (k:=13) hs.o
 simp only[nB,eW,gx,aK,aJ,fV]at k0 k1 k2 k3 k4 k10 k12 k13;clear h hk hg hgs hx hE HB ya Yj
 go_enter Tryz.func123,Tryz.ntmps123
 go_upto_region 3 with(fail)
 rw[<-Hj];clear Hj;have Yh:bB S W0 (.slice a xl cap) x:=by have h1:=HX.o; rw[<-hG.o]at h1; exact bX.below h1 (by omega) yb.o
 have h0:=ud S k 0 x (.slice a xl cap) W0 HK.o (by omega) Yh (by rw[<-hG.o]; exact hl) HE.o.envh;unfold kJ at h0;have Yd:=ag h0;have f0:=ar (k:=0) HO.o;have fz0:=dD (k:=0) HO.o;simp only[aF,aD]at f0;clear h0;go_wp2_with fail;refine Yd.o.mono ?_;rintro e w1 ⟨rfl,HC⟩;obtain⟨n0,HJ⟩:=bH (ms k 0 x);rw[<-HJ]
 have Yn:n0.size=32:=by rw[HJ]; exact lG _ _ _
 have HF:=eA HC HO.o;have y7:=eA HC Ye.o;have f0':=ar (k:=0) HF;have fz0':=dD (k:=0) HF;simp only[aF,aD]at f0';have HS:=ag HJ;clear HJ k0 k1 k2 k3 k4 k10 k12 k13 f0 fz0;go_wp2_with fail;obtain⟨W2,Hk⟩:=bH ((w1.setCell ⟨w.heap.size+1,0,none⟩ (.string n0)).drew);have Hn:Below w.heap.size w W2:=by rw[Hk]; exact(cz (aj yb.o HC) (show w.heap.size<=w.heap.size+1 by omega) _).drew
 have yc:=ag Hn;have H3:=jb (k:=0) HF (.string n0);simp only[aX,cr]at H3;have He:=ag (show W2.heap[w.heap.size+1]? =some (.cells #[.string n0, .int .i64 0, .int .i64 (xl:Int)] 26 (0,0)) by rw[Hk]; exact H3);have yp:=ag (show W2.heap[w.heap.size]? =some (.cells #[.string ⟨#[]⟩, .int .i64 0, .int .i64 0] 26 (0,0)) by rw[Hk]; exact(az _ _ _ _ (by show w.heap.size≠w.heap.size+1; omega)).trans y7)
 have HM:=ag (HH.o.below Hn);have hu:=ag HM.o.box;have Yl:=Dj (HG.o.keep (w':=W2) (fun i h1 h2=>Hn.block i h2)) (n:=n0) (by rw[Yn]; unfold maxLen; omega);have Yp:=ag (yl.o.below Hn);obtain⟨g,hg⟩:=bH (mU gs n0);have y5:=AR gs Yc.o n0;rw[<-hg]at Yl y5;have yn:=ag hg;have k0:=ar (k:=0) hu.o;have k1:=ar (k:=1) hu.o;have k2:=ar (k:=2) hu.o
 have k3:=ar (k:=3) hu.o;have k4:=ar (k:=4) hu.o;have k10:=ar (k:=10) hu.o;have k12:=ar (k:=12) hu.o;have k13:=ar (k:=13) hu.o;simp only[nB,eW,gx,aK,aJ,fV]at k0 k1 k2 k3 k4 k10 k12 k13;have f0:=ar (k:=0) He.o;simp only[aF,aD]at f0;clear HF y7 f0' fz0' Hn H3 hg HC
 refine bL [some 8] (by kernel_rfl) (by kernel_rfl) (by kernel_rfl) ?_;simp only[ef,aS,aY];rw[<-Hk];clear Hk
 repeat (first | (refine cy rfl ?_; simp only[bM]) | (refine cP rfl (fun K hK=> ?_); go_simp; refine hK _ ?_; clear hK K))
 refine cO ?_;obtain⟨r,hr⟩:=bH (bF k gs x);have hZ:=ag hr;have H8:r.size=(xl:Int):=by rw[hr,hG.o]; rfl
 have H6:r.gen=g:=by rw[hr,yn.o,HS.o]; rfl
 have H7:r.name=ms k g.toNat x:=by rw[hr,yn.o,HS.o]; rfl
 have HA:=ag (show dZ r from⟨by rw[H7,lG]; unfold maxLen; omega,by rw[H6]; exact WalkArith.wf_i64 ⟨by omega,by omega⟩,by rw[H8]; exact WalkArith.wf_i64 ⟨by omega,by omega⟩⟩);have y3:=ag H7;have yv:=ag H6;have y4:=ag H8;clear hr H7 H6 H8 k0 k1 k2 k3 k4 k10 k12 k13
 by_cases Yk:g=0
 ·go_wp2_with fail;have HP:=ag (show W2.heap[w.heap.size+1]? =some (.cells #[.string r.name, .int .i64 r.gen, .int .i64 r.size] 26 (0,0)) by rw[y3.o,yv.o,y4.o,Yk,Int.toNat_zero,<-HS.o]; exact He.o);have HL:=yc;have HW:=yp;clear f0;obtain⟨W6,hI⟩:=bH ((W2).drew);have hJ:Below (W2).heap.size (W2) W6:=by rw[hI]; exact(ak _ _).drew
  have hA:=ag (aj HL.o hJ);have Hf:=ag (eA hJ HP.o);have hF:=ag (eA hJ HW.o);have he:=ag (HH.o.below hA.o);have hc:=ag he.o.box;have k0:=ar (k:=0) hc.o;have k1:=ar (k:=1) hc.o;have k2:=ar (k:=2) hc.o;have k3:=ar (k:=3) hc.o;have k4:=ar (k:=4) hc.o;have k10:=ar (k:=10) hc.o;have k12:=ar (k:=12) hc.o
  have k13:=ar (k:=13) hc.o;simp only[nB,eW,gx,aK,aJ,fV]at k0 k1 k2 k3 k4 k10 k12 k13;obtain⟨f0,f1,f2,_⟩:=aT Hf.o;have hW:=he.o.known.look HA.o;unfold eC at hW
  by_cases hy:r∈bs.map cQ.ref
  ·have e1:decide (r∈bs.map cQ.ref)=true:=by simp[hy]
   rw[e1]at hW;have h8:=ag (show kh k gs bs x=bs by unfold kh; rw[<-hZ.o,if_pos hy]);clear hJ hy e1;refine bL [some 7] (by kernel_rfl) (by kernel_rfl) (by kernel_rfl) ?_;simp only[ef,aS,aY];rw[<-hI];clear hI
   repeat (first | (refine cy rfl ?_; simp only[bM]) | (refine cP rfl (fun K hK=> ?_); go_simp; refine hK _ ?_; clear hK K))
   refine cO ?_;obtain⟨z0,z1,z2,_⟩:=aT hF.o;obtain⟨y0,y1,y2,_⟩:=gT hF.o;go_wp2_with fail;refine wg hF.o rfl rfl rfl ?_;refine⟨by rw[<-hZ.o]; rfl,v, ?_, ?_⟩
   ·rw[h8.o];exact he.o.other hF.o (by decide) (by decide) (by decide) (fun i hi _=>eB hi)
   ·exact((((ju.ofBelow hA.o hbz).setNew (ah _) hbz).setNew (ah _) hbz).setNew (ah _) hbz)
  ·have e1:decide (r∈bs.map cQ.ref)=false:=by simp[hy]
   rw[e1]at hW;have h8:=ag (show kh k gs bs x=bs++[⟨r,x⟩] by unfold kh; rw[<-hZ.o,if_neg hy]);have HT:=ag hy;clear hJ hy e1;refine bL [some 7] (by kernel_rfl) (by kernel_rfl) (by kernel_rfl) ?_;simp only[ef,aS,aY];rw[<-hI];clear hI
   repeat (first | (refine cy rfl ?_; simp only[bM]) | (refine cP rfl (fun K hK=> ?_); go_simp; refine hK _ ?_; clear hK K))
   refine cO ?_;go_wp2_with fail;refine bL [some 5,none] (by kernel_rfl) (by kernel_rfl) (by kernel_rfl) ?_;simp only[ef,aS,aY,bA,bQ]
   repeat (first | (refine cy rfl ?_; simp only[bM]) | (refine cP rfl (fun K hK=> ?_); go_simp; refine hK _ ?_; clear hK K))
   refine cO ?_;refine eE rfl (fun K hK=> ?_);have HR:=ag (he.o.known.same (w':=W6.drew) rfl);go_wp2_with (at_mapUpdate; go_must (refine kq rfl _ _ _ rfl kb (bs.map cQ.ref) HR.o rfl r HA.o rfl rfl HT.o ?_); intro w7 hP Hq);obtain⟨W8,hU⟩:=bH w7.drew;have hp:W6.grownBy W8 (some kb):=by rw[hU]; exact bW (b:=W6.drew) ⟨rfl,rfl,rfl,ah _,fun _ _ _=>rfl⟩ (bW Hq ⟨rfl,rfl,rfl,ah _,fun _ _ _=>rfl⟩)
   have Ha:=ag (show iU W8 kb ((bs++[(⟨r,x⟩:cQ)]).map cQ.ref) by rw[hU,aI]; exact hP.same rfl);have Ym:kb<w.heap.size:=HH.o.known.map.lt;have Hd:bb≠kb:=fun e=>he.o.known.cells (e▸hc.o)
   have hL:=mq hp hc.o Hd;have hd:=ag hL;have Hp:=mq hp Hf.o (by omega);have Hs:=mq hp hF.o (by omega);have Hg:=ag Hp;have HY:=ag Hs;obtain⟨zs,Hz,hB⟩:=he.o.own;have Hi:=ag Hz;have hC:=ag (show iz W8 base v zs from⟨hB.row.kept hp (.inr (fun e=>by obtain⟨cs2,hN⟩:=bK hB.row e; exact he.o.known.cells hN)),fun z hz=>(hB.dat z hz).kept hp (.inr (fun e=>by obtain⟨cs2,hN⟩:=bK (hB.dat z hz) e; exact he.o.known.cells hN))⟩)
   obtain⟨av,cv8,H9,-,-⟩:=aH hB.row;subst H9;have h7:=ag ((ju.ofBelow hA.o hbz).trans (ju.ofGrown (bb:=bb) (v:= .slice av zs.length cv8) hp (an hbz hA.o.size) hkb));have Hb:=ag (an hA.o.size hp.size);have H0:=ag (show bX (fun _=>True) W8 1 (.slice a xl cap) xl (x.map aZ)from by have h1:=HX.o;rw[<-hG.o]at h1;have h2:bB S W6 (.slice a xl cap) x:=bX.below h1 (by omega) hA.o;have h3:=bX.same (w':=W8) (vn h2 he.o.known) (fun i hi=>hp.block i hi.2 (fun e=>hi.1 (bt e)));have h4:=bX.weak (T:=fun _=>True) h3 (fun _ _=>trivial);rw[<-hG.o]at h4;exact h4)
   clear hP Hq hp hL Hp Hs Hz hB f0 f1 f2 k0 k1 k2 k3 k4 k10 k12 k13 hW;obtain⟨f0,f1,f2,_⟩:=aT Hg.o;have k0:=ar (k:=0) hd.o;have k1:=ar (k:=1) hd.o;have k2:=ar (k:=2) hd.o;have k3:=ar (k:=3) hd.o;have k4:=ar (k:=4) hd.o;have k10:=ar (k:=10) hd.o;have k12:=ar (k:=12) hd.o;have k13:=ar (k:=13) hd.o;simp only[nB,eW,gx,aK,aJ,fV]at k0 k1 k2 k3 k4 k10 k12 k13
   refine eP (fun w'=>w'.cell? ⟨bb,12,none⟩=some (.slice av zs.length cv8)/\w'.cell? ⟨w.heap.size+1,0,none⟩=some (.string r.name)/\w'.cell? ⟨w.heap.size+1,1,none⟩=some (.int .i64 r.gen)/\w'.cell? ⟨w.heap.size+1,2,none⟩=some (.int .i64 r.size)) (by kernel_rfl) (by kernel_rfl) ?_;simp only[bu,bw,ay,bp,Nat.reduceAdd,Nat.reduceSub]
   rw[<-hU];clear hU
   iterate 7 (refine cF rfl ⟨k12,f0,f1,f2⟩ (by rintro w' ⟨Hu,Hv,Hw,Hx⟩; go_simp; rfl) ?_; simp only[bM])
   refine cA 7 rfl (fun K hK=> ?_);have Hy:0+xl<1099511627775:=by omega
   go_wp2_with (at_builtin; go_must (refine dV Tryz.appBytes rfl _ _ rfl W8.heap.size (.slice none 0 0) 0 [] rfl (bN _ _ _ _) (.slice a xl cap) xl (x.map aZ) rfl H0.o (fE x) Hy (ah _) ?_); intro v9 w9 hh hm; rw[bO,aJ]at hh; obtain⟨a9,c9,rfl,-,-⟩:=aH hh);have hV:Below W8.heap.size W8 w9:=jE hm
   have hS:=ag hV;have HV:=ag (show w9.ownsRow base 5 1 (.slice a9 xl c9) x.length (x.map aZ) by rw[<-hG.o]; exact gP hh (an hbz Hb.o));have ha:=ag (eA hV hd.o);have hT:=ag (eA hV Hg.o);clear hh hm hV Hy k0 k1 k2 k3 k4 k10 k12 k13 f0 f1 f2;obtain⟨f0,f1,f2,_⟩:=aT hT.o;have k0:=ar (k:=0) ha.o;have k1:=ar (k:=1) ha.o
   have k2:=ar (k:=2) ha.o;have k3:=ar (k:=3) ha.o;have k4:=ar (k:=4) ha.o;have k10:=ar (k:=10) ha.o;have k12:=ar (k:=12) ha.o;have k13:=ar (k:=13) ha.o;simp only[nB,eW,gx,aK,aJ,fV]at k0 k1 k2 k3 k4 k10 k12 k13;refine⟨⟨k12,f0,f1,f2⟩, ?_⟩;refine cF rfl ⟨k12,f0,f1,f2⟩ (by rintro w' ⟨Hu,Hv,Hw,Hx⟩; go_simp; rfl) ?_
   simp only[bM];have hO:bb<w9.heap.size:=am ha.o;have hq:w.heap.size+1<w9.heap.size:=am hT.o;have hR:=ag ((ak w9.heap.size w9).alloc (ah _) (.cells #[.string r.name, .int .i64 r.gen, .int .i64 r.size, .slice a9 xl c9] 53));have HZ:=ag (aB ((hR.o.cell (p:=⟨bb,12,none⟩) hO).trans k12) (aB ((hR.o.cell (p:=⟨w.heap.size+1,0,none⟩) hq).trans f0) (aB ((hR.o.cell (p:=⟨w.heap.size+1,1,none⟩) hq).trans f1) ((hR.o.cell (p:=⟨w.heap.size+1,2,none⟩) hq).trans f2))))
   refine cA 9 rfl (fun K hK=> ?_);go_wp2_with fail
   (first | (refine⟨HZ.o, ?_⟩) | skip)
   refine cA 10 rfl (fun K hK=> ?_);have Yo:zs.length<1000000000000:=by have h1:=hn; rw[<-Hi.o,aw]at h1; exact h1
   have Hh:=ag (hC.o.below hS.o);go_wp2_with (at_builtin; go_must (refine bP Tryz.appBlobs rfl _ _ rfl base (.slice av zs.length cv8) zs.length (iw zs) rfl w9 [.string r.name, .int .i64 r.gen, .int .i64 r.size, .slice a9 xl c9] _ rfl rfl (rI (b:=⟨r,x⟩)) Hh.o.row (by omega) (by have:=Hb.o; have:=hS.o.size; omega) ?_); intro v' wc ho hb _ Hr; obtain⟨ae,ce,rfl,-,-⟩:=aH ho)
   have hX: ∀i cs t z,w9.heap[i]? =some (.cells cs t z)->t≠53->(Value.slice av zs.length cv8).ownBlock≠some i:=fun i cs t z hi ht e=>by obtain⟨cs2,hN⟩:=bK Hh.o.row e;exact ht (bU hi hN)
   have hY:=eA hS.o HY.o;have hM:=(hb.block bb hO (fun e=>hX _ _ _ _ ha.o (by decide) e.symm)).trans ha.o;have Hc:=(hb.block (w.heap.size+1) hq (fun e=>hX _ _ _ _ hT.o (by decide) e.symm)).trans hT.o;have Ht:=(hb.block w.heap.size (am hY) (fun e=>hX _ _ _ _ hY (by decide) e.symm)).trans hY;have hf:=ag hM;have HQ:=ag Hc;have hw:=kP.push (b:=⟨r,x⟩) Hi.o hC.o hd.o Ha.o hS.o HV.o ho hb Hr hbb (an hbz Hb.o)
   have h9:=ag hw;have H1:=y6;have hD:=ag ((az wc ⟨bb,12,none⟩ (.slice ae (zs.length+1) ce) (w.heap.size+1) (by show w.heap.size+1≠bb; omega)).trans Hc);have hj:=ag ((az wc ⟨bb,12,none⟩ (.slice ae (zs.length+1) ce) w.heap.size (by show w.heap.size≠bb; omega)).trans Ht);clear ho hb Hr hw hX hY hM Hc Ht k0 k1 k2 k3 k4 k10 k12 k13 f0 f1 f2
   obtain⟨f0,f1,f2,_⟩:=aT HQ.o;have k0:=ar (k:=0) hf.o;have k1:=ar (k:=1) hf.o;have k2:=ar (k:=2) hf.o;have k3:=ar (k:=3) hf.o;have k4:=ar (k:=4) hf.o;have k10:=ar (k:=10) hf.o;have k12:=ar (k:=12) hf.o;have k13:=ar (k:=13) hf.o;simp only[nB,eW,gx,aK,aJ,fV]at k0 k1 k2 k3 k4 k10 k12 k13
   have kz12:=dD (k:=12) hf.o;refine⟨⟨k12,f0,f1,f2⟩, ?_⟩
   iterate 2 (refine cF rfl ⟨k12,f0,f1,f2⟩ (by rintro w' ⟨Hu,Hv,Hw,Hx⟩; go_simp; rfl) ?_; simp only[bM])
   refine cH (by kernel_rfl) ?_;refine eX rfl rfl (fun K hK=> ?_)
   go_upto_region 13 with(fail)
   obtain⟨Yg,hH⟩:=bH (wc.setCell ⟨bb,12,none⟩ (.slice ae (zs.length+1) ce));rw[<-hH]at h9 hD hj ⊢;clear hH k0 k1 k2 k3 k4 k10 k12 k13 f0 f1 f2 kz12;obtain⟨f0,f1,f2,_⟩:=aT hD.o;obtain⟨z0,z1,z2,_⟩:=aT hj.o;obtain⟨y0,y1,y2,_⟩:=gT hj.o;go_wp2_with fail;refine wg hj.o rfl rfl rfl ?_;refine⟨by rw[<-hZ.o]; rfl, .slice ae (zs.length+1) ce,And.symm ⟨?_, ?_⟩⟩
   ·exact(((h7.o.trans h9.o.2).setNew (ah _) hbz).setNew (ah _) hbz).setNew (ah _) hbz
   ·rw[h8.o];exact h9.o.1.other hj.o (by decide) (by decide) (by decide) (fun i hi _=>eB hi)
 ·have f1:=ar (k:=1) He.o;have fz1:=dD (k:=1) He.o;simp only[fV]at f1
  go_upto_region 7 with(fail)
  obtain⟨W3,Hl⟩:=bH (W2.setCell ⟨w.heap.size+1,1,none⟩ (.int .i64 g));rw[<-Hl];have Ho:Below w.heap.size w W3:=by rw[Hl]; exact cz yc.o (show w.heap.size<=w.heap.size+1 by omega) _
  have y9:=ag Ho;have H4:=jb (k:=1) He.o (.int .i64 g);simp only[aX,cG,cr]at H4;have Yb:=ag (show W3.heap[w.heap.size+1]? =some (.cells #[.string n0, .int .i64 g, .int .i64 (xl:Int)] 26 (0,0)) by rw[Hl]; exact H4);have Yf:=ag (show W3.heap[w.heap.size]? =some (.cells #[.string ⟨#[]⟩, .int .i64 0, .int .i64 0] 26 (0,0)) by rw[Hl]; exact(az _ _ _ _ (by show w.heap.size≠w.heap.size+1; omega)).trans yp.o)
  have HN:=ag (HH.o.below Ho);have hv:=ag HN.o.box;have Yi:bB S W3 (.slice a xl cap) x:=by have h1:=HX.o; rw[<-hG.o]at h1; exact bX.below h1 (by omega) Ho
  have h0:=ud S k g.toNat x (.slice a xl cap) W3 HK.o (by omega) Yi (by rw[<-hG.o]; exact hl) (yl.o.below Ho).envh;rw[Int.toNat_of_nonneg y5.1,<-y3.o]at h0;unfold kJ at h0;have HU:=ag h0;have k0:=ar (k:=0) hv.o;have k1:=ar (k:=1) hv.o;have k2:=ar (k:=2) hv.o;have k3:=ar (k:=3) hv.o;have k4:=ar (k:=4) hv.o;have k10:=ar (k:=10) hv.o
  have k12:=ar (k:=12) hv.o;have k13:=ar (k:=13) hv.o;simp only[nB,eW,gx,aK,aJ,fV]at k0 k1 k2 k3 k4 k10 k12 k13;clear Hl Ho H4 h0 f0 f1 fz1;go_wp2_with fail;refine HU.o.mono ?_;rintro e w4 ⟨rfl,HD⟩;have HI:=eA HD Yb.o;have y8:=eA HD Yf.o;have f0:=ar (k:=0) HI;have fz0:=dD (k:=0) HI;simp only[aF,aD]at f0
  clear k0 k1 k2 k3 k4 k10 k12 k13;go_wp2_with fail;obtain⟨W5,Hm⟩:=bH (w4.setCell ⟨w.heap.size+1,0,none⟩ (.string r.name));rw[<-Hm];have HL:=ag (show Below w.heap.size w W5 by rw[Hm]; exact cz (aj y9.o HD) (show w.heap.size<=w.heap.size+1 by omega) _);have H5:=jb (k:=0) HI (.string r.name);simp only[aX,cr]at H5
  have HP:=ag (show W5.heap[w.heap.size+1]? =some (.cells #[.string r.name, .int .i64 r.gen, .int .i64 r.size] 26 (0,0)) by rw[Hm,yv.o,y4.o]; exact H5);have HW:=ag (show W5.heap[w.heap.size]? =some (.cells #[.string ⟨#[]⟩, .int .i64 0, .int .i64 0] 26 (0,0)) by rw[Hm]; exact(az _ _ _ _ (by show w.heap.size≠w.heap.size+1; omega)).trans y8);clear Hm HI y8 f0 fz0 HD H5
  obtain⟨W6,hI⟩:=bH ((W5).drew);have hJ:Below (W5).heap.size (W5) W6:=by rw[hI]; exact(ak _ _).drew
  have hA:=ag (aj HL.o hJ);have Hf:=ag (eA hJ HP.o);have hF:=ag (eA hJ HW.o);have he:=ag (HH.o.below hA.o);have hc:=ag he.o.box;have k0:=ar (k:=0) hc.o;have k1:=ar (k:=1) hc.o;have k2:=ar (k:=2) hc.o;have k3:=ar (k:=3) hc.o;have k4:=ar (k:=4) hc.o;have k10:=ar (k:=10) hc.o;have k12:=ar (k:=12) hc.o
  have k13:=ar (k:=13) hc.o;simp only[nB,eW,gx,aK,aJ,fV]at k0 k1 k2 k3 k4 k10 k12 k13;obtain⟨f0,f1,f2,_⟩:=aT Hf.o;have hW:=he.o.known.look HA.o;unfold eC at hW
  by_cases hy:r∈bs.map cQ.ref
  ·have e1:decide (r∈bs.map cQ.ref)=true:=by simp[hy]
   rw[e1]at hW;have h8:=ag (show kh k gs bs x=bs by unfold kh; rw[<-hZ.o,if_pos hy]);clear hJ hy e1;refine bL [some 7] (by kernel_rfl) (by kernel_rfl) (by kernel_rfl) ?_;simp only[ef,aS,aY];rw[<-hI];clear hI
   repeat (first | (refine cy rfl ?_; simp only[bM]) | (refine cP rfl (fun K hK=> ?_); go_simp; refine hK _ ?_; clear hK K))
   refine cO ?_;obtain⟨z0,z1,z2,_⟩:=aT hF.o;obtain⟨y0,y1,y2,_⟩:=gT hF.o;go_wp2_with fail;refine wg hF.o rfl rfl rfl ?_;refine⟨by rw[<-hZ.o]; rfl,v, ?_, ?_⟩
   ·rw[h8.o];exact he.o.other hF.o (by decide) (by decide) (by decide) (fun i hi _=>eB hi)
   ·exact((((ju.ofBelow hA.o hbz).setNew (ah _) hbz).setNew (ah _) hbz).setNew (ah _) hbz)
  ·have e1:decide (r∈bs.map cQ.ref)=false:=by simp[hy]
   rw[e1]at hW;have h8:=ag (show kh k gs bs x=bs++[⟨r,x⟩] by unfold kh; rw[<-hZ.o,if_neg hy]);have HT:=ag hy;clear hJ hy e1;refine bL [some 7] (by kernel_rfl) (by kernel_rfl) (by kernel_rfl) ?_;simp only[ef,aS,aY];rw[<-hI];clear hI
   repeat (first | (refine cy rfl ?_; simp only[bM]) | (refine cP rfl (fun K hK=> ?_); go_simp; refine hK _ ?_; clear hK K))
   refine cO ?_;go_wp2_with fail;refine bL [some 5,none] (by kernel_rfl) (by kernel_rfl) (by kernel_rfl) ?_;simp only[ef,aS,aY,bA,bQ]
   repeat (first | (refine cy rfl ?_; simp only[bM]) | (refine cP rfl (fun K hK=> ?_); go_simp; refine hK _ ?_; clear hK K))
   refine cO ?_;refine eE rfl (fun K hK=> ?_);have HR:=ag (he.o.known.same (w':=W6.drew) rfl);go_wp2_with (at_mapUpdate; go_must (refine kq rfl _ _ _ rfl kb (bs.map cQ.ref) HR.o rfl r HA.o rfl rfl HT.o ?_); intro w7 hP Hq);obtain⟨W8,hU⟩:=bH w7.drew;have hp:W6.grownBy W8 (some kb):=by rw[hU]; exact bW (b:=W6.drew) ⟨rfl,rfl,rfl,ah _,fun _ _ _=>rfl⟩ (bW Hq ⟨rfl,rfl,rfl,ah _,fun _ _ _=>rfl⟩)
   have Ha:=ag (show iU W8 kb ((bs++[(⟨r,x⟩:cQ)]).map cQ.ref) by rw[hU,aI]; exact hP.same rfl);have Ym:kb<w.heap.size:=HH.o.known.map.lt;have Hd:bb≠kb:=fun e=>he.o.known.cells (e▸hc.o)
   have hL:=mq hp hc.o Hd;have hd:=ag hL;have Hp:=mq hp Hf.o (by omega);have Hs:=mq hp hF.o (by omega);have Hg:=ag Hp;have HY:=ag Hs;obtain⟨zs,Hz,hB⟩:=he.o.own;have Hi:=ag Hz;have hC:=ag (show iz W8 base v zs from⟨hB.row.kept hp (.inr (fun e=>by obtain⟨cs2,hN⟩:=bK hB.row e; exact he.o.known.cells hN)),fun z hz=>(hB.dat z hz).kept hp (.inr (fun e=>by obtain⟨cs2,hN⟩:=bK (hB.dat z hz) e; exact he.o.known.cells hN))⟩)
   obtain⟨av,cv8,H9,-,-⟩:=aH hB.row;subst H9;have h7:=ag ((ju.ofBelow hA.o hbz).trans (ju.ofGrown (bb:=bb) (v:= .slice av zs.length cv8) hp (an hbz hA.o.size) hkb));have Hb:=ag (an hA.o.size hp.size);have H0:=ag (show bX (fun _=>True) W8 1 (.slice a xl cap) xl (x.map aZ)from by have h1:=HX.o;rw[<-hG.o]at h1;have h2:bB S W6 (.slice a xl cap) x:=bX.below h1 (by omega) hA.o;have h3:=bX.same (w':=W8) (vn h2 he.o.known) (fun i hi=>hp.block i hi.2 (fun e=>hi.1 (bt e)));have h4:=bX.weak (T:=fun _=>True) h3 (fun _ _=>trivial);rw[<-hG.o]at h4;exact h4)
   clear hP Hq hp hL Hp Hs Hz hB f0 f1 f2 k0 k1 k2 k3 k4 k10 k12 k13 hW;obtain⟨f0,f1,f2,_⟩:=aT Hg.o;have k0:=ar (k:=0) hd.o;have k1:=ar (k:=1) hd.o;have k2:=ar (k:=2) hd.o;have k3:=ar (k:=3) hd.o;have k4:=ar (k:=4) hd.o;have k10:=ar (k:=10) hd.o;have k12:=ar (k:=12) hd.o;have k13:=ar (k:=13) hd.o;simp only[nB,eW,gx,aK,aJ,fV]at k0 k1 k2 k3 k4 k10 k12 k13
   refine eP (fun w'=>w'.cell? ⟨bb,12,none⟩=some (.slice av zs.length cv8)/\w'.cell? ⟨w.heap.size+1,0,none⟩=some (.string r.name)/\w'.cell? ⟨w.heap.size+1,1,none⟩=some (.int .i64 r.gen)/\w'.cell? ⟨w.heap.size+1,2,none⟩=some (.int .i64 r.size)) (by kernel_rfl) (by kernel_rfl) ?_;simp only[bu,bw,ay,bp,Nat.reduceAdd,Nat.reduceSub]
   rw[<-hU];clear hU
   iterate 7 (refine cF rfl ⟨k12,f0,f1,f2⟩ (by rintro w' ⟨Hu,Hv,Hw,Hx⟩; go_simp; rfl) ?_; simp only[bM])
   refine cA 7 rfl (fun K hK=> ?_);have Hy:0+xl<1099511627775:=by omega
   go_wp2_with (at_builtin; go_must (refine dV Tryz.appBytes rfl _ _ rfl W8.heap.size (.slice none 0 0) 0 [] rfl (bN _ _ _ _) (.slice a xl cap) xl (x.map aZ) rfl H0.o (fE x) Hy (ah _) ?_); intro v9 w9 hh hm; rw[bO,aJ]at hh; obtain⟨a9,c9,rfl,-,-⟩:=aH hh);have hV:Below W8.heap.size W8 w9:=jE hm
   have hS:=ag hV;have HV:=ag (show w9.ownsRow base 5 1 (.slice a9 xl c9) x.length (x.map aZ) by rw[<-hG.o]; exact gP hh (an hbz Hb.o));have ha:=ag (eA hV hd.o);have hT:=ag (eA hV Hg.o);clear hh hm hV Hy k0 k1 k2 k3 k4 k10 k12 k13 f0 f1 f2;obtain⟨f0,f1,f2,_⟩:=aT hT.o;have k0:=ar (k:=0) ha.o;have k1:=ar (k:=1) ha.o
   have k2:=ar (k:=2) ha.o;have k3:=ar (k:=3) ha.o;have k4:=ar (k:=4) ha.o;have k10:=ar (k:=10) ha.o;have k12:=ar (k:=12) ha.o;have k13:=ar (k:=13) ha.o;simp only[nB,eW,gx,aK,aJ,fV]at k0 k1 k2 k3 k4 k10 k12 k13;refine⟨⟨k12,f0,f1,f2⟩, ?_⟩;refine cF rfl ⟨k12,f0,f1,f2⟩ (by rintro w' ⟨Hu,Hv,Hw,Hx⟩; go_simp; rfl) ?_
   simp only[bM];have hO:bb<w9.heap.size:=am ha.o;have hq:w.heap.size+1<w9.heap.size:=am hT.o;have hR:=ag ((ak w9.heap.size w9).alloc (ah _) (.cells #[.string r.name, .int .i64 r.gen, .int .i64 r.size, .slice a9 xl c9] 53));have HZ:=ag (aB ((hR.o.cell (p:=⟨bb,12,none⟩) hO).trans k12) (aB ((hR.o.cell (p:=⟨w.heap.size+1,0,none⟩) hq).trans f0) (aB ((hR.o.cell (p:=⟨w.heap.size+1,1,none⟩) hq).trans f1) ((hR.o.cell (p:=⟨w.heap.size+1,2,none⟩) hq).trans f2))))
   refine cA 9 rfl (fun K hK=> ?_);go_wp2_with fail
   (first | (refine⟨HZ.o, ?_⟩) | skip)
   refine cA 10 rfl (fun K hK=> ?_);have Yo:zs.length<1000000000000:=by have h1:=hn; rw[<-Hi.o,aw]at h1; exact h1
   have Hh:=ag (hC.o.below hS.o);go_wp2_with (at_builtin; go_must (refine bP Tryz.appBlobs rfl _ _ rfl base (.slice av zs.length cv8) zs.length (iw zs) rfl w9 [.string r.name, .int .i64 r.gen, .int .i64 r.size, .slice a9 xl c9] _ rfl rfl (rI (b:=⟨r,x⟩)) Hh.o.row (by omega) (by have:=Hb.o; have:=hS.o.size; omega) ?_); intro v' wc ho hb _ Hr; obtain⟨ae,ce,rfl,-,-⟩:=aH ho)
   have hX: ∀i cs t z,w9.heap[i]? =some (.cells cs t z)->t≠53->(Value.slice av zs.length cv8).ownBlock≠some i:=fun i cs t z hi ht e=>by obtain⟨cs2,hN⟩:=bK Hh.o.row e;exact ht (bU hi hN)
   have hY:=eA hS.o HY.o;have hM:=(hb.block bb hO (fun e=>hX _ _ _ _ ha.o (by decide) e.symm)).trans ha.o;have Hc:=(hb.block (w.heap.size+1) hq (fun e=>hX _ _ _ _ hT.o (by decide) e.symm)).trans hT.o;have Ht:=(hb.block w.heap.size (am hY) (fun e=>hX _ _ _ _ hY (by decide) e.symm)).trans hY;have hf:=ag hM;have HQ:=ag Hc;have hw:=kP.push (b:=⟨r,x⟩) Hi.o hC.o hd.o Ha.o hS.o HV.o ho hb Hr hbb (an hbz Hb.o)
   have h9:=ag hw;have H1:=y6;have hD:=ag ((az wc ⟨bb,12,none⟩ (.slice ae (zs.length+1) ce) (w.heap.size+1) (by show w.heap.size+1≠bb; omega)).trans Hc);have hj:=ag ((az wc ⟨bb,12,none⟩ (.slice ae (zs.length+1) ce) w.heap.size (by show w.heap.size≠bb; omega)).trans Ht);clear ho hb Hr hw hX hY hM Hc Ht k0 k1 k2 k3 k4 k10 k12 k13 f0 f1 f2
   obtain⟨f0,f1,f2,_⟩:=aT HQ.o;have k0:=ar (k:=0) hf.o;have k1:=ar (k:=1) hf.o;have k2:=ar (k:=2) hf.o;have k3:=ar (k:=3) hf.o;have k4:=ar (k:=4) hf.o;have k10:=ar (k:=10) hf.o;have k12:=ar (k:=12) hf.o;have k13:=ar (k:=13) hf.o;simp only[nB,eW,gx,aK,aJ,fV]at k0 k1 k2 k3 k4 k10 k12 k13
   have kz12:=dD (k:=12) hf.o;refine⟨⟨k12,f0,f1,f2⟩, ?_⟩
   iterate 2 (refine cF rfl ⟨k12,f0,f1,f2⟩ (by rintro w' ⟨Hu,Hv,Hw,Hx⟩; go_simp; rfl) ?_; simp only[bM])
   refine cH (by kernel_rfl) ?_;refine eX rfl rfl (fun K hK=> ?_)
   go_upto_region 13 with(fail)
   obtain⟨Yg,hH⟩:=bH (wc.setCell ⟨bb,12,none⟩ (.slice ae (zs.length+1) ce));rw[<-hH]at h9 hD hj ⊢;clear hH k0 k1 k2 k3 k4 k10 k12 k13 f0 f1 f2 kz12;obtain⟨f0,f1,f2,_⟩:=aT hD.o;obtain⟨z0,z1,z2,_⟩:=aT hj.o;obtain⟨y0,y1,y2,_⟩:=gT hj.o;go_wp2_with fail;refine wg hj.o rfl rfl rfl ?_;refine⟨by rw[<-hZ.o]; rfl, .slice ae (zs.length+1) ce,And.symm ⟨?_, ?_⟩⟩
   ·exact(((h7.o.trans h9.o.2).setNew (ah _) hbz).setNew (ah _) hbz).setNew (ah _) hbz
   ·rw[h8.o];exact h9.o.1.other hj.o (by decide) (by decide) (by decide) (fun i hi _=>eB hi)
end
end Go.Proofs.YtpffpjbkbaleiaaGreatDoor
