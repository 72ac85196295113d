/- Texts of this proof, one after the other: R3B, SealA, R3C, R3D, LawQui, RfG, StrO, LawFrs, Frame, OpI. -/
import Derived.Test.YtnjkpcalgoefhaaGreatDoorCFreshE
set_option maxRecDepth 100000
set_option maxHeartbeats 8000000
namespace Go.Proofs.YtnjkpcalgoefhaaGreatDoor
open Go Go.RowKit
theorem eY (w:World) (n:Nat):Below w.heap.size w (w.drewN n):=⟨rfl,rfl,rfl,Nat.le_refl _,fun _ _=>rfl⟩
theorem zB (a b c d e f g h:Int):Tryz.prog.built 101 [(0, .int .u32 a),(1, .int .u32 b),(2, .int .u32 c),(3, .int .u32 d),(4, .int .u32 e),(5, .int .u32 f),(6, .int .u32 g),(7, .int .u32 h)]=some #[.int .u32 a, .int .u32 b, .int .u32 c, .int .u32 d, .int .u32 e, .int .u32 f, .int .u32 g, .int .u32 h]:=by kernel_rfl
theorem tU (v u:V8):ov v u=ov u v:=by unfold ov jX; simp only[Nat.add_comm]
structure dI (vb : Nat) (W wq : World) (r : V8) : Prop where
 box:wq.heap[vb]? =some (.cells (r.list.map bp).toArray 101 (0,0))
 grown:W.grownBy wq (some vb)
theorem dI.next {vb:Nat} {W wq w':World} {r:V8} (h:dI vb W wq r) (hb:Below wq.heap.size wq w'):dI vb W w' r:=
 ⟨(hb.block vb (lt_of_block h.box)).trans h.box,⟨hb.os.trans h.grown.os,hb.tape.trans h.grown.tape,hb.output.trans h.grown.output,Nat.le_trans h.grown.size hb.size,fun k hk hne=>(hb.block k (Nat.lt_of_lt_of_le hk h.grown.size)).trans (h.grown.block k hk hne)⟩⟩
theorem dI.get {vb:Nat} {W wq:World} {r:V8} (h:dI vb W wq r) {j x:Nat} (hj:r.list[j]? =some x):wq.cell? ⟨vb,j,none⟩=some (.int .u32 (x:Int)):=by
 rw[cell_of_row wq _ j _ _ _ h.box,List.getElem?_toArray,List.getElem?_map,hj]; rfl
theorem dI.put {vb:Nat} {W wq:World} {r:V8} (h:dI vb W wq r) {r':V8} {c:Array Value} (hc:c=(r'.list.map bp).toArray):dI vb W (wq.setRow vb c) r':=
 ⟨by rw[setRow_heap _ _ _ _ _ _ h.box,hc],⟨h.grown.os,h.grown.tape,h.grown.output,by rw[size_setRow]; exact h.grown.size,fun k hk hne=>(setRow_other _ _ _ _ (fun e=>hne (by rw[e]))).trans (h.grown.block k hk hne)⟩⟩
theorem dI.keep {vb:Nat} {W wq:World} {r:V8} (h:dI vb W wq r) {b:Nat} {o:Obj} (hb:W.heap[b]? =some o) (hne:b≠vb):wq.heap[b]? =some o:=
 (h.grown.block b (lt_of_block hb) (fun e=>hne (Option.some.inj e))).trans hb
theorem qX (v:V8) (bk o cap:Nat) (bs:List UInt8) (w:World) (hv:v.Ok) (hl:bs.length=64) (_hcap:64<=cap) (_hcapm:cap<=maxLen) (hbs: ∀j b,bs[j]? =some b->w.cell? ⟨bk,o+j,none⟩=some (u8W b)):
  Calls Tryz.prog 44 #[.agg (v.list.map bp).toArray, .slice (some ⟨bk,o,none⟩) 64 cap] w fun e w'=>e= .returned (.agg ((iR v bs).list.map bp).toArray)/\Below w.heap.size w w':=by
 have HS:=aa hbs;obtain⟨W0,hW0⟩: ∃W0:World,W0=(w.alloc (.cells (v.list.map bp).toArray 101)).alloc (.cells (List.replicate 8 (bp 0)).toArray 101):=⟨_,rfl⟩;have HB0:=aa (show Below w.heap.size w W0 by rw[hW0]; exact((Below.refl _ _).alloc (Nat.le_refl _) _).alloc (by simp) _);have HH0:=aa (show W0.heap[w.heap.size]? =some (.cells (v.list.map bp).toArray 101 (0,0)) by rw[hW0]; exact(Below.heap_alloc _ _ _ (by simp)).trans (heap_alloc_new w _))
 have HR0:=aa (show W0.heap[w.heap.size+1]? =some (.cells (List.replicate 8 (bp 0)).toArray 101 (0,0)) by rw[hW0]; have:=heap_alloc_new (w.alloc (.cells (v.list.map bp).toArray 101)) (.cells (List.replicate 8 (bp 0)).toArray 101); simpa using this);clear hbs
 go_enter Tryz.func44,Tryz.ntmps44
 go_upto_region 1 with(fail)
 change Code.wp _ _ _ _ ((w.alloc (.cells (v.list.map bp).toArray 101)).alloc (.cells (List.replicate 8 (bp 0)).toArray 101))
 rw[<-hW0];clear hW0;go_wp2_with fail;refine(mQ _).mono ?_;rintro e w1 ⟨rfl,hb1⟩;have HB1:=aa (ag HB0.out hb1);have HH1:=aa ((hb1.block _ (lt_of_block HH0.out)).trans HH0.out);have HR1:=aa ((hb1.block _ (lt_of_block HR0.out)).trans HR0.out);clear hb1
 go_upto_region 2 with(first | (refine wpList_store_row rfl 156 _ _ rfl w1.heap.size eK rfl rfl _ _ (heap_alloc_new w1 _) (by kernel_rfl) (by kernel_rfl) (by kernel_rfl) ?_) | fail)
 obtain⟨W2,hW2⟩: ∃W2:World,W2=(w1.alloc (.cells (List.replicate 64 (bp 0)).toArray 156)).setRow w1.heap.size eK:=⟨_,rfl⟩
 change Code.wp _ _ _ _ ((w1.alloc (.cells (List.replicate 64 (bp 0)).toArray 156)).setRow w1.heap.size eK)
 have HBA:=aa (show Below w1.heap.size w1 W2 by rw[hW2]; exact below_setRow ((Below.refl _ _).alloc (Nat.le_refl _) _) (Nat.le_refl _) _);have HK2:=aa (show W2.heap[w1.heap.size]? =some (.cells eK 156 (0,0)) by rw[hW2]; exact setRow_heap _ _ _ _ _ _ (heap_alloc_new w1 _));have HB2:=aa (ag HB1.out HBA.out);have HH2:=aa ((HBA.out.block _ (lt_of_block HH1.out)).trans HH1.out)
 have HR2:=aa ((HBA.out.block _ (lt_of_block HR1.out)).trans HR1.out);rw[<-hW2];clear hW2
 go_upto_region 3 with(first | (refine dT rfl 156 _ rfl [] (by kernel_rfl) (List.replicate 64 (bp 0)).toArray (by kernel_rfl) ?_) | (refine wpList_store_row rfl 156 _ _ rfl W2.heap.size (List.replicate 64 (bp 0)).toArray rfl rfl _ _ (heap_alloc_new W2 _) (by kernel_rfl) (by kernel_rfl) (by kernel_rfl) ?_) | fail)
 obtain⟨W3,hW3⟩: ∃W3:World,W3=(W2.alloc (.cells (List.replicate 64 (bp 0)).toArray 156)).setRow W2.heap.size (List.replicate 64 (bp 0)).toArray:=⟨_,rfl⟩
 change Code.wp _ _ _ _ ((W2.alloc (.cells (List.replicate 64 (bp 0)).toArray 156)).setRow W2.heap.size (List.replicate 64 (bp 0)).toArray)
 have HA0:=aa (show cW W2 bs 0 W3 from⟨by rw[hW3,setRow_heap _ _ _ _ _ _ (heap_alloc_new W2 _)]; rfl,by rw[hW3]; exact below_setRow ((Below.refl _ _).alloc (Nat.le_refl _) _) (Nat.le_refl _) _⟩);rw[<-hW3];clear hW3;go_wp2_with fail
 go_loopw [7] (fun i wr=> ∃t:Nat,t<=16/\i= .int .i64 (t:Int)/\cW W2 bs t wr) (fun i _=>16-(intOf i).toNat)
 case atStart=>exact⟨0,by omega,rfl,HA0.out⟩
 case round=>
  obtain⟨t,ht,rfl,hs⟩:=hrel;have HA:=aa hs;have hz:=hs.below.size;have HBR:=aa (HB2.out.trans (hs.below.mono HB2.out.size));clear hs
  by_cases h16:t<16
  ·obtain⟨q,hq⟩: ∃q,q=4*t:=⟨_,rfl⟩;have HQ:=aa hq;have hw4:IntKind.i64.wrap (4*(t:Int))=(q:Int):=by rw[IntKind.wrap_i64]; omega
   obtain⟨r1,hr1⟩: ∃r,r=q+1:=⟨_,rfl⟩;obtain⟨r2,hr2⟩: ∃r,r=q+2:=⟨_,rfl⟩;obtain⟨r3,hr3⟩: ∃r,r=q+3:=⟨_,rfl⟩;have hi0:(q:Int)<64:=by omega
   have hi1:(r1:Int)<64:=by omega
   have hi2:(r2:Int)<64:=by omega
   have hi3:(r3:Int)<64:=by omega
   have ht64:(t:Int)<64:=by omega
   have hw1:IntKind.i64.wrap ((q:Int)+1)=(r1:Int):=by rw[IntKind.wrap_i64]; omega
   have hw2:IntKind.i64.wrap ((q:Int)+2)=(r2:Int):=by rw[IntKind.wrap_i64]; omega
   have hw3:IntKind.i64.wrap ((q:Int)+3)=(r3:Int):=by rw[IntKind.wrap_i64]; omega
   obtain⟨b0,hb0⟩: ∃b,b=bs.getD q 0:=⟨_,rfl⟩;obtain⟨b1,hb1⟩: ∃b,b=bs.getD r1 0:=⟨_,rfl⟩;obtain⟨b2,hb2⟩: ∃b,b=bs.getD r2 0:=⟨_,rfl⟩;obtain⟨b3,hb3⟩: ∃b,b=bs.getD r3 0:=⟨_,rfl⟩;have q0:=HS.out q (bs.getD q 0) (pO (by omega));have q1:=HS.out r1 (bs.getD r1 0) (pO (by omega));have q2:=HS.out r2 (bs.getD r2 0) (pO (by omega));have q3:=HS.out r3 (bs.getD r3 0) (pO (by omega))
   have HW:=aa (show oe bs t=qL b0 b1 b2 b3 by rw[hb0,hb1,hb2,hb3,hr1,hr2,hr3,hq]; rfl);rw[<-hb0]at q0;rw[<-hb1]at q1;rw[<-hb2]at q2;rw[<-hb3]at q3;have hbk:=block_lt_of_cell q0;simp only[u8W]at q0 q1 q2 q3;have c0:=(HBR.out.cell (p:=⟨bk,o+q,none⟩) hbk).trans q0;have c1:=(HBR.out.cell (p:=⟨bk,o+r1,none⟩) hbk).trans q1;have c2:=(HBR.out.cell (p:=⟨bk,o+r2,none⟩) hbk).trans q2
   have c3:=(HBR.out.cell (p:=⟨bk,o+r3,none⟩) hbk).trans q3;have ch:=HA.out.here (by omega);have cf:=HA.out.free t;clear q0 q1 q2 q3 hb0 hb1 hb2 hb3 hq hr1 hr2 hr3;go_wp2_with fail;refine ak [some 35,none] (by kernel_rfl) (by kernel_rfl) (by kernel_rfl) ?_;simp only[bb,List.take_succ_cons,List.take_zero,List.drop_succ_cons,List.drop_zero]
   repeat (first | (refine am rfl ?_; simp only[Act.put,aD,aE,aF]) | (refine aA rfl (fun K hK=> ?_); go_simp; refine hK _ ?_; clear hK K))
   refine az ?_;refine bt rfl (fun K hK=> ?_);go_wp2_with fail
   go_roundw
   case rel=>
    rw[mJ,<-HW.out];exact⟨t+1,by omega,by simp,(HA.out.put (by omega) (tK bs h16)).drew⟩
   case measure=>simp[intOf]; omega
  ·obtain rfl:t=16:=by omega
   obtain⟨W4,hW4⟩: ∃x,x=wr:=⟨_,rfl⟩;subst hW4;have HA4:=HA;clear HA HBR hz;rw[show((16:Nat):Int)=(16:Int)from rfl];go_wp2_with fail
   go_loopw [8,9,10] (fun i x1 x2 wr=> ∃t:Nat,16<=t/\t<=64/\i= .int .i64 (t:Int)/\cW W2 bs t wr) (fun i _ _ _=>64-(intOf i).toNat)
   case atStart=>exact⟨16,by omega,by omega,rfl,HA4.out⟩
   case round=>
    obtain⟨t,h17,ht,rfl,hs⟩:=hrel;have HA:=aa hs;have hz:=hs.below.size;clear hs
    by_cases h64:t<64
    ·obtain⟨j2,hj2⟩: ∃j,j=t-2:=⟨_,rfl⟩;obtain⟨j15,hj15⟩: ∃j,j=t-15:=⟨_,rfl⟩;obtain⟨j7,hj7⟩: ∃j,j=t-7:=⟨_,rfl⟩;obtain⟨j16,hj16⟩: ∃j,j=t-16:=⟨_,rfl⟩;have c2:=HA.out.get (j:=j2) (by omega);have c15:=HA.out.get (j:=j15) (by omega);have c7:=HA.out.get (j:=j7) (by omega);have c16:=HA.out.get (j:=j16) (by omega);have e2:IntKind.i64.wrap ((t:Int)-2)=(j2:Int):=by rw[IntKind.wrap_i64]; omega
     have e15:IntKind.i64.wrap ((t:Int)-15)=(j15:Int):=by rw[IntKind.wrap_i64]; omega
     have e7:IntKind.i64.wrap ((t:Int)-7)=(j7:Int):=by rw[IntKind.wrap_i64]; omega
     have e16:IntKind.i64.wrap ((t:Int)-16)=(j16:Int):=by rw[IntKind.wrap_i64]; omega
     have l2:(j2:Int)<64:=by omega
     have l15:(j15:Int)<64:=by omega
     have l7:(j7:Int)<64:=by omega
     have l16:(j16:Int)<64:=by omega
     have ch:=HA.out.here (by omega);have cf:=HA.out.free t;have HJ:=aa (show j2=t-2/\j15=t-15/\j7=t-7/\j16=t-16 from⟨hj2,hj15,hj7,hj16⟩);clear hj2 hj15 hj7 hj16;obtain⟨x2,hx2⟩: ∃x,x=(jk bs t).getD j2 0:=⟨_,rfl⟩;obtain⟨x15,hx15⟩: ∃x,x=(jk bs t).getD j15 0:=⟨_,rfl⟩;obtain⟨x7,hx7⟩: ∃x,x=(jk bs t).getD j7 0:=⟨_,rfl⟩;obtain⟨x16,hx16⟩: ∃x,x=(jk bs t).getD j16 0:=⟨_,rfl⟩
     rw[<-hx2]at c2;rw[<-hx15]at c15;rw[<-hx7]at c7;rw[<-hx16]at c16;have o2:x2<4294967296:=by rw[hx2]; exact(oY bs t).get j2
     have o15:x15<4294967296:=by rw[hx15]; exact(oY bs t).get j15
     have HN:=aa (show gR (jk bs t)=(((vu x2+x7)%4294967296+vt x15)%4294967296+x16)%4294967296 by
      unfold gR;rw[fC,hx2,hx15,hx7,hx16,HJ.out.1,HJ.out.2.1,HJ.out.2.2.1,HJ.out.2.2.2])
     clear hx2 hx15 hx7 hx16;go_wp2_with fail
     go_quiet ((go_at_call 80; refine Calls.quiet_of (fY _ _ _ o15 (by decide))))
     rw[show mm x15 7=bD x15 25 from rfl,show mm x15 18=bD x15 14 from rfl,nV o15];obtain⟨W5,hW5⟩: ∃W5:World,W5=wr.drewN nq:=⟨_,rfl⟩;rw[<-hW5];have HA5:=aa (show cW W2 bs t W5 by rw[hW5]; exact HA.out.next (eY wr nq));have d2:W5.cell? ⟨W2.heap.size,j2,none⟩=some (.int .u32 (x2:Int)):=by rw[hW5]; exact c2
     have d7:W5.cell? ⟨W2.heap.size,j7,none⟩=some (.int .u32 (x7:Int)):=by rw[hW5]; exact c7
     have d16:W5.cell? ⟨W2.heap.size,j16,none⟩=some (.int .u32 (x16:Int)):=by rw[hW5]; exact c16
     have ch:=HA5.out.here (by omega);have cf:=HA5.out.free t;clear hW5 c15 c2 c7 c16;go_wp2_with fail
     go_quiet ((go_at_call 80; refine Calls.quiet_of (fY _ _ _ o2 (by decide))))
     rw[show mm x2 17=bD x2 15 from rfl,show mm x2 19=bD x2 13 from rfl,nW o2];obtain⟨W6,hW6⟩: ∃W6:World,W6=W5.drewN nq:=⟨_,rfl⟩;rw[<-hW6];have HA6:=aa (show cW W2 bs t W6 by rw[hW6]; exact HA5.out.next (eY W5 nq));have f7:W6.cell? ⟨W2.heap.size,j7,none⟩=some (.int .u32 (x7:Int)):=by rw[hW6]; exact d7
     have f16:W6.cell? ⟨W2.heap.size,j16,none⟩=some (.int .u32 (x16:Int)):=by rw[hW6]; exact d16
     clear ch cf;have ch:=HA6.out.here (by omega);have cf:=HA6.out.free t;have ht64:(t:Int)<64:=by omega
     clear hW6 d2 d7 d16;go_wp2_with fail;refine ak [some 15,none] (by kernel_rfl) (by kernel_rfl) (by kernel_rfl) ?_;simp only[bb,List.take_succ_cons,List.take_zero,List.drop_succ_cons,List.drop_zero]
     repeat (first | (refine am rfl ?_; simp only[Act.put,aD,aE,aF]) | (refine aA rfl (fun K hK=> ?_); go_simp; refine hK _ ?_; clear hK K))
     refine az ?_;refine bt rfl (fun K hK=> ?_);go_wp2_with fail
     go_roundw
     case rel=>
      have HV:((((vu x2:Nat):Int)+(x7:Int)+((vt x15:Nat):Int)+(x16:Int))%4294967296)=((gR (jk bs t):Nat):Int):=by rw[HN.out]; omega
      rw[HV];exact⟨t+1,by omega,by omega,by simp,(HA6.out.put (by omega) (qK bs h17)).drew⟩
     case measure=>simp[intOf]; omega
    ·obtain rfl:t=64:=by omega
     obtain⟨W5,hW5⟩: ∃x,x=wr:=⟨_,rfl⟩;subst hW5;have HA5:=HA;have HB5:=aa (HB2.out.trans (HA.out.below.mono HB2.out.size));have HH5:=aa ((HA.out.below.block _ (lt_of_block HH2.out)).trans HH2.out);have HR5:=aa ((HA.out.below.block _ (lt_of_block HR2.out)).trans HR2.out);have HK5:=aa ((HA.out.below.block _ (lt_of_block HK2.out)).trans HK2.out);have HRG:=aa (fZ HH5.out)
     have HI8:=aa (show(Tryz.prog.info? 101).map (·.size)=some (v.list.map bp).length by kernel_rfl);have H81:=aa (show(v.list.map bp).toArray.all (·.oneCell')=true from all_oneCell_toArray (fun x hx=>by obtain⟨y,-,rfl⟩:=List.mem_map.1 hx; rfl));clear HA hz HA4 HA0;rw[show((64:Nat):Int)=(64:Int)from rfl]
     go_upto_region 14 with(first | (refine wpList_load_mid rfl 101 _ rfl w.heap.size 0 rfl (v.list.map bp) _ HRG.out Tryz.underlying101 rfl HI8.out ?_) | (refine wpList_store_row rfl 101 _ _ rfl W5.heap.size (v.list.map bp).toArray rfl rfl _ _ (heap_alloc_new W5 _) (by kernel_rfl) (by kernel_rfl) H81.out ?_) | fail)
     obtain⟨W6,hW6⟩: ∃W6:World,W6=(W5.alloc (.cells (List.replicate 8 (bp 0)).toArray 101)).setRow W5.heap.size (v.list.map bp).toArray:=⟨_,rfl⟩
     change Code.wp _ _ _ _ ((W5.alloc (.cells (List.replicate 8 (bp 0)).toArray 101)).setRow W5.heap.size (v.list.map bp).toArray)
     have HBB:=aa (show Below W5.heap.size W5 W6 by rw[hW6]; exact below_setRow ((Below.refl _ _).alloc (Nat.le_refl _) _) (Nat.le_refl _) _);have HV6:=aa (show W6.heap[W5.heap.size]? =some (.cells (v.list.map bp).toArray 101 (0,0)) by rw[hW6]; exact setRow_heap _ _ _ _ _ _ (heap_alloc_new W5 _));rw[<-hW6];clear hW6;have HRN0:=aa (show dI W5.heap.size W6 W6 v from⟨HV6.out,⟨rfl,rfl,rfl,Nat.le_refl _,fun _ _ _=>rfl⟩⟩)
     obtain⟨vb,hvb⟩: ∃vb,W5.heap.size=vb:=⟨_,rfl⟩;have HVB:=aa hvb;rw[hvb]at HRN0 HV6 ⊢;clear hvb;go_wp2_with fail
     go_loopw [12,13,14,15,16,17,18,19,20] (fun i y1 y2 y3 y4 y5 y6 y7 y8 wr=> ∃(t:Nat) (r:V8),t<=64/\i= .int .i64 (t:Int)/\r=rTo bs v t/\dI vb W6 wr r) (fun i _ _ _ _ _ _ _ _ _=>64-(intOf i).toNat)
     case atStart=>exact⟨0,v,by omega,rfl,rfl,HRN0.out⟩
     case round=>
      obtain⟨t,r,ht,rfl,hr,hrn⟩:=hrel;have HRT:=aa hr;have HRN:=aa hrn;have HRO:=aa (show r.Ok by rw[hr]; exact rQ bs t hv);clear hr hrn
      by_cases h65:t<64
      ·have v0:=HRN.out.get (j:=0) (x:=r.a) rfl;have v1:=HRN.out.get (j:=1) (x:=r.b) rfl;have v2:=HRN.out.get (j:=2) (x:=r.c) rfl;have v4:=HRN.out.get (j:=4) (x:=r.e) rfl;have v5:=HRN.out.get (j:=5) (x:=r.f) rfl;have v6:=HRN.out.get (j:=6) (x:=r.g) rfl;go_wp2_with fail
       go_quiet (fail)
       obtain⟨W7,hW7⟩: ∃W7:World,W7=wr.drewN nq:=⟨_,rfl⟩;rw[<-hW7];have HRN7:=aa (show dI vb W6 W7 r by rw[hW7]; exact HRN.out.next (eY wr nq));obtain⟨k,hk⟩: ∃k,k=kc.getD t 0:=⟨_,rfl⟩;obtain⟨x,hx⟩: ∃x,x=(wsP bs).getD t 0:=⟨_,rfl⟩;have HKX:=aa (And.intro hk hx);have v7:=HRN7.out.get (j:=7) (x:=r.h) rfl;have v3:=HRN7.out.get (j:=3) (x:=r.d) rfl
       have ck:W7.cell? ⟨w1.heap.size,t,none⟩=some (.int .u32 (k:Int)):=by
        rw[cell_of_row W7 _ t _ _ _ (HRN7.out.keep ((HBB.out.block _ (lt_of_block HK5.out)).trans HK5.out) (by have:=lt_of_block HK5.out; have:=HVB.out; omega))];unfold eK;rw[List.getElem?_toArray,List.getElem?_map,fQ (by rw[oK]; exact h65),<-hk]; rfl
       have cx:W7.cell? ⟨W2.heap.size,t,none⟩=some (.int .u32 (x:Int)):=by
        rw[cell_of_row W7 _ t _ _ _ (HRN7.out.keep ((HBB.out.block _ (lt_of_block HA5.out.box)).trans HA5.out.box) (by have:=lt_of_block HA5.out.box; have:=HVB.out; omega)),<-cell_of_row W5 _ t _ _ _ HA5.out.box,HA5.out.get h65,oX,<-hx]
       have ht64:(t:Int)<64:=by omega
       clear hW7 hk hx v0 v1 v2 v4 v5 v6;go_wp2_with fail
       go_quiet ((go_at_call 80; refine Calls.quiet_of (fY _ _ _ HRO.out.e (by decide))))
       rw[show mm r.e 6=bD r.e 26 from rfl,show mm r.e 11=bD r.e 21 from rfl,show mm r.e 25=bD r.e 7 from rfl,tI HRO.out,td HRO.out,
        show((((r.h:Int)+((s1P r:Nat):Int)+((chP r:Nat):Int)+(k:Int))%4294967296+(x:Int))%4294967296)=((xX r k x:Nat):Int) by rw[sI]; omega]
       obtain⟨t1,ht1⟩: ∃t1,t1=xX r k x:=⟨_,rfl⟩;rw[<-ht1];have HT1:=aa ht1;obtain⟨W8,hW8⟩: ∃W8:World,W8=W7.drewN nq:=⟨_,rfl⟩;rw[<-hW8];have HRN8:=aa (show dI vb W6 W8 r by rw[hW8]; exact HRN7.out.next (eY W7 nq));clear hW8 v7 v3 ck cx ht1;go_wp2_with fail;refine(fY _ _ _ HRO.out.a (by decide)).mono ?_;rintro e W9 ⟨rfl,m9,hm9⟩;have HRN9:=aa (show dI vb W6 W9 r by rw[hm9]; exact HRN8.out.next (eY W8 m9))
       clear hm9;go_wp2_with fail;refine(fY _ _ _ HRO.out.a (by decide)).mono ?_;rintro e W10 ⟨rfl,m10,hm10⟩;have HRN10:=aa (show dI vb W6 W10 r by rw[hm10]; exact HRN9.out.next (eY W9 m10));clear hm10;go_wp2_with fail;refine(fY _ _ _ HRO.out.a (by decide)).mono ?_;rintro e W11 ⟨rfl,m11,hm11⟩;have HRN11:=aa (show dI vb W6 W11 r by rw[hm11]; exact HRN10.out.next (eY W10 m11))
       clear hm11;have v3:=HRN11.out.get (j:=3) (x:=r.d) rfl
       go_upto_region 20 with(fail)
       rw[show mm r.a 2=bD r.a 30 from rfl,show mm r.a 13=bD r.a 19 from rfl,show mm r.a 22=bD r.a 10 from rfl,tH HRO.out,tz HRO.out,
        show((((s0P r:Nat):Int)+((mjP r:Nat):Int))%4294967296)=((t2P r:Nat):Int) by rw[xM]; omega]
       obtain⟨t2,ht2⟩: ∃t2,t2=t2P r:=⟨_,rfl⟩;rw[<-ht2];have HT2:=aa ht2;clear ht2;go_wp2_with (refine dT rfl 101 _ rfl [(0, .int .u32 (((t1:Int)+(t2:Int))%4294967296)),(1, .int .u32 (r.a:Int)),(2, .int .u32 (r.b:Int)),(3, .int .u32 (r.c:Int)),(4, .int .u32 (((r.d:Int)+(t1:Int))%4294967296)),(5, .int .u32 (r.e:Int)),(6, .int .u32 (r.f:Int)),(7, .int .u32 (r.g:Int))] (by kernel_rfl) _ (zB _ _ _ _ _ _ _ _) ?_; go_must (refine wpList_store_row rfl 101 _ _ rfl vb #[.int .u32 (((t1:Int)+(t2:Int))%4294967296), .int .u32 (r.a:Int), .int .u32 (r.b:Int), .int .u32 (r.c:Int), .int .u32 (((r.d:Int)+(t1:Int))%4294967296), .int .u32 (r.e:Int), .int .u32 (r.f:Int), .int .u32 (r.g:Int)] (by kernel_rfl) (by kernel_rfl) _ _ HRN11.out.box (by kernel_rfl) (by kernel_rfl) (by kernel_rfl) ?_))
       go_roundw
       case rel=>
        refine⟨t+1,rS r k x,by omega,by simp, ?_,HRN11.out.put ?_⟩
        ·rw[qn bs v h65,HRT.out,HKX.out.1,HKX.out.2]
        ·rw[show(((t1:Int)+(t2:Int))%4294967296)=(((xX r k x+t2P r)%4294967296:Nat):Int) by rw[HT1.out,HT2.out]; omega,show(((r.d:Int)+(t1:Int))%4294967296)=(((r.d+xX r k x)%4294967296:Nat):Int) by rw[HT1.out]; omega]
         rfl
       case measure=>simp[intOf]; omega
      ·obtain rfl:t=64:=by omega
       obtain⟨W7,hW7⟩: ∃x,x=wr:=⟨_,rfl⟩;subst hW7;have HM0:=aa (show dK vb r v [] 101 W7 W7 0 from dK.start (by rw[List.append_nil]; exact HRN.out.box) (Below.refl _ _));have HH7:=aa (HRN.out.keep ((HBB.out.block _ (lt_of_block HH5.out)).trans HH5.out) (by have:=lt_of_block HH5.out; have:=HVB.out; omega));have HR7:=aa (HRN.out.keep ((HBB.out.block _ (lt_of_block HR5.out)).trans HR5.out) (by have:=lt_of_block HR5.out; have:=HVB.out; omega))
       rw[show((64:Nat):Int)=(64:Int)from rfl];go_wp2_with fail
       go_loopw [21] (fun i wq=> ∃j:Nat,j<=8/\i= .int .i64 (j:Int)/\dK vb r v [] 101 W7 wq j) (fun i _=>8-(intOf i).toNat)
       case atStart=>exact⟨0,by omega,rfl,HM0.out⟩
       case round=>
        obtain⟨j,hj,rfl,hm⟩:=hrel;have HM:=aa hm;clear hm
        by_cases h8:j<8
        ·have cs:=HM.out.here h8;have cf:=HM.out.free j;have cv:wr.cell? ⟨w.heap.size,j,none⟩=some (.int .u32 ((v.list.getD j 0:Nat):Int)):=(cell_of_row wr _ _ _ _ _ (HM.out.keep HH7.out (by have:=lt_of_block HH5.out; have:=HVB.out; omega))).trans (by rw[List.getElem?_toArray]; exact zw v h8);obtain⟨x,hx⟩: ∃x,x=r.list.getD j 0:=⟨_,rfl⟩;obtain⟨y,hy⟩: ∃y,y=v.list.getD j 0:=⟨_,rfl⟩
         rw[<-hx]at cs;rw[<-hy]at cv;have HXY:=aa (And.intro hx hy);clear hx hy;have h8i:(j:Int)<8:=by omega
         go_wp2_with fail;refine ak [some 8,none] (by kernel_rfl) (by kernel_rfl) (by kernel_rfl) ?_;simp only[bb,List.take_succ_cons,List.take_zero,List.drop_succ_cons,List.drop_zero]
         repeat (first | (refine am rfl ?_; simp only[Act.put,aD,aE,aF]) | (refine aA rfl (fun K hK=> ?_); go_simp; refine hK _ ?_; clear hK K))
         refine az ?_;refine bt rfl (fun K hK=> ?_);go_wp2_with fail
         go_roundw
         case rel=>
          refine⟨j+1,by omega,by simp, ?_⟩;exact(HM.out.put h8 (by rw[<-HXY.out.1,<-HXY.out.2]; unfold bp jX; simp)).drew
         case measure=>simp[intOf]; omega
        ·obtain rfl:j=8:=by omega
         have hbx:wr.heap[vb]? =some (.cells (((iR v bs).list.map bp)).toArray 101 (0,0)):=by
          have h1:=HM.out.box;rw[List.append_nil,show uv r v 8=(ov r v).list from rfl,tU,HRT.out,<-qm]at h1;exact h1
         have HBV:=aa hbx;have HRR:=aa (HM.out.keep HR7.out (by have:=lt_of_block HR5.out; have:=HVB.out; omega));obtain⟨cs8,hcs8⟩: ∃c,c=(iR v bs).list.map bp:=⟨_,rfl⟩;rw[<-hcs8]at HBV;have HCS:=aa hcs8;have hl8:cs8.length=8:=by rw[hcs8]; rfl
         have HRG8:=aa (fZ HBV.out);have HIL:=aa (show(Tryz.prog.info? 101).map (·.size)=some cs8.length by rw[hl8]; kernel_rfl);have HIA:=aa (show(Tryz.prog.info? 101).map (·.size)=some cs8.toArray.size by rw[List.size_toArray,hl8]; kernel_rfl);have HSZ:=aa (show(List.replicate 8 (bp 0)).toArray.size=cs8.toArray.size by rw[List.size_toArray,List.size_toArray,hl8]; rfl)
         have HO8:=aa (show cs8.toArray.all (·.oneCell')=true from all_oneCell_toArray (fun x hx=>by rw[hcs8]at hx; obtain⟨y,-,rfl⟩:=List.mem_map.1 hx; rfl));have HBE:=aa (show Below w.heap.size w wr from(HB5.out.trans (HBB.out.mono HB5.out.size)).trans ((show Below w.heap.size W6 wr from by
          have h1:=HRN.out.grown;have h2:=HM.out.grown;have hvw:w.heap.size<=vb:=by rw[<-HVB.out]; exact HB5.out.size
          have hw6:w.heap.size<=W6.heap.size:=Nat.le_trans HB5.out.size HBB.out.size;exact⟨h2.os.trans h1.os,h2.tape.trans h1.tape,h2.output.trans h1.output,Nat.le_trans h1.size h2.size,fun k hk=>(h2.block k (Nat.lt_of_lt_of_le hk (Nat.le_trans hw6 h1.size)) (fun e=>by cases e; omega)).trans (h1.block k (Nat.lt_of_lt_of_le hk hw6) (fun e=>by cases e; omega))⟩)))
         clear hbx hcs8 hl8;go_wp2_with (first | (refine wpList_load_mid rfl 101 _ rfl vb 0 rfl cs8 _ HRG8.out Tryz.underlying101 rfl HIL.out ?_) | (refine wpList_store_row rfl 101 _ _ rfl (w.heap.size+1) cs8.toArray rfl rfl _ _ HRR.out HIA.out HSZ.out HO8.out ?_) | fail);refine bodyPost_ret (results_cell_row rfl _ _ (w.heap.size+1) _ _ _ _ rfl (setRow_heap wr _ _ _ _ _ HRR.out) Tryz.underlying101 rfl HIA.out) rfl ?_
         exact⟨by rw[HCS.out],below_setRow HBE.out (by omega) _⟩
def Ak (w:World) (base:Nat) (v:Value) (acc:List UInt8):Prop:=w.ownsRow base 5 1 v acc.length (acc.map aC)
def lenOf (v:Value):Nat:=match v with
 | .slice _ n _=>n
 | _=>0
theorem dD {x:Nat} {y:Int} (h:y=(x:Int)%256):Value.int .u8 y=aC (UInt8.ofNat x):=by
 rw[h];simp[aC]
theorem xg (S:Nat->Prop) (v:Value) (data:List UInt8) (w:World) (hv:aR S w v data) (hl:data.length<549755813888):
  Calls Tryz.prog 43 #[v] w fun e w'=> ∃a c,e= .returned (.slice a (data++fU data.length).length c)/\Ak w' w.heap.size (.slice a (data++fU data.length).length c) (data++fU data.length)/\Below w.heap.size w w':=by
 obtain⟨hl0,a,cap,rfl,hn,hm,-⟩:=id hv;unfold maxLen at hm;have HV:=aa hv;obtain⟨n,hnd⟩: ∃n,n=data.length:=⟨_,rfl⟩;rw[<-hnd]at hl hn ⊢;have HN:=aa hnd;have HO0:=aa (show(w.alloc (.cells #[] 5)).ownsRow w.heap.size 5 1 (.slice (some ⟨w.heap.size,0,none⟩) 0 0) 0 []from World.ownsRow_lit (e:=5) (size:=1) (base:=w.heap.size) w #[] 0 (Nat.le_refl _) (Nat.zero_le _) (by simp))
 have HB0:=aa ((Below.refl w.heap.size w).alloc (Nat.le_refl _) (.cells #[] 5));have HV0:=aa (show aB S (w.alloc (.cells #[] 5)) 1 (.slice a n cap) n (data.map aC) by rw[hnd]; exact aB.below hv (by omega) ((Below.refl w.heap.size w).alloc (Nat.le_refl _) _));clear hv hl0 hnd
 go_enter Tryz.func43,Tryz.ntmps43
 have hnn:0+n<1099511627775:=by omega
 have hn1:n<1099511627775:=by omega
 have hzz:w.heap.size<=(w.alloc (.cells #[] 5)).heap.size:=by simp
 go_wp2_with (at_builtin; first
  | (refine bV Tryz.appBytes rfl _ _ rfl w.heap.size (.slice (some ⟨w.heap.size,0,none⟩) 0 0) 0 [] rfl HO0.out (.slice a n cap) n (data.map aC) rfl HV0.out (iu data) hnn hzz ?_; intro v1 w1 hown1 hg1; rw[Nat.zero_add,List.nil_append]at hown1; obtain⟨a1,c1,rfl,-,-⟩:=aj hown1; have HO1:=aa hown1; have HB1:=aa (aP HB0.out HO0.out hg1 (Nat.le_refl _) hzz); clear hown1 hg1)
  | (refine aS Tryz.appBytes rfl _ _ rfl w.heap.size (.slice a1 n c1) n (data.map aC) rfl w1 [Value.int .u8 128] _ rfl rfl (iu [128]) HO1.out hn1 HB1.out.size ?_; intro v2 w2 hown2 hg2 _ _; obtain⟨a2,c2,rfl,-,-⟩:=aj hown2))
 have HO2:=aa (show w2.ownsRow w.heap.size 5 1 (.slice a2 (n+1) c2) (n+1) ((data++128::List.replicate 0 0).map aC) by rw[List.map_append]; exact hown2);have HB2:=aa (aP HB1.out HO1.out hg2 (Nat.le_refl _) HB1.out.size);clear hown2 hg2
 go_loopw [3] (fun o wr=> ∃(k:Nat) (a c:_),k<=bU n/\o= .slice a (n+1+k) c/\wr.ownsRow w.heap.size 5 1 (.slice a (n+1+k) c) (n+1+k) ((data++128::List.replicate k 0).map aC)/\Below w.heap.size w wr) (fun o _=>bU n+n+1-lenOf o)
 case atStart=>exact⟨0,_,_,by omega,rfl,HO2.out,HB2.out⟩
 case round=>
  obtain⟨k,a3,c3,hk,rfl,ho,hb⟩:=hrel;obtain⟨m,hm3⟩: ∃m,m=n+1+k:=⟨_,rfl⟩;rw[<-hm3]at ho ⊢;have HM:=aa hm3;have HO:=aa ho;have HB:=aa hb;have hz:=hb.size;clear ho hb hm3;have hzl:bU n<64:=Nat.mod_lt _ (by decide)
  by_cases h56:m%64=56
  ·have e1:((m:Int)%64 != 56)=false:=by rw[bne_eq_false_iff_eq]; omega
   have hkz:k=bU n:=by have:=HM.out; unfold bU at hk hzl ⊢; omega
   subst hkz;clear h56;go_wp2_with fail;obtain⟨w5,hw5⟩: ∃x,x=wr:=⟨_,rfl⟩;subst hw5;obtain⟨pre,hpre⟩: ∃pre,pre=data++128::List.replicate (bU n) 0:=⟨_,rfl⟩;rw[<-hpre]at HO;have HPRE:=aa hpre;have hml:pre.length=m:=by rw[hpre,HM.out,HN.out]; simp; omega
   have HML:=aa hml;have hm40:m+8<1099511627775:=by have:=HM.out; omega
   clear hpre hml e1 hk hzl
   go_loopw [3,5] (fun o i wr=> ∃(j:Nat) (a c:_),j<=8/\i= .int .i64 (7-(j:Int))/\o= .slice a (m+j) c/\wr.ownsRow w.heap.size 5 1 (.slice a (m+j) c) (m+j) ((pre++(eU (n*8)).take j).map aC)/\Below w.heap.size w wr) (fun _ i _=>(intOf i+1).toNat)
   case atStart=>exact⟨0,a3,c3,by omega,rfl,rfl,by simpa using HO.out,HB.out⟩
   case round=>
    obtain⟨j,a5,c5,hj,rfl,rfl,ho,hb⟩:=hrel;have HO5:=aa ho;have HB5:=aa hb;have hz5:=hb.size;clear ho hb hz;have hc:j=0\/j=1\/j=2\/j=3\/j=4\/j=5\/j=6\/j=7\/j=8:=by omega
    rcases hc with rfl | rfl | rfl | rfl | rfl | rfl | rfl | rfl | rfl
    ·skip
     rw[show(7-((0:Nat):Int))=7 from rfl];go_wp2_with (at_builtin; go_must (refine aS Tryz.appBytes rfl _ _ rfl w.heap.size (.slice a5 (m+0) c5) (m+0) ((pre++(eU (n*8)).take 0).map aC) rfl wr [Value.int .u8 ((n:Int)*8/72057594037927936)] _ rfl rfl (by simp[Value.oneCell']) HO5.out (by omega) hz5 ?_); intro v4 w4 hown4 hg4 _ _; obtain⟨a4,c4,rfl,-,-⟩:=aj hown4)
     go_roundw
     case rel=>
      refine⟨0+1,a4,c4,by omega,by simp,rfl, ?_,aP HB5.out HO5.out hg4 (Nat.le_refl _) hz5⟩;rw[show(eU (n*8)).take (0+1)=(eU (n*8)).take 0++[UInt8.ofNat (n*8/2^56)]from rfl,<-List.append_assoc,List.map_append,List.map_singleton,<-dD (x:=n*8/2^56) (y:=((n:Int)*8/72057594037927936)) (by omega)];exact hown4
     case measure=>simp[intOf]
    ·skip
     rw[show(7-((1:Nat):Int))=6 from rfl];go_wp2_with (at_builtin; go_must (refine aS Tryz.appBytes rfl _ _ rfl w.heap.size (.slice a5 (m+1) c5) (m+1) ((pre++(eU (n*8)).take 1).map aC) rfl wr [Value.int .u8 ((n:Int)*8/281474976710656)] _ rfl rfl (by simp[Value.oneCell']) HO5.out (by omega) hz5 ?_); intro v4 w4 hown4 hg4 _ _; obtain⟨a4,c4,rfl,-,-⟩:=aj hown4)
     go_roundw
     case rel=>
      refine⟨1+1,a4,c4,by omega,by simp,rfl, ?_,aP HB5.out HO5.out hg4 (Nat.le_refl _) hz5⟩;rw[show(eU (n*8)).take (1+1)=(eU (n*8)).take 1++[UInt8.ofNat (n*8/2^48)]from rfl,<-List.append_assoc,List.map_append,List.map_singleton,<-dD (x:=n*8/2^48) (y:=((n:Int)*8/281474976710656)) (by omega)];exact hown4
     case measure=>simp[intOf]
    ·skip
     rw[show(7-((2:Nat):Int))=5 from rfl];go_wp2_with (at_builtin; go_must (refine aS Tryz.appBytes rfl _ _ rfl w.heap.size (.slice a5 (m+2) c5) (m+2) ((pre++(eU (n*8)).take 2).map aC) rfl wr [Value.int .u8 ((n:Int)*8/1099511627776)] _ rfl rfl (by simp[Value.oneCell']) HO5.out (by omega) hz5 ?_); intro v4 w4 hown4 hg4 _ _; obtain⟨a4,c4,rfl,-,-⟩:=aj hown4)
     go_roundw
     case rel=>
      refine⟨2+1,a4,c4,by omega,by simp,rfl, ?_,aP HB5.out HO5.out hg4 (Nat.le_refl _) hz5⟩;rw[show(eU (n*8)).take (2+1)=(eU (n*8)).take 2++[UInt8.ofNat (n*8/2^40)]from rfl,<-List.append_assoc,List.map_append,List.map_singleton,<-dD (x:=n*8/2^40) (y:=((n:Int)*8/1099511627776)) (by omega)];exact hown4
     case measure=>simp[intOf]
    ·skip
     rw[show(7-((3:Nat):Int))=4 from rfl];go_wp2_with (at_builtin; go_must (refine aS Tryz.appBytes rfl _ _ rfl w.heap.size (.slice a5 (m+3) c5) (m+3) ((pre++(eU (n*8)).take 3).map aC) rfl wr [Value.int .u8 ((n:Int)*8/4294967296%256)] _ rfl rfl (by simp[Value.oneCell']) HO5.out (by omega) hz5 ?_); intro v4 w4 hown4 hg4 _ _; obtain⟨a4,c4,rfl,-,-⟩:=aj hown4)
     go_roundw
     case rel=>
      refine⟨3+1,a4,c4,by omega,by simp,rfl, ?_,aP HB5.out HO5.out hg4 (Nat.le_refl _) hz5⟩;rw[show(eU (n*8)).take (3+1)=(eU (n*8)).take 3++[UInt8.ofNat (n*8/2^32)]from rfl,<-List.append_assoc,List.map_append,List.map_singleton,<-dD (x:=n*8/2^32) (y:=((n:Int)*8/4294967296%256)) (by omega)];exact hown4
     case measure=>simp[intOf]
    ·skip
     rw[show(7-((4:Nat):Int))=3 from rfl];go_wp2_with (at_builtin; go_must (refine aS Tryz.appBytes rfl _ _ rfl w.heap.size (.slice a5 (m+4) c5) (m+4) ((pre++(eU (n*8)).take 4).map aC) rfl wr [Value.int .u8 ((n:Int)*8/16777216%256)] _ rfl rfl (by simp[Value.oneCell']) HO5.out (by omega) hz5 ?_); intro v4 w4 hown4 hg4 _ _; obtain⟨a4,c4,rfl,-,-⟩:=aj hown4)
     go_roundw
     case rel=>
      refine⟨4+1,a4,c4,by omega,by simp,rfl, ?_,aP HB5.out HO5.out hg4 (Nat.le_refl _) hz5⟩;rw[show(eU (n*8)).take (4+1)=(eU (n*8)).take 4++[UInt8.ofNat (n*8/2^24)]from rfl,<-List.append_assoc,List.map_append,List.map_singleton,<-dD (x:=n*8/2^24) (y:=((n:Int)*8/16777216%256)) (by omega)];exact hown4
     case measure=>simp[intOf]
    ·skip
     rw[show(7-((5:Nat):Int))=2 from rfl];go_wp2_with (at_builtin; go_must (refine aS Tryz.appBytes rfl _ _ rfl w.heap.size (.slice a5 (m+5) c5) (m+5) ((pre++(eU (n*8)).take 5).map aC) rfl wr [Value.int .u8 ((n:Int)*8/65536%256)] _ rfl rfl (by simp[Value.oneCell']) HO5.out (by omega) hz5 ?_); intro v4 w4 hown4 hg4 _ _; obtain⟨a4,c4,rfl,-,-⟩:=aj hown4)
     go_roundw
     case rel=>
      refine⟨5+1,a4,c4,by omega,by simp,rfl, ?_,aP HB5.out HO5.out hg4 (Nat.le_refl _) hz5⟩;rw[show(eU (n*8)).take (5+1)=(eU (n*8)).take 5++[UInt8.ofNat (n*8/2^16)]from rfl,<-List.append_assoc,List.map_append,List.map_singleton,<-dD (x:=n*8/2^16) (y:=((n:Int)*8/65536%256)) (by omega)];exact hown4
     case measure=>simp[intOf]
    ·skip
     rw[show(7-((6:Nat):Int))=1 from rfl];go_wp2_with (at_builtin; go_must (refine aS Tryz.appBytes rfl _ _ rfl w.heap.size (.slice a5 (m+6) c5) (m+6) ((pre++(eU (n*8)).take 6).map aC) rfl wr [Value.int .u8 ((n:Int)*8/256%256)] _ rfl rfl (by simp[Value.oneCell']) HO5.out (by omega) hz5 ?_); intro v4 w4 hown4 hg4 _ _; obtain⟨a4,c4,rfl,-,-⟩:=aj hown4)
     go_roundw
     case rel=>
      refine⟨6+1,a4,c4,by omega,by simp,rfl, ?_,aP HB5.out HO5.out hg4 (Nat.le_refl _) hz5⟩;rw[show(eU (n*8)).take (6+1)=(eU (n*8)).take 6++[UInt8.ofNat (n*8/2^8)]from rfl,<-List.append_assoc,List.map_append,List.map_singleton,<-dD (x:=n*8/2^8) (y:=((n:Int)*8/256%256)) (by omega)];exact hown4
     case measure=>simp[intOf]
    ·skip
     rw[show(7-((7:Nat):Int))=0 from rfl];go_wp2_with (at_builtin; go_must (refine aS Tryz.appBytes rfl _ _ rfl w.heap.size (.slice a5 (m+7) c5) (m+7) ((pre++(eU (n*8)).take 7).map aC) rfl wr [Value.int .u8 ((n:Int)*8%256)] _ rfl rfl (by simp[Value.oneCell']) HO5.out (by omega) hz5 ?_); intro v4 w4 hown4 hg4 _ _; obtain⟨a4,c4,rfl,-,-⟩:=aj hown4)
     go_roundw
     case rel=>
      refine⟨7+1,a4,c4,by omega,by simp,rfl, ?_,aP HB5.out HO5.out hg4 (Nat.le_refl _) hz5⟩;rw[show(eU (n*8)).take (7+1)=(eU (n*8)).take 7++[UInt8.ofNat (n*8)]from rfl,<-List.append_assoc,List.map_append,List.map_singleton,<-dD (x:=n*8) (y:=((n:Int)*8%256)) (by omega)];exact hown4
     case measure=>simp[intOf]
    ·rw[show(7-((8:Nat):Int))= -1 from rfl];have HPP:=aa (show data++fU n=pre++eU (n*8) by
      rw[HPRE.out];unfold fU;rw[Nat.mod_eq_of_lt (by omega)]
      simp)
     have HPL:=aa (show m+8=(data++fU n).length by rw[HPP.out,List.length_append,HML.out]; rfl);go_wp2_with fail;go_ret;refine⟨a5,c5,by rw[HPL.out]; rfl, ?_,HB5.out⟩;have h:=HO5.out;rw[show(eU (n*8)).take 8=eU (n*8)from rfl,<-HPP.out,HPL.out]at h;exact h
  ·have e1:((m:Int)%64 != 56)=true:=by rw[bne_iff_ne]; omega
   have hkz:k+1<=bU n:=by
    have:=HM.out
    rcases Nat.lt_or_ge k (bU n)with h | h
    ·exact h
    ·exfalso
     have:k=bU n:=by omega
     unfold bU at this;omega
   have hm40:m<1099511627775:=by have:=HM.out; omega
   go_wp2_with (at_builtin; go_must (refine aS Tryz.appBytes rfl _ _ rfl w.heap.size (.slice a3 m c3) m ((data++128::List.replicate k 0).map aC) rfl wr [Value.int .u8 0] _ rfl rfl (iu [0]) HO.out hm40 hz ?_); intro v4 w4 hown4 hg4 _ _; obtain⟨a4,c4,rfl,-,-⟩:=aj hown4)
   go_roundw
   case rel=>
    have hmm:m+1=n+1+(k+1):=by rw[HM.out]; omega
    refine⟨k+1,a4,c4,hkz,by rw[hmm], ?_,aP HB.out HO.out hg4 (Nat.le_refl _) hz⟩;rw[<-hmm,List.replicate_succ',<-List.cons_append,<-List.append_assoc,List.map_append];exact hown4
   case measure=>
    have:=HM.out
    show bU n+n+1-(m+1)<bU n+n+1-m
    omega
def iF :Array Value:=(gn.list.map bp).toArray
theorem xQ :Tryz.prog.built 101 ((gn.list.map bp).zipIdx.map fun p=>(p.2,p.1))=some iF:=by kernel_rfl
section
variable {P : Program} {ops : Array Oper} {Q : Exit → Act → World → Prop} {S : World → Prop}
theorem ug {dst:Option Tmp} {op:Op} {ty:TypeId} {pos:String} {aft:Array Edge} {g:Option (Nat×Bool)} {v:Value} {fuel:Nat} {listed:Array Bool} {a:Act} {w:World} (i:Nat) (hi:ops[i]? =some ⟨dst,op,ty,pos,aft,g⟩)
  (hs:Region.noSelect ops=true) (hf:Region.free .any ops listed i=true) (hr:(Region.ready .any ops listed).contains i=true)
  (hQ: ∀c a w,Q (.panic c) (a.put dst v) w->Q (.panic c) a w) (hY:YieldsIf P ops S ⟨dst,op,ty,pos,aft,g⟩ v a) (hS:S w)
  (h:mN P ops Q S fuel (listed.setIfInBounds i true) (a.put dst v) w):mN P ops Q S (fuel+1) listed a w:=
 mN.of (wpAnyH_take (oi:=⟨dst,op,ty,pos,aft,g⟩) hi hs hf hr hQ hY hS h.out)
end
theorem lw {S:Nat->Prop} {w:World} {a:Option Addr} {n cap:Nat} {bs:List UInt8} (h:aR S w (.slice a n cap) bs) (h0:0<bs.length): ∃b o,a=some ⟨b,o,none⟩/\n=bs.length/\n<=cap/\cap<=maxLen/\ ∀j x,bs[j]? =some x->w.cell? ⟨b,o+j,none⟩=some (u8W x):=by
 obtain⟨hl,a0,cap0,hv,hn,hm,h1⟩:=h
 cases hv
 rcases h1 with h1 | ⟨b,o,rfl,hS,hc⟩
 ·omega
 ·exact⟨b,o,rfl,rfl,hn,hm,fun j x hj=>hc j _ (by rw[List.getElem?_map,hj]; rfl)⟩
theorem xK (S:Nat->Prop) (v:Value) (data:List UInt8) (w:World) (hv:aR S w v data) (hl:data.length<549755813888):
  Calls Tryz.prog 22 #[v] w fun e w'=>e= .returned (.string ⟨(jP data).toArray⟩)/\Below w.heap.size w w':=by
 obtain⟨W0,hW0⟩: ∃W0:World,W0=(w.alloc (.cells (List.replicate 8 (bp 0)).toArray 101)).setRow w.heap.size iF:=⟨_,rfl⟩;have HB0:=aa (show Below w.heap.size w W0 by rw[hW0]; exact below_setRow ((Below.refl _ _).alloc (Nat.le_refl _) _) (Nat.le_refl _) _);have HH0:=aa (show W0.heap[w.heap.size]? =some (.cells iF 101 (0,0)) by rw[hW0]; exact setRow_heap _ _ _ _ _ _ (heap_alloc_new w _))
 have HV:=aa hv;clear hv
 go_enter Tryz.func22,Tryz.ntmps22
 go_upto_region 2 with(first | (refine dT rfl 101 _ rfl ((gn.list.map bp).zipIdx.map fun p=>(p.2,p.1)) (by kernel_rfl) iF xQ ?_) | (refine wpList_store_row rfl 101 _ _ rfl w.heap.size iF rfl rfl _ _ (heap_alloc_new w _) (by kernel_rfl) (by kernel_rfl) (by kernel_rfl) ?_) | fail)
 change Code.wp _ _ _ _ ((w.alloc (.cells (List.replicate 8 (bp 0)).toArray 101)).setRow w.heap.size iF)
 rw[<-hW0];clear hW0;go_wp2_with fail;refine(xg S v data W0 (aB.below HV.out (by omega) HB0.out) hl).mono ?_;rintro e w1 ⟨a,c,rfl,ho,hb1⟩;have HO:=aa ho;have HB1:=aa (ag HB0.out hb1);have HH1:=aa ((hb1.block _ (lt_of_block HH0.out)).trans HH0.out);obtain⟨p,hp⟩: ∃p,p=data++fU data.length:=⟨_,rfl⟩;rw[<-hp]at HO ⊢;have HP:=aa hp;have hp64:p.length%64=0:=by rw[hp]; exact uA data
 have hpl:p.length<1099511627775:=by rw[hp,List.length_append,lY]; unfold bU; omega
 obtain⟨q,hq⟩: ∃q,q=p.length/64:=⟨_,rfl⟩;obtain⟨n,hn⟩: ∃n,n=p.length:=⟨_,rfl⟩;rw[<-hn]at HO hp64 hpl hq ⊢;have HN:=aa hn;have HQ:=aa hq;clear ho hb1 hp hn;have HRN0:=aa (show dI w.heap.size w1 w1 (cT p 0)from⟨HH1.out,⟨rfl,rfl,rfl,Nat.le_refl _,fun _ _ _=>rfl⟩⟩);go_wp2_with fail
 go_loopw [5] (fun i wr=> ∃k:Nat,k<=q/\i= .int .i64 (((64*k:Nat):Int))/\dI w.heap.size w1 wr (cT p k)) (fun i _=>64*q-(intOf i).toNat)
 case atStart=>exact⟨0,by omega,rfl,HRN0.out⟩
 case round=>
  obtain⟨k,hk,rfl,hrn⟩:=hrel;have HRN:=aa hrn;clear hrn;obtain⟨j,hj⟩: ∃j,j=64*k:=⟨_,rfl⟩;rw[<-hj];have HJ:=aa hj
  by_cases hkq:k<q
  ·have hjn:j+64<=n:=by omega
   have hlt:(j:Int)<n:=by omega
   obtain⟨j2,hj2⟩: ∃j2,j2=j+64:=⟨_,rfl⟩;have HJ2:=aa hj2;have hw64:IntKind.i64.wrap ((j:Int)+64)=(j2:Int):=by rw[IntKind.wrap_i64]; omega
   have hrow:aR (fun _=>True) wr (.slice a n c) p:=by
    have h1:=bu HO.out;exact(aB.same h1 (fun i hS=>HRN.out.grown.block i (HO.out.lt i hS.2).2 (fun e=>by cases e; have:=lt_of_block HH0.out; have:=hS.1; omega))).weak (fun _ _=>trivial)
   obtain⟨a3,c3,hsl,hr3⟩:=nX hrow (show j<j2 by omega) (by rw[<-HN.out]; omega);have hpc:dQ p j j2=(p.drop (64*k)).take 64:=by unfold dQ; rw[HJ2.out,Nat.add_sub_cancel_left,HJ.out]
   have hpl:((p.drop (64*k)).take 64).length=64:=by rw[List.length_take,List.length_drop,<-HN.out]; omega
   rw[hpc]at hr3 hsl;obtain⟨bk,o3,rfl,hl3,hc3,hm3,hcell⟩:=lw hr3 (by rw[hpl]; decide);rw[hpl]at hr3 hsl hc3;clear hj hj2;have HBC:=aa hcell;obtain⟨V,hV⟩: ∃V,V=cT p k:=⟨_,rfl⟩;rw[<-hV]at HRN;have HVV:=aa hV;have HVO:=aa (show V.Ok by rw[hV]; exact jr p k);obtain⟨W6,hW6⟩: ∃W6,W6=wr.drew:=⟨_,rfl⟩;have HRN6:=aa (show dI w.heap.size w1 W6 V by rw[hW6]; exact HRN.out.next ((Below.refl _ _).drew))
   have HCELL:=aa (show ∀i x,((p.drop (64*k)).take 64)[i]? =some x->W6.cell? ⟨bk,o3+i,none⟩=some (u8W x) by rw[hW6]; exact hcell);have HI8:=aa (show(Tryz.prog.info? 101).map (·.size)=some (V.list.map bp).length by kernel_rfl);have HIA:=aa (show(Tryz.prog.info? 101).map (·.size)=some (V.list.map bp).toArray.size by kernel_rfl);clear hV hrow hr3 hcell hpc
   go_upto_region 6 with(fail)
   refine cN (fun w'=>w'.heap[w.heap.size]? =some (.cells (V.list.map bp).toArray 101 (0,0))) (by kernel_rfl) (by kernel_rfl) ?_;simp only[List.dropLast_cons_cons,List.dropLast_singleton,List.length_cons,List.length_nil,Nat.reduceAdd,Nat.reduceSub];rw[<-hW6];clear hW6;refine ug 0 rfl (by kernel_rfl) (by kernel_rfl) (by kernel_rfl) (fun _ _ _ h=>h) (yieldsIf_load_mid rfl 101 _ rfl w.heap.size 0 rfl (V.list.map bp) _ (fun w' hw'=>fZ hw') Tryz.underlying101 rfl HI8.out) HRN6.out.box ?_
   simp only[Act.put,aD,aE,aF];refine ac 1 rfl (by kernel_rfl) (by kernel_rfl) (by kernel_rfl) (fun _ _ _ h=>h) rfl HRN6.out.box (by intro w' hw'; go_simp; rfl) ?_;simp only[Act.put,aD,aE,aF];refine ac 2 rfl (by kernel_rfl) (by kernel_rfl) (by kernel_rfl) (fun _ _ _ h=>h) rfl HRN6.out.box (by intro w' hw'; go_simp; rfl) ?_;simp only[Act.put,aD,aE,aF];refine ac 3 rfl (by kernel_rfl) (by kernel_rfl) (by kernel_rfl) (fun _ _ _ h=>h) rfl HRN6.out.box (by intro w' hw'; go_simp; rfl) ?_
   simp only[Act.put,aD,aE,aF];refine ac 4 rfl (by kernel_rfl) (by kernel_rfl) (by kernel_rfl) (fun _ _ _ h=>h) rfl HRN6.out.box (by intro w' hw'; go_simp; rfl) ?_;simp only[Act.put,aD,aE,aF];refine ac 5 rfl (by kernel_rfl) (by kernel_rfl) (by kernel_rfl) (fun _ _ _ h=>h) rfl HRN6.out.box (by intro w' hw'; go_simp; first | rfl | (rw[hsl]; rfl)) ?_;simp only[Act.put,aD,aE,aF]
   have hca:=qX V bk o3 c3 _ W6 HVO.out hpl hc3 hm3 HCELL.out;obtain⟨V2,hV2⟩: ∃V2,V2=iR V ((p.drop (64*k)).take 64):=⟨_,rfl⟩;rw[<-hV2]at hca;have HV2:=aa hV2;have HCA:=aa hca;clear hca hsl hpl hV2;refine bc 6 rfl (by kernel_rfl) rfl (fun K hK=> ?_);go_wp2_with fail;refine HCA.out.mono ?_;rintro e w7 ⟨rfl,hb7⟩;have HRN7:=aa (HRN6.out.next hb7);have H81:=aa (show(V2.list.map bp).toArray.all (·.oneCell')=true from all_oneCell_toArray (fun x hx=>by obtain⟨y,-,rfl⟩:=List.mem_map.1 hx; rfl))
   have HIP:=aa (show(Tryz.prog.info? 101).map (·.size)=some (V2.list.map bp).toArray.size by kernel_rfl);clear hb7;go_wp2_with fail;refine⟨HRN7.out.box, ?_⟩;refine bO (by kernel_rfl) ?_;refine cZ rfl rfl (fun K hK=> ?_);go_wp2_with (refine wpList_store_row rfl 101 _ _ rfl w.heap.size (V2.list.map bp).toArray rfl rfl _ _ HRN7.out.box HIP.out rfl H81.out ?_)
   go_roundw
   case rel=>
    refine⟨k+1,by omega, ?_,HRN7.out.put (r':=V2) rfl |> fun h=>by rw[show cT p (k+1)=iR (cT p k) ((p.drop (64*k)).take 64)from rfl,<-HVV.out,<-HV2.out]; exact h⟩;rw[HJ2.out,HJ.out]; exact congrArg (Value.int .i64) (by omega)
   case measure=>
    have:=HJ.out;have:=HJ2.out;simp only[intOf,Int.toNat_natCast];omega
  ·have hkk:k=q:=by omega
   subst hkk;have hge: ¬(j:Int)<n:=by omega
   obtain⟨w5,hw5⟩: ∃x,x=wr:=⟨_,rfl⟩;subst hw5;obtain⟨V,hV⟩: ∃V,V=cT p k:=⟨_,rfl⟩;rw[<-hV]at HRN;have HVO:=aa (show V.Ok by rw[hV]; exact jr p k);have HVV:=aa (show jP data=V.out by unfold jP; rw[<-HP.out,<-HN.out,<-HQ.out,hV]);have HO0:=aa (show(w5.alloc (.cells #[] 5)).ownsRow w5.heap.size 5 1 (.slice (some ⟨w5.heap.size,0,none⟩) 0 0) 0 []from World.ownsRow_lit (e:=5) (size:=1) (base:=w5.heap.size) w5 #[] 0 (Nat.le_refl _) (Nat.zero_le _) (by simp))
   have HB5:=aa ((Below.refl w5.heap.size w5).alloc (Nat.le_refl _) (.cells #[] 5));clear hV hj;go_wp2_with fail
   go_loopw [6,7] (fun o i wr=> ∃(j:Nat) (a c:_),j<=8/\i= .int .i64 (j:Int)/\o= .slice a (4*j) c/\wr.ownsRow w5.heap.size 5 1 (.slice a (4*j) c) (4*j) (((V.list.take j).flatMap ox).map aC)/\Below w5.heap.size w5 wr) (fun _ i _=>8-(intOf i).toNat)
   case atStart=>exact⟨0,_,_,by omega,rfl,rfl,HO0.out,HB5.out⟩
   case round=>
    obtain⟨j,a6,c6,hj,rfl,rfl,ho,hb⟩:=hrel;have HO6:=aa ho;have HB6:=aa hb;have hz6:=hb.size;clear ho hb;obtain⟨m,hm⟩: ∃m,m=4*j:=⟨_,rfl⟩;rw[<-hm]at HO6 ⊢;have HM:=aa hm
    by_cases h8:j<8
    ·obtain⟨x,hx⟩: ∃x,V.list[j]? =some x:=⟨_,List.getElem?_eq_getElem (show j<V.list.length from h8)⟩;have HX:=aa hx;have cx:=(HB6.out.cell (p:=⟨w.heap.size,j,none⟩) (lt_of_block HRN.out.box)).trans (HRN.out.get hx);have hj8:(j:Int)<8:=by omega
     clear hx hm;obtain⟨W6,hW6⟩: ∃W6,W6=wr.drew:=⟨_,rfl⟩;have HSX:=aa (show W6.cell? ⟨w.heap.size,j,none⟩=some (.int .u32 (x:Int)) by rw[hW6]; exact cx);have HO7:=aa (show W6.ownsRow w5.heap.size 5 1 (.slice a6 m c6) m (((V.list.take j).flatMap ox).map aC) by rw[hW6]; exact HO6.out);have HB7:=aa (show Below w5.heap.size w5 W6 by rw[hW6]; exact HB6.out.drew);have hz7:=HB7.out.size
     go_upto_region 11 with(fail)
     refine cN (fun w'=>w'.cell? ⟨w.heap.size,j,none⟩=some (.int .u32 (x:Int))) (by kernel_rfl) (by kernel_rfl) ?_;simp only[List.dropLast_cons_cons,List.dropLast_singleton,List.length_cons,List.length_nil,Nat.reduceAdd,Nat.reduceSub];rw[<-hW6];clear hW6 cx;refine ac 0 rfl (by kernel_rfl) (by kernel_rfl) (by kernel_rfl) (fun _ _ _ h=>h) rfl HSX.out (by intro w' hw'; go_simp; rfl) ?_
     simp only[Act.put,aD,aE,aF];refine ac 1 rfl (by kernel_rfl) (by kernel_rfl) (by kernel_rfl) (fun _ _ _ h=>h) rfl HSX.out (by intro w' hw'; go_simp; rfl) ?_;simp only[Act.put,aD,aE,aF];refine ac 2 rfl (by kernel_rfl) (by kernel_rfl) (by kernel_rfl) (fun _ _ _ h=>h) rfl HSX.out (by intro w' hw'; go_simp; rfl) ?_;simp only[Act.put,aD,aE,aF];refine ac 3 rfl (by kernel_rfl) (by kernel_rfl) (by kernel_rfl) (fun _ _ _ h=>h) rfl HSX.out (by intro w' hw'; go_simp; rfl) ?_
     simp only[Act.put,aD,aE,aF];refine ac 4 rfl (by kernel_rfl) (by kernel_rfl) (by kernel_rfl) (fun _ _ _ h=>h) rfl HSX.out (by intro w' hw'; go_simp; rfl) ?_;simp only[Act.put,aD,aE,aF];refine ac 5 rfl (by kernel_rfl) (by kernel_rfl) (by kernel_rfl) (fun _ _ _ h=>h) rfl HSX.out (by intro w' hw'; go_simp; rfl) ?_;simp only[Act.put,aD,aE,aF];refine ac 6 rfl (by kernel_rfl) (by kernel_rfl) (by kernel_rfl) (fun _ _ _ h=>h) rfl HSX.out (by intro w' hw'; go_simp; rfl) ?_
     simp only[Act.put,aD,aE,aF];refine ac 7 rfl (by kernel_rfl) (by kernel_rfl) (by kernel_rfl) (fun _ _ _ h=>h) rfl HSX.out (by intro w' hw'; go_simp; rfl) ?_;simp only[Act.put,aD,aE,aF];refine ac 8 rfl (by kernel_rfl) (by kernel_rfl) (by kernel_rfl) (fun _ _ _ h=>h) rfl HSX.out (by intro w' hw'; go_simp; rfl) ?_;simp only[Act.put,aD,aE,aF];refine ac 9 rfl (by kernel_rfl) (by kernel_rfl) (by kernel_rfl) (fun _ _ _ h=>h) rfl HSX.out (by intro w' hw'; go_simp; rfl) ?_
     simp only[Act.put,aD,aE,aF];refine ac 10 rfl (by kernel_rfl) (by kernel_rfl) (by kernel_rfl) (fun _ _ _ h=>h) rfl HSX.out (by intro w' hw'; go_simp; rfl) ?_;simp only[Act.put,aD,aE,aF];refine ac 11 rfl (by kernel_rfl) (by kernel_rfl) (by kernel_rfl) (fun _ _ _ h=>h) rfl HSX.out (by intro w' hw'; go_simp; rfl) ?_;simp only[Act.put,aD,aE,aF];refine ac 12 rfl (by kernel_rfl) (by kernel_rfl) (by kernel_rfl) (fun _ _ _ h=>h) rfl HSX.out (by intro w' hw'; go_simp; rfl) ?_
     simp only[Act.put,aD,aE,aF];refine ac 13 rfl (by kernel_rfl) (by kernel_rfl) (by kernel_rfl) (fun _ _ _ h=>h) rfl HSX.out (by intro w' hw'; go_simp; rfl) ?_;simp only[Act.put,aD,aE,aF];refine ac 14 rfl (by kernel_rfl) (by kernel_rfl) (by kernel_rfl) (fun _ _ _ h=>h) rfl HSX.out (by intro w' hw'; go_simp; rfl) ?_;simp only[Act.put,aD,aE,aF];refine ac 15 rfl (by kernel_rfl) (by kernel_rfl) (by kernel_rfl) (fun _ _ _ h=>h) rfl HSX.out (by intro w' hw'; go_simp; rfl) ?_
     simp only[Act.put,aD,aE,aF];refine ac 16 rfl (by kernel_rfl) (by kernel_rfl) (by kernel_rfl) (fun _ _ _ h=>h) rfl HSX.out (by intro w' hw'; go_simp; rfl) ?_;simp only[Act.put,aD,aE,aF];refine ac 17 rfl (by kernel_rfl) (by kernel_rfl) (by kernel_rfl) (fun _ _ _ h=>h) rfl HSX.out (by intro w' hw'; go_simp; rfl) ?_;simp only[Act.put,aD,aE,aF];refine ac 18 rfl (by kernel_rfl) (by kernel_rfl) (by kernel_rfl) (fun _ _ _ h=>h) rfl HSX.out (by intro w' hw'; go_simp; rfl) ?_
     simp only[Act.put,aD,aE,aF];refine ac 19 rfl (by kernel_rfl) (by kernel_rfl) (by kernel_rfl) (fun _ _ _ h=>h) rfl HSX.out (by intro w' hw'; go_simp; rfl) ?_;simp only[Act.put,aD,aE,aF];refine bc 20 rfl (by kernel_rfl) rfl (fun K hK=> ?_);go_wp2_with fail;have hlx:w.heap.size<W6.heap.size:=Nat.lt_of_lt_of_le (lt_of_block HRN.out.box) hz7;have HAL:=aa ((Below.refl W6.heap.size W6).alloc (Nat.le_refl _) (.cells #[.int .u8 ((x:Int)/16777216%256), .int .u8 ((x:Int)/65536%256), .int .u8 ((x:Int)/256%256), .int .u8 ((x:Int)%256)] 5))
     have hS8:=(HAL.out.cell (p:=⟨w.heap.size,j,none⟩) hlx).trans HSX.out;have HRL:=aa (fy (n:=4) (sz:=1) (cells:=[.int .u8 ((x:Int)/16777216%256), .int .u8 ((x:Int)/65536%256), .int .u8 ((x:Int)/256%256), .int .u8 ((x:Int)%256)]) (heap_alloc_new W6 (.cells #[.int .u8 ((x:Int)/16777216%256), .int .u8 ((x:Int)/65536%256), .int .u8 ((x:Int)/256%256), .int .u8 ((x:Int)%256)] 5)) rfl (by decide))
     have HOA:=aa (HO7.out.alloc (.cells #[.int .u8 ((x:Int)/16777216%256), .int .u8 ((x:Int)/65536%256), .int .u8 ((x:Int)/256%256), .int .u8 ((x:Int)%256)] 5));have HON:=aa (show ∀u∈([.int .u8 ((x:Int)/16777216%256), .int .u8 ((x:Int)/65536%256), .int .u8 ((x:Int)/256%256), .int .u8 ((x:Int)%256)]:List Value),u.oneCell'=true by intro u hu; simp only[List.mem_cons,List.not_mem_nil,or_false]at hu; rcases hu with rfl | rfl | rfl | rfl<;> rfl)
     have hm4:m+4<1099511627775:=by have:=HM.out; omega
     have hzA:w5.heap.size<=(W6.alloc (.cells #[.int .u8 ((x:Int)/16777216%256), .int .u8 ((x:Int)/65536%256), .int .u8 ((x:Int)/256%256), .int .u8 ((x:Int)%256)] 5)).heap.size:=by simp; omega
     refine⟨hS8, ?_⟩;refine bc 21 rfl (by kernel_rfl) rfl (fun K hK=> ?_);go_wp2_with (at_builtin; go_must (refine bV Tryz.appBytes rfl _ _ rfl w5.heap.size (.slice a6 m c6) m (((V.list.take j).flatMap ox).map aC) rfl HOA.out _ 4 [.int .u8 ((x:Int)/16777216%256), .int .u8 ((x:Int)/65536%256), .int .u8 ((x:Int)/256%256), .int .u8 ((x:Int)%256)] rfl HRL.out HON.out hm4 hzA ?_); intro v9 w9 hown9 hg9; obtain⟨a9,c9,rfl,-,-⟩:=aj hown9)
     have HB9:=aa (aP (HB7.out.alloc HB7.out.size (.cells #[.int .u8 ((x:Int)/16777216%256), .int .u8 ((x:Int)/65536%256), .int .u8 ((x:Int)/256%256), .int .u8 ((x:Int)%256)] 5)) HOA.out hg9 (Nat.le_refl _) hzA);have hlw:w.heap.size<w5.heap.size:=lt_of_block HRN.out.box;have hS9:w9.cell? ⟨w.heap.size,j,none⟩=some (.int .u32 (x:Int)):=(HB9.out.cell (p:=⟨w.heap.size,j,none⟩) hlw).trans (HRN.out.get HX.out)
     refine⟨hS9, ?_⟩;refine bO (by kernel_rfl) ?_;refine cZ rfl rfl (fun K hK=> ?_);go_wp2_with fail
     go_roundw
     case rel=>
      have hmm:m+4=4*(j+1):=by rw[HM.out]; omega
      refine⟨j+1,a9,c9,by omega,by simp,by rw[hmm], ?_,HB9.out⟩;rw[<-hmm,ba HX.out,List.flatMap_append,List.map_append];have e4:([x].flatMap ox).map aC=[.int .u8 ((x:Int)/16777216%256), .int .u8 ((x:Int)/65536%256), .int .u8 ((x:Int)/256%256), .int .u8 ((x:Int)%256)]:=by
       have e0:=dD (x:=x/2^24) (y:=(x:Int)/16777216%256) (by omega);have e1:=dD (x:=x/2^16) (y:=(x:Int)/65536%256) (by omega);have e2:=dD (x:=x/2^8) (y:=(x:Int)/256%256) (by omega);have e3:=dD (x:=x) (y:=(x:Int)%256) rfl;rw[e0,e1,e2,e3]
       rfl
      rw[e4];exact hown9
     case measure=>simp[intOf]; omega
    ·obtain rfl:j=8:=by omega
     obtain rfl:m=V.out.length:=by rw[HM.out,tC]
     have hcv:=iZ (bs:=V.out) (bu (show wr.ownsRow w5.heap.size 5 1 (.slice a6 V.out.length c6) V.out.length (V.out.map aC)from HO6.out));clear hm;go_wp2_with fail;go_ret;have hB1:Below w.heap.size w w5:=dJ HB1.out HRN.out.grown (Nat.le_refl _) HB1.out.size;exact⟨by rw[HVV.out]; rfl,hB1.trans (HB6.out.mono hB1.size)⟩
open Go Go.RowKit Go.Maps
theorem sB {t:List aX} (h:ic t=true):t.length<=16/\ ∀e∈t,e.data.length<=1048576:=by
 unfold ic sA at h;simp only[Bool.and_eq_true,decide_eq_true_eq]at h;refine⟨h.1,fun f hf=> ?_⟩;rw[List.take_of_length_le (by omega)]at h;have:=xL (List.mem_map.2 ⟨f,hf,rfl⟩:f.data.length∈t.map fun f=>f.data.length);omega
end Go.Proofs.YtnjkpcalgoefhaaGreatDoor
namespace Go.Proofs.YtnjkpcalgoefhaaGreatDoor
open Go.RowKit Go.Maps
theorem aV.take {α:Type} {R:List Value->α->Prop} {sz:Nat} (hs: ∀c x,R c x->c.length=sz): ∀ {xs:List α} {cells:List Value} (k:Nat),aV R cells xs->k<=xs.length->aV R (cells.take (k*sz)) (xs.take k)
 | _,_,0,_,_=>by simp[aV]
 | [],_,k+1,_,h=>by simp at h
 | x::xs,cells,k+1,⟨c,rest,hc,hx,hr⟩,h=>by
  subst hc;have hl:=hs c x hx;refine⟨c,rest.take (k*sz), ?_,hx,aV.take hs k hr (by simpa using h)⟩;rw[List.take_append,hl,List.take_of_length_le (by rw[hl,Nat.succ_mul]; omega),Nat.succ_mul]
  congr 2; omega
open Go Go.RowKit Go.Maps
theorem xx {S:Nat->Prop} {w:World} {sz n c k:Nat} {a:Option Addr} {cells:List Value} (h:aB S w sz (.slice a n c) n cells) (hk:k<=n):aB S w sz (.slice a k c) k (cells.take (k*sz)):=by
 obtain⟨hl,a',cap,he,hn,hm,h0⟩:=h
 cases he
 refine⟨by rw[List.length_take,hl]; exact Nat.min_eq_left (Nat.mul_le_mul_right _ hk),a,c,rfl,by omega,hm, ?_⟩
 rcases h0 with h0 | ⟨b,o,ha,hb,hc⟩
 ·exact .inl (by omega)
 ·refine .inr ⟨b,o,ha,hb,fun j u hj=>hc j u ?_⟩;rw[List.getElem?_take]at hj
  split at hj
  ·exact hj
  ·cases hj
theorem xw {S:Nat->Prop} {w:World} {sz n c k b o:Nat} {cells:List Value} (h:aB S w sz (.slice (some ⟨b,o,none⟩) n c) n cells) (hk:k<=n):aB S w sz (.slice (some ⟨b,o+k*sz,none⟩) (n-k) (c-k)) (n-k) (cells.drop (k*sz)):=by
 obtain⟨hl,a',cap,he,hn,hm,h0⟩:=h
 cases he
 refine⟨by rw[List.length_drop,hl,Nat.sub_mul],_,_,rfl,by omega,by omega, ?_⟩
 rcases h0 with h0 | ⟨b',o',ha,hb,hc⟩
 ·exact .inl (by omega)
 ·cases ha
  refine .inr ⟨b,_,rfl,hb,fun j u hj=> ?_⟩;rw[List.getElem?_drop]at hj;rw[Nat.add_assoc];exact hc _ u hj
theorem wJ (r r':bq) (w:World):(Op.equalIn 10000 60 (gz r) (gz r')).run Tryz.prog w= .ok (decide (r=r')) w:=by
 have u1:=Tryz.underlying9;have u2:=Tryz.underlying3;have hS:Tryz.prog.underlying 60=some (.struct (Tryz.prog.fieldsOf 60)):=by kernel_rfl
 rw[show(10000:Nat)=9999+1 from rfl];unfold gz;rw[run_equalIn_struct w 9999 60 _ _ hS (by kernel_rfl)];simp only[Program.fieldsOf,Tryz.underlying60]
 go_simp
 obtain⟨n,s⟩:=r;obtain⟨n',s'⟩:=r';have hn:n.toList=n'.toList<->n=n':=⟨fun h=>gI (by rw[<-bw,<-bw,h]),fun h=>by rw[h]⟩;simp only[bq.mk.injEq,hn]
 by_cases h1:n=n'<;> by_cases h3:s=s'<;> simp[h1,h3]
def wy (c:cR) (e:aX):List (List UInt8):=if e.kind=1 then bF c e.data else []
theorem nM (c:cR) (e:aX):kn c e=(wy c e).map bd:=by unfold kn wy; split<;> rfl
theorem pB {c:cR} {e:aX} (h:dC e=true):(wy c e).flatten=e.data:=by
 unfold wy
 split
 ·exact lI c e.data
 ·rename_i hk; rw[ri h hk]; rfl
theorem zE {c:cR} {e:aX} (hc:dA c=true): ∀y∈wy c e,1<=y.length/\y.length<=c.mx.toNat:=by
 unfold wy
 split
 ·exact kf hc e.data
 ·simp
def oC (T:List aX):Nat:=(T.filter fun e=>decide (e.kind=1)).length
theorem ub (T:List aX) (e:aX):oC (T++[e])=oC T+(if e.kind=1 then 1 else 0):=by
 unfold oC;rw[List.filter_append,List.length_append]
 by_cases h:e.kind=1<;> simp[h]
theorem yv (T:List aX):oC T<=T.length:=List.length_filter_le _ _
theorem wO (tv:Value) (t1:Int) (tree:List aX) (c:cR) (w:World) (he:gB w) (ht:bM (fun _=>True) w tv tree) (htp: ∀e∈tree,e.data.length<=1125899906842624) (hs:c.seed<18446744073709551616):
  Calls Tryz.prog 5 #[.int .i64 t1,tv,ed c] w fun e w'=>e= .returned (.bool true)/\Below w.heap.size w w':=by
 obtain⟨ta,tc,rfl,htc,htm,-⟩:=aT.shape ht iV.len;have HE:=aa he;have h6:=he.six;have HT:=aa ht;have HTP:=aa htp;have HS:=aa hs;obtain⟨tl,htl⟩: ∃n,n=tree.length:=⟨_,rfl⟩;rw[<-htl]at HT ⊢;have HTL:=aa htl;clear he ht htp hs htl htc htm;unfold ed
 go_enter Tryz.func5,Tryz.ntmps5
 go_upto_region 1 with fail
 obtain⟨W1,hW1⟩: ∃W1,W1=w.alloc (.cells #[.int .i64 c.mn, .int .i64 c.mx, .int .i64 c.win, .int .i64 c.bits, .int .u64 (c.seed:Int)] 48):=⟨_,rfl⟩;rw[<-hW1];have HB:=aa (show Below w.heap.size w W1 by rw[hW1]; exact(Below.refl _ _).alloc (Nat.le_refl _) _);have HC:=aa (show W1.heap[w.heap.size]? =some (.cells #[.int .i64 c.mn, .int .i64 c.mx, .int .i64 c.win, .int .i64 c.bits, .int .u64 (c.seed:Int)] 48 (0,0)) by rw[hW1]; exact heap_alloc_new w _)
 clear hW1;have c0:=af (k:=0) HC.out;have c1:=af (k:=1) HC.out;have c2:=af (k:=2) HC.out;have c3:=af (k:=3) HC.out;have c4:=af (k:=4) HC.out;simp only[List.getElem?_toArray,cw]at c0 c1 c2 c3 c4;have HT1:=aa (HT.out.below HB.out);go_wp2_with (go_at_call 18; refine(vw _ tree _ _ HT1.out HTP.out).mono ?_);rintro e w2 ⟨rfl,hb2⟩;have HB2:=aa (ag HB.out hb2)
 have HC2:=aa ((hb2.block _ (lt_of_block HC.out)).trans HC.out);clear hb2 c0 c1 c2 c3 c4
 cases hsm:ic tree
 case false=>
  go_wp2_with fail;refine(ew _ (HE.out.keep HB2.out h6)).mono ?_;rintro e wz ⟨rfl,hbz⟩;have HBZ:=aa (ag HB2.out hbz);clear hbz;go_wp2_with fail;go_ret;exact⟨rfl,HBZ.out⟩
 have HSM:=aa hsm;have c0:=af (k:=0) HC2.out;have c1:=af (k:=1) HC2.out;have c2:=af (k:=2) HC2.out;have c3:=af (k:=3) HC2.out;have c4:=af (k:=4) HC2.out;simp only[List.getElem?_toArray,cw]at c0 c1 c2 c3 c4;go_wp2_with (go_at_call 21; refine(qH c _).mono ?_);rintro e w3 ⟨rfl,hb3⟩;have HB3:=aa (ag HB2.out hb3);have HC3:=aa ((hb3.block _ (lt_of_block HC2.out)).trans HC2.out)
 clear hb3 c0 c1 c2 c3 c4
 cases hvc:dA c
 case false=>
  go_wp2_with fail;refine(ew _ (HE.out.keep HB3.out h6)).mono ?_;rintro e wz ⟨rfl,hbz⟩;have HBZ:=aa (ag HB3.out hbz);clear hbz;go_wp2_with fail;go_ret;exact⟨rfl,HBZ.out⟩
 have HVC:=aa hvc;have c0:=af (k:=0) HC3.out;have c1:=af (k:=1) HC3.out;have c2:=af (k:=2) HC3.out;have c3:=af (k:=3) HC3.out;have c4:=af (k:=4) HC3.out;simp only[List.getElem?_toArray,cw]at c0 c1 c2 c3 c4
 by_cases h40:40<c.mn
 case pos=>
  go_wp2_with fail;refine(ew _ (HE.out.keep HB3.out h6)).mono ?_;rintro e wz ⟨rfl,hbz⟩;have HBZ:=aa (ag HB3.out hbz);clear hbz;go_wp2_with fail;go_ret;exact⟨rfl,HBZ.out⟩
 have h40': ¬40<c.mn:=h40
 go_upto_region 3 with fail
 have HT3:=aa (HT.out.below HB3.out);have HE3:=aa (HE.out.keep HB3.out h6);go_wp2_with (go_at_call 20; refine(jO (fun _=>True) (fun _=>True) ⟨0,[]⟩ (.slice none 0 0) _ t1 tree ⟨#[]⟩ c _ (aY.nil _ _) HT3.out HE3.out HS.out (by simp)).mono ?_);intro e w5 h5;rw[show bl ⟨#[]⟩=[]from rfl]at h5
 cases hsc:dm ⟨0,[]⟩ t1 tree [] c with
 | error y=>
  rw[hsc]at h5;obtain⟨hb5,rfl,hy⟩:=h5;unfold tN;have HB5:=aa (ag HB3.out hb5);have HB6:=aa (HB5.out.alloc HB5.out.size (.cells #[.int .i64 0, .slice none 0 0, .slice none 0 0, .slice none 0 0, .int .i64 0, .int .i64 0] 54));clear hb5;go_wp2_with fail;refine(ew _ (HE.out.keep HB6.out h6)).mono ?_;rintro e wz ⟨rfl,hbz⟩;have HBZ:=aa (ag HB6.out hbz);clear hbz
  go_wp2_with fail;go_ret;exact⟨rfl,HBZ.out⟩
 | ok r=>
  rw[hsc]at h5;obtain⟨hb5,fv,cv,nv,rfl,hf5,hc5,hn5⟩:=h5;obtain⟨hfil,hkept,hread,hchg,hval⟩:=ro hsc;rw[hfil]at hf5;rw[hchg]at hc5;rw[hkept];obtain⟨rd,hrd⟩: ∃n,n=r.read:=⟨_,rfl⟩;rw[<-hrd];have HRD:=aa (show rd=oC tree by rw[hrd,hread]; rfl);have HVAL:=aa hval;obtain⟨fa,fc,rfl,-,-,-⟩:=aT.shape hf5.at fK.len;obtain⟨ca,cc,rfl,-,-⟩:=aj hc5
  obtain⟨ys,hys,hn1,-⟩:=id hn5;obtain⟨na,nc,rfl,-,-⟩:=aj hn1;rw[List.length_map,<-HTL.out]at hf5 ⊢;have hcl:(tree.map fun e=>(e.path,(1:Int))).length=tl:=by rw[List.length_map,HTL.out]
  rw[hcl];have HCLN:=aa hcl;clear hcl;have HB5:=aa (ag HB3.out hb5);have HC5:=aa ((hb5.block _ (lt_of_block HC3.out)).trans HC3.out);have HF5:=aa hf5.at
  have HG5:=aa (tD hc5 (fun p hp=>by
   obtain⟨e,he,rfl⟩:=List.mem_map.1 hp;obtain⟨k,hk⟩:=List.getElem?_of_mem he;obtain⟨_,_,_,_,_,_,_,hok,_⟩:=iw HT.out hk;exact⟨hok.pth,rfl⟩))
  obtain⟨tmr,htmr⟩: ∃x,x=r.idx.tm:=⟨_,rfl⟩;rw[<-htmr];obtain⟨nl,hnl⟩: ∃x,x=ys.length:=⟨_,rfl⟩;rw[<-hnl];clear hsc hb5 hf5 hc5 hn5 hfil hkept hread hchg hval hrd hys hn1 htmr hnl c0 c1 c2 c3 c4
  go_upto_region 4 with fail
  obtain⟨W6,hW6⟩: ∃W6,W6=w5.alloc (.cells #[.int .i64 tmr, .slice fa tl fc, .slice ca tl cc, .slice na nl nc, .int .i64 (rd:Int), .int .i64 0] 54):=⟨_,rfl⟩;rw[<-hW6];have hbw:Below w5.heap.size w5 W6:=by rw[hW6]; exact(Below.refl _ _).alloc (Nat.le_refl _) _
  have HY6:=aa (show W6.heap[w5.heap.size]? =some (.cells #[.int .i64 tmr, .slice fa tl fc, .slice ca tl cc, .slice na nl nc, .int .i64 (rd:Int), .int .i64 0] 54 (0,0)) by rw[hW6]; exact heap_alloc_new w5 _);obtain⟨bY,hbY⟩: ∃k,k=w5.heap.size:=⟨_,rfl⟩;rw[<-hbY]at HY6;rw[<-hbY];have HB6:=aa (ag HB5.out hbw);have HC6:=aa ((hbw.block _ (lt_of_block HC5.out)).trans HC5.out)
  have HF6:=aa (HF5.out.below hbw);have HG6:=aa (show ay (fun _=>True) W6 (.slice ca tl cc) ((tree.map fun e=>(e.path,(1:Int))).map qD) by rw[<-HCLN.out]; exact HG5.out.below hbw);have HT6:=aa (HT.out.below HB6.out);have h16:tl<=16:=by rw[HTL.out]; exact(sB HSM.out).1
  clear hW6 hbw hbY HF5 HG5;have y1:=af (k:=1) HY6.out;have y2:=af (k:=2) HY6.out;have y5:=af (k:=5) HY6.out;simp only[List.getElem?_toArray,cw]at y1 y2 y5;go_wp2_with fail;clear y1 y2 y5
  go_loopw [9,10] (fun s i wr=> ∃k:Nat,k<=tl/\i= .int .i64 k/\s= .int .i64 ((oC (tree.take k):Nat):Int)/\Below W6.heap.size W6 wr) (fun _ i _=>tl-(intOf i).toNat)
  case atStart=>exact⟨0,Nat.zero_le _,rfl,rfl,Below.refl _ _⟩
  case round=>
   obtain⟨k,hk,rfl,rfl,hbr⟩:=hrel;obtain⟨W7,hW7⟩: ∃y:World,y=wr:=⟨_,rfl⟩;subst hW7;have HBR:=aa hbr;clear hbr;obtain⟨m,hm⟩: ∃m,m=oC (tree.take k):=⟨_,rfl⟩;have hmk:m<=k:=by
    rw[hm]; exact Nat.le_trans (yv _) (List.length_take_le _ _)
   have HM:=aa hm;rw[<-hm];clear hm
   by_cases hlt:k<tl
   ·obtain⟨e,hek⟩: ∃e,tree[k]? =some e:=⟨_,List.getElem?_eq_getElem (show k<tree.length by rw[<-HTL.out]; exact hlt)⟩;have HVE:=aa (HVAL.out e (List.mem_of_getElem? hek));have HCNT:=aa (show oC (tree.take (k+1))=m+(if e.kind=1 then 1 else 0) by rw[ba hek,ub,<-HM.out]);obtain⟨b2,o2,pa,pc,rfl,-,hpa,hblt2,-,hcl⟩:=ez HF6.out (Below.refl _ _) (show(tree.map (kH c))[k]? =some (kH c e) by rw[List.getElem?_map,hek]; rfl)
    obtain⟨b1,o1,dv,rfl,-,hblt1,hd,-,-,t0,t1',t2,t3,t4,t5⟩:=iw HT6.out hek;obtain⟨da,dc,rfl,hdc,hdm⟩:=hd.slice;obtain⟨bg,og,hga,-,hblt3,-,g0,g1⟩:=dP HG6.out (Below.refl _ _) (show((tree.map fun e=>(e.path,(1:Int))).map qD)[k]? =some (qD (e.path,1)) by rw[List.getElem?_map,List.getElem?_map,hek]; rfl);subst hga;have HD:=aa hd;have HPA:=aa hpa
    obtain⟨dl,hdl⟩: ∃n,n=e.data.length:=⟨_,rfl⟩;obtain⟨pn,hpn⟩: ∃n,n=(kH c e).parts.length:=⟨_,rfl⟩;have HDL:=aa hdl;have HPN:=aa hpn;have hdle:dl<=1048576:=by rw[hdl]; exact yx HVE.out
    rw[<-hdl]at HD t4 hdc;have hcl': ∀j,j<7->W6.cell? ⟨b2,o2+k*7+j,none⟩=([.string e.path, .int .i64 e.kind, .int .i64 e.mode, .int .i64 e.time, .int .i64 (dl:Int), .string e.link, .slice pa pn pc]:List Value)[j]? :=fun j hj=>by
     rw[hcl j hj,hpn,hdl]; rfl
    rw[<-hpn]at HPA;have HCE:=aa (show ∀u:World,Below W6.heap.size W6 u->(u.cell? ⟨b1,o1+k*6,none⟩=some (.string e.path)/\u.cell? ⟨b1,o1+k*6+1,none⟩=some (.int .i64 e.kind)/\u.cell? ⟨b1,o1+k*6+4,none⟩=some (.slice da dl dc))/\(∀j,j<7->u.cell? ⟨b2,o2+k*7+j,none⟩=([.string e.path, .int .i64 e.kind, .int .i64 e.mode, .int .i64 e.time, .int .i64 (dl:Int), .string e.link, .slice pa pn pc]:List Value)[j]?)/\(u.cell? ⟨bg,og+k*2,none⟩=some (.string e.path)/\u.cell? ⟨bg,og+k*2+1,none⟩=some (.int .i64 1))/\(u.cell? ⟨bY,1,none⟩=some (.slice (some ⟨b2,o2,none⟩) tl fc)/\u.cell? ⟨bY,2,none⟩=some (.slice (some ⟨bg,og,none⟩) tl cc))/\u.cell? ⟨w.heap.size,1,none⟩=some (.int .i64 c.mx)from fun u hu=>
     ⟨⟨(hu.cell (p:=⟨b1,o1+k*6,none⟩) hblt1).trans t0,(hu.cell (p:=⟨b1,o1+k*6+1,none⟩) hblt1).trans t1',(hu.cell (p:=⟨b1,o1+k*6+4,none⟩) hblt1).trans t4⟩,fun j hj=>(hu.cell (p:=⟨b2,o2+k*7+j,none⟩) hblt2).trans (hcl' j hj),⟨(hu.cell (p:=⟨bg,og+k*2,none⟩) hblt3).trans g0,(hu.cell (p:=⟨bg,og+k*2+1,none⟩) hblt3).trans g1⟩,⟨(hu.cell (p:=⟨bY,1,none⟩) (lt_of_block HY6.out)).trans (af (k:=1) HY6.out),(hu.cell (p:=⟨bY,2,none⟩) (lt_of_block HY6.out)).trans (af (k:=2) HY6.out)⟩,(hu.cell (p:=⟨w.heap.size,1,none⟩) (lt_of_block HC6.out)).trans (af (k:=1) HC6.out)⟩)
    have HEK:=aa hek;clear hek hpa hblt2 hcl hcl' hblt1 hd t0 t1' t2 t3 t4 t5 hblt3 g0 g1 hdl hpn;have hklt:(k:Int)<(tl:Int):=by omega
    obtain⟨⟨t0,t1',t4⟩,hfc,⟨g0,g1⟩,⟨y1,y2⟩,c1⟩:=HCE.out W7 HBR.out;have q0:=hfc 0 (by omega);have q1:=hfc 1 (by omega);have q2:=hfc 2 (by omega);have q3:=hfc 3 (by omega);have q4:=hfc 4 (by omega);have q5:=hfc 5 (by omega);have q6:=hfc 6 (by omega);simp only[cw,Nat.add_zero]at q0 q1 q2 q3 q4 q5 q6;clear hfc
    go_upto_region 13 with fail
    obtain⟨W8,hW8⟩: ∃u:World,u=W7.alloc (.cells #[.string e.path, .int .i64 e.kind, .int .i64 e.mode, .int .i64 e.time, .int .i64 (dl:Int), .string e.link, .slice pa pn pc] 27):=⟨_,rfl⟩;rw[<-hW8];have hbw:Below W7.heap.size W7 W8:=by rw[hW8]; exact(Below.refl _ _).alloc (Nat.le_refl _) _
    have HX8:=aa (show W8.heap[W7.heap.size]? =some (.cells #[.string e.path, .int .i64 e.kind, .int .i64 e.mode, .int .i64 e.time, .int .i64 (dl:Int), .string e.link, .slice pa pn pc] 27 (0,0)) by rw[hW8]; exact heap_alloc_new W7 _);have HB8:=aa (ag HBR.out hbw);obtain⟨bX,hbX⟩: ∃k,k=W7.heap.size:=⟨_,rfl⟩;rw[<-hbX]at HX8;rw[<-hbX];clear hW8 hbw hbX q0 q1 q2 q3 q4 q5 q6 t0 t1' t4 g0 g1 y1 y2 c1
    obtain⟨⟨t0,t1',t4⟩,-,⟨g0,g1⟩,⟨y1,y2⟩,c1⟩:=HCE.out W8 HB8.out;have d0:=af (k:=0) HX8.out;have d4:=af (k:=4) HX8.out;have d6:=af (k:=6) HX8.out;simp only[List.getElem?_toArray,cw]at d0 d4 d6;have heq:=wJ ⟨e.path,1⟩ ⟨e.path,1⟩;unfold gz at heq;rw[show decide ((⟨e.path,1⟩:bq)=⟨e.path,1⟩)=true by simp]at heq;have hdc3:(dl:Int)<=(dc:Int):=by omega
    go_quiet (fail)
    have HB9:=aa (show Below W6.heap.size W6 (W8.drewN nq)from ag HB8.out ⟨rfl,rfl,rfl,Nat.le_refl _,fun _ _=>rfl⟩);have HX9:=aa (show(W8.drewN nq).heap[bX]? =some (.cells #[.string e.path, .int .i64 e.kind, .int .i64 e.mode, .int .i64 e.time, .int .i64 (dl:Int), .string e.link, .slice pa pn pc] 27 (0,0))from HX8.out);clear t0 t1' t4 g0 g1 y1 y2 c1 d0 d4 d6 heq HX8 HB8
    generalize W8.drewN nq=W9 at *
    obtain⟨⟨t0,t1',t4⟩,-,-,-,c1⟩:=HCE.out W9 HB9.out
    go_upto_if 107 with fail
    go_cut [9]from 60 to 170 (fun s wx=>s= .int .i64 ((oC (tree.take (k+1)):Nat):Int)/\wx=W9)
    case first=>
     by_cases hk1:e.kind=1
     ·have hk2:(e.kind == 1)=true:=by simp[hk1]
      have HN:=aa (HCNT.out.trans (by rw[if_pos hk1]));go_wp2_with fail
      go_meet
      case rel=>exact⟨by rw[HN.out]; rfl,rfl⟩
     ·have hk2:(e.kind == 1)=false:=by simp[hk1]
      have HN:=aa (HCNT.out.trans (by rw[if_neg hk1,Nat.add_zero]));go_wp2_with fail
      go_meet
      case rel=>exact⟨by rw[HN.out],rfl⟩
    case rest=>
     obtain⟨rfl,hwc⟩:=hcut;rw[hwc];clear hwc t0 t1' t4 c1;have HPC:=aa (show pn=(wy c e).length by rw[HPN.out]; show(kn c e).length=_; rw[nM,List.length_map]);have hpnb:pn<=9223372036854775807:=by
      obtain⟨-,h1,h2⟩:=nN HPA.out;unfold maxLen at h2;omega
     go_wp2_with fail
     go_loopw [12,13] (fun s i wq=> ∃j:Nat,j<=pn/\i= .int .i64 j/\s= .int .i64 ((((wy c e).take j).flatten.length:Nat):Int)/\Below W9.heap.size W9 wq) (fun _ i _=>pn-(intOf i).toNat)
     case atStart=>exact⟨0,Nat.zero_le _,rfl,rfl,Below.refl _ _⟩
     case round=>
      obtain⟨j,hj,rfl,rfl,hbq⟩:=hrel;obtain⟨WA,hWA⟩: ∃y:World,y=wr:=⟨_,rfl⟩;subst hWA;have HBQ:=aa hbq;have HB6Q:=aa (HB9.out.trans (hbq.mono HB9.out.size));have HXA:=aa ((hbq.block _ (lt_of_block HX9.out)).trans HX9.out);obtain⟨A,hA⟩: ∃A,A=((wy c e).take j).flatten.length:=⟨_,rfl⟩;rw[<-hA];have d6:=af (k:=6) HXA.out;simp only[List.getElem?_toArray,cw]at d6
      clear hbq
      by_cases hlj:j<pn
      ·obtain⟨y,hy⟩: ∃y,(wy c e)[j]? =some y:=⟨_,List.getElem?_eq_getElem (show j<(wy c e).length by rw[<-HPC.out]; exact hlj)⟩;obtain⟨hp1,hp2,hp3⟩:=xm (pB HVE.out) hy;obtain⟨hy1,hy2⟩:=zE HVC.out y (List.mem_of_getElem? hy);rw[<-hA]at hp1 hp2 hp3;rw[<-HDL.out]at hp1;obtain⟨b3,o3,rfl,-,-,-,s0,s1⟩:=dP HPA.out HB6Q.out (show(kH c e).parts[j]? =some (bd y) by show(kn c e)[j]? =_; rw[nM,List.getElem?_map,hy]; rfl)
       obtain⟨yl,hyl⟩: ∃n,n=y.length:=⟨_,rfl⟩;have HYL:=aa hyl;have s0':WA.cell? ⟨b3,o3+j*2,none⟩=some (.string ⟨(jP y).toArray⟩):=s0;have s1':WA.cell? ⟨b3,o3+j*2+1,none⟩=some (.int .i64 (yl:Int)):=by rw[hyl]; exact s1
       rw[<-hyl]at hp1 hp2 hp3 hy1 hy2;have hcm:(yl:Int)<=c.mx:=by
        have:=dB.1 HVC.out;omega
       have hadd:IntKind.i64.wrap ((A:Int)+(yl:Int))=((A+yl:Nat):Int):=by rw[IntKind.wrap_i64]; omega
       have HP2:=aa hp2;have HP3:=aa hp3;have HYJ:=aa hy;clear s0 s1 hyl hp2 hp3 hy hA;obtain⟨b4,o4,hda⟩: ∃b o,da=some ⟨b,o,none⟩:=by
        obtain⟨b,o,h,-⟩:=lw (show aR _ W6 (.slice da dl dc) e.data from HD.out) (by rw[<-HDL.out]; omega);exact⟨b,o,h⟩
       subst hda;obtain⟨⟨t0,t1',t4⟩,-,-,-,c1⟩:=HCE.out WA HB6Q.out;have hjn:(j:Int)<(pn:Int):=by omega
       go_upto_region 22 with fail
       refine fR (fun u=>u.cell? ⟨bX,6,none⟩=some (.slice (some ⟨b3,o3,none⟩) pn pc)/\u.cell? ⟨b3,o3+j*2,none⟩=some (.string ⟨(jP y).toArray⟩)/\u.cell? ⟨b3,o3+j*2+1,none⟩=some (.int .i64 (yl:Int))/\u.cell? ⟨b1,o1+k*6+4,none⟩=some (.slice (some ⟨b4,o4,none⟩) dl dc)/\u.cell? ⟨w.heap.size,1,none⟩=some (.int .i64 c.mx)) (by kernel_rfl) ?_;obtain⟨U,hU⟩: ∃V:World,V=WA.drew:=⟨_,rfl⟩
       rw[<-hU];have hbu:Below WA.heap.size WA U:=by rw[hU]; exact(Below.refl _ _).drew
       have SU:=aa (show U.cell? ⟨bX,6,none⟩=some (.slice (some ⟨b3,o3,none⟩) pn pc)/\U.cell? ⟨b3,o3+j*2,none⟩=some (.string ⟨(jP y).toArray⟩)/\U.cell? ⟨b3,o3+j*2+1,none⟩=some (.int .i64 (yl:Int))/\U.cell? ⟨b1,o1+k*6+4,none⟩=some (.slice (some ⟨b4,o4,none⟩) dl dc)/\U.cell? ⟨w.heap.size,1,none⟩=some (.int .i64 c.mx) by rw[hU]; exact⟨d6,s0',s1',t4,c1⟩)
       have HBU:=aa (ag HBQ.out hbu);have HB6U:=aa (ag HB6Q.out hbu);clear hU hbu d6 s0' s1' t0 t1' t4 c1;have e1:((A+yl:Nat):Int)<=(dl:Int):=by omega
       have e2: ¬(dl:Int)<((A+yl:Nat):Int):=by omega
       have e3: ¬c.mx<(yl:Int):=by omega
       have e1b:(A:Int)+(yl:Int)<=(dl:Int):=by omega
       have e2b:decide ((dl:Int)<(A:Int)+(yl:Int))=false:=by rw[decide_eq_false_iff_not]; omega
       have e3b:decide (c.mx<(yl:Int))=false:=by rw[decide_eq_false_iff_not]; omega
       have e4:A+yl<=dc:=by omega
       have e5:A<dc:=by omega
       have e6:0<=(A:Int)+(yl:Int)/\(A:Int)+(yl:Int)<=(dc:Int):=by omega
       have e7:((A:Int)+(yl:Int)).toNat=A+yl:=by omega
       have e8: ¬dc=A:=by omega
       have e9:A<=A+yl:=by omega
       have e10:A+yl-A=yl:=by omega
       refine ac 0 rfl (by kernel_rfl) (by kernel_rfl) (by kernel_rfl) (fun _ _ _ h=>h) rfl SU.out (by rintro w' ⟨_,_,_,_,_⟩; go_simp; rfl) ?_;simp only[Act.put,aD,aE,aF];refine ac 1 rfl (by kernel_rfl) (by kernel_rfl) (by kernel_rfl) (fun _ _ _ h=>h) rfl SU.out (by rintro w' ⟨_,_,_,_,_⟩; go_simp; rfl) ?_;simp only[Act.put,aD,aE,aF];refine ac 2 rfl (by kernel_rfl) (by kernel_rfl) (by kernel_rfl) (fun _ _ _ h=>h) rfl SU.out (by rintro w' ⟨_,_,_,_,_⟩; go_simp; rfl) ?_
       simp only[Act.put,aD,aE,aF];refine ac 3 rfl (by kernel_rfl) (by kernel_rfl) (by kernel_rfl) (fun _ _ _ h=>h) rfl SU.out (by rintro w' ⟨_,_,_,_,_⟩; go_simp; rfl) ?_;simp only[Act.put,aD,aE,aF];refine ac 4 rfl (by kernel_rfl) (by kernel_rfl) (by kernel_rfl) (fun _ _ _ h=>h) rfl SU.out (by rintro w' ⟨_,_,_,_,_⟩; go_simp; rfl) ?_;simp only[Act.put,aD,aE,aF]
       refine ac 5 rfl (by kernel_rfl) (by kernel_rfl) (by kernel_rfl) (fun _ _ _ h=>h) rfl SU.out (by rintro w' ⟨_,_,_,_,_⟩; go_simp; rfl) ?_;simp only[Act.put,aD,aE,aF];refine ac 6 rfl (by kernel_rfl) (by kernel_rfl) (by kernel_rfl) (fun _ _ _ h=>h) rfl SU.out (by rintro w' ⟨_,_,_,_,_⟩; go_simp; rfl) ?_;simp only[Act.put,aD,aE,aF];refine ac 7 rfl (by kernel_rfl) (by kernel_rfl) (by kernel_rfl) (fun _ _ _ h=>h) rfl SU.out (by rintro w' ⟨_,_,_,_,_⟩; go_simp; rfl) ?_
       simp only[Act.put,aD,aE,aF];refine ac 8 rfl (by kernel_rfl) (by kernel_rfl) (by kernel_rfl) (fun _ _ _ h=>h) rfl SU.out (by rintro w' ⟨_,_,_,_,_⟩; go_simp; rfl) ?_;simp only[Act.put,aD,aE,aF];refine ac 9 rfl (by kernel_rfl) (by kernel_rfl) (by kernel_rfl) (fun _ _ _ h=>h) rfl SU.out (by rintro w' ⟨_,_,_,_,_⟩; go_simp; rfl) ?_;simp only[Act.put,aD,aE,aF]
       refine ac 10 rfl (by kernel_rfl) (by kernel_rfl) (by kernel_rfl) (fun _ _ _ h=>h) rfl SU.out (by rintro w' ⟨_,_,_,_,_⟩; go_simp; rfl) ?_;simp only[Act.put,aD,aE,aF];refine ac 11 rfl (by kernel_rfl) (by kernel_rfl) (by kernel_rfl) (fun _ _ _ h=>h) rfl SU.out (by rintro w' ⟨_,_,_,_,_⟩; go_simp; rfl) ?_;simp only[Act.put,aD,aE,aF];refine ac 12 rfl (by kernel_rfl) (by kernel_rfl) (by kernel_rfl) (fun _ _ _ h=>h) rfl SU.out (by rintro w' ⟨_,_,_,_,_⟩; go_simp; rfl) ?_
       simp only[Act.put,aD,aE,aF];refine ac 13 rfl (by kernel_rfl) (by kernel_rfl) (by kernel_rfl) (fun _ _ _ h=>h) rfl SU.out (by rintro w' ⟨_,_,_,_,_⟩; go_simp; rfl) ?_;simp only[Act.put,aD,aE,aF];refine ac 14 rfl (by kernel_rfl) (by kernel_rfl) (by kernel_rfl) (fun _ _ _ h=>h) rfl SU.out (by rintro w' ⟨_,_,_,_,_⟩; go_simp; rfl) ?_;simp only[Act.put,aD,aE,aF]
       refine ac 15 rfl (by kernel_rfl) (by kernel_rfl) (by kernel_rfl) (fun _ _ _ h=>h) rfl SU.out (by rintro w' ⟨_,_,_,_,_⟩; go_simp; rfl) ?_;simp only[Act.put,aD,aE,aF];refine ac 16 rfl (by kernel_rfl) (by kernel_rfl) (by kernel_rfl) (fun _ _ _ h=>h) rfl SU.out (by rintro w' ⟨_,_,_,_,_⟩; go_simp; rfl) ?_;simp only[Act.put,aD,aE,aF];refine ac 17 rfl (by kernel_rfl) (by kernel_rfl) (by kernel_rfl) (fun _ _ _ h=>h) rfl SU.out (by rintro w' ⟨_,_,_,_,_⟩; go_simp; rfl) ?_
       simp only[Act.put,aD,aE,aF];refine ac 18 rfl (by kernel_rfl) (by kernel_rfl) (by kernel_rfl) (fun _ _ _ h=>h) rfl SU.out (by rintro w' ⟨_,_,_,_,_⟩; go_simp; rfl) ?_;simp only[Act.put,aD,aE,aF];refine ac 19 rfl (by kernel_rfl) (by kernel_rfl) (by kernel_rfl) (fun _ _ _ h=>h) rfl SU.out (by rintro w' ⟨_,_,_,_,_⟩; go_simp; rfl) ?_;simp only[Act.put,aD,aE,aF]
       refine ac 20 rfl (by kernel_rfl) (by kernel_rfl) (by kernel_rfl) (fun _ _ _ h=>h) rfl SU.out (by rintro w' ⟨_,_,_,_,_⟩; go_simp; rfl) ?_;simp only[Act.put,aD,aE,aF];refine ac 21 rfl (by kernel_rfl) (by kernel_rfl) (by kernel_rfl) (fun _ _ _ h=>h) rfl SU.out (by rintro w' ⟨_,_,_,_,_⟩; go_simp; rfl) ?_;simp only[Act.put,aD,aE,aF];refine ac 22 rfl (by kernel_rfl) (by kernel_rfl) (by kernel_rfl) (fun _ _ _ h=>h) rfl SU.out (by rintro w' ⟨_,_,_,_,_⟩; go_simp; rfl) ?_
       simp only[Act.put,aD,aE,aF];refine ac 23 rfl (by kernel_rfl) (by kernel_rfl) (by kernel_rfl) (fun _ _ _ h=>h) rfl SU.out (by rintro w' ⟨_,_,_,_,_⟩; go_simp; rfl) ?_;simp only[Act.put,aD,aE,aF];refine ac 24 rfl (by kernel_rfl) (by kernel_rfl) (by kernel_rfl) (fun _ _ _ h=>h) rfl SU.out (by rintro w' ⟨_,_,_,_,_⟩; go_simp; rfl) ?_;simp only[Act.put,aD,aE,aF]
       refine ac 25 rfl (by kernel_rfl) (by kernel_rfl) (by kernel_rfl) (fun _ _ _ h=>h) rfl SU.out (by rintro w' ⟨_,_,_,_,_⟩; go_simp; rfl) ?_;simp only[Act.put,aD,aE,aF];refine ac 26 rfl (by kernel_rfl) (by kernel_rfl) (by kernel_rfl) (fun _ _ _ h=>h) rfl SU.out (by rintro w' ⟨_,_,_,_,_⟩; go_simp; rfl) ?_;simp only[Act.put,aD,aE,aF];refine ac 27 rfl (by kernel_rfl) (by kernel_rfl) (by kernel_rfl) (fun _ _ _ h=>h) rfl SU.out (by rintro w' ⟨_,_,_,_,_⟩; go_simp; rfl) ?_
       simp only[Act.put,aD,aE,aF];refine ac 28 rfl (by kernel_rfl) (by kernel_rfl) (by kernel_rfl) (fun _ _ _ h=>h) rfl SU.out (by rintro w' ⟨_,_,_,_,_⟩; go_simp; rfl) ?_;simp only[Act.put,aD,aE,aF];refine ac 29 rfl (by kernel_rfl) (by kernel_rfl) (by kernel_rfl) (fun _ _ _ h=>h) rfl SU.out (by rintro w' ⟨_,_,_,_,_⟩; go_simp; rfl) ?_;simp only[Act.put,aD,aE,aF]
       refine ac 30 rfl (by kernel_rfl) (by kernel_rfl) (by kernel_rfl) (fun _ _ _ h=>h) rfl SU.out (by rintro w' ⟨_,_,_,_,_⟩; go_simp; rfl) ?_;simp only[Act.put,aD,aE,aF];refine ac 31 rfl (by kernel_rfl) (by kernel_rfl) (by kernel_rfl) (fun _ _ _ h=>h) rfl SU.out (by rintro w' ⟨_,_,_,_,_⟩; go_simp; rfl) ?_;simp only[Act.put,aD,aE,aF];refine ac 32 rfl (by kernel_rfl) (by kernel_rfl) (by kernel_rfl) (fun _ _ _ h=>h) rfl SU.out (by rintro w' ⟨_,_,_,_,_⟩; go_simp; rfl) ?_
       simp only[Act.put,aD,aE,aF];refine ac 33 rfl (by kernel_rfl) (by kernel_rfl) (by kernel_rfl) (fun _ _ _ h=>h) rfl SU.out (by rintro w' ⟨_,_,_,_,_⟩; go_simp; rfl) ?_;simp only[Act.put,aD,aE,aF];have HBY:=aa (show aR (fun _=>True) U (.slice (some ⟨b4,o4+A,none⟩) yl (dc-A)) y from by
        have h1:=aB.below (show aB _ W6 1 (.slice (some ⟨b4,o4,none⟩) dl dc) e.data.length (e.data.map aC)from HD.out) (by omega) HB6U.out;rw[<-HDL.out]at h1;have h2:=xw (k:=A) (xx (k:=A+yl) h1 hp1) (by omega);rw[Nat.mul_one,Nat.mul_one,<-List.map_take,<-List.map_drop,HP2.out,e10]at h2
        show aB _ U 1 _ y.length (y.map aC)
        rw[<-HYL.out];exact h2.weak fun _ _=>trivial)
       refine bc 34 rfl (by kernel_rfl) rfl (fun K hK=> ?_);go_wp2_with (go_at_call 22; refine(xK _ _ y _ HBY.out (by have:=HYL.out; omega)).mono ?_; rintro e' WB ⟨rfl,hbb⟩);have SB:=aa (show WB.cell? ⟨bX,6,none⟩=some (.slice (some ⟨b3,o3,none⟩) pn pc)/\WB.cell? ⟨b3,o3+j*2,none⟩=some (.string ⟨(jP y).toArray⟩)/\WB.cell? ⟨b3,o3+j*2+1,none⟩=some (.int .i64 (yl:Int))/\WB.cell? ⟨b1,o1+k*6+4,none⟩=some (.slice (some ⟨b4,o4,none⟩) dl dc)/\WB.cell? ⟨w.heap.size,1,none⟩=some (.int .i64 c.mx)from by
        obtain⟨h1,h2,h3,h4,h5⟩:=SU.out;exact⟨(hbb.cell (ax h1)).trans h1,(hbb.cell (ax h2)).trans h2,(hbb.cell (ax h3)).trans h3,(hbb.cell (ax h4)).trans h4,(hbb.cell (ax h5)).trans h5⟩)
       have HBB:=aa (ag HBU.out hbb);clear hbb HBY;refine⟨SB.out, ?_⟩;refine ac 35 rfl (by kernel_rfl) (by kernel_rfl) (by kernel_rfl) (fun _ _ _ h=>h) rfl SB.out (by rintro w' ⟨_,_,_,_,_⟩; go_simp; rfl) ?_;simp only[Act.put,aD,aE,aF];refine ac 36 rfl (by kernel_rfl) (by kernel_rfl) (by kernel_rfl) (fun _ _ _ h=>h) rfl SB.out (by rintro w' ⟨_,_,_,_,_⟩; go_simp; rfl) ?_
       simp only[Act.put,aD,aE,aF];refine bO (by kernel_rfl) ?_;go_wp2_with fail
       go_roundw
       case rel=>exact⟨j+1,by omega,by go_num,by rw[HP3.out]; simp,HBB.out⟩
       case measure=>simp[intOf]; omega
      ·have hjp:j=pn:=by omega
       subst hjp;obtain⟨⟨t0,t1',t4⟩,-,-,-,c1⟩:=HCE.out WA HB6Q.out;have hAd:A=dl:=by
        rw[hA,List.take_of_length_le (by rw[<-HPC.out]; exact Nat.le_refl _),pB HVE.out,HDL.out]
       subst hAd;go_wp2_with fail;exact⟨⟨k+1,by omega,by go_num,rfl,ag HB9.out HBQ.out⟩,by simp[intOf]; omega⟩
   ·have hkn:k=tl:=by omega
    subst hkn;have hmr:m=rd:=by rw[HM.out,HRD.out,List.take_of_length_le (by rw[<-HTL.out]; exact Nat.le_refl _)]
    subst hmr;go_wp2_with (go_at_call 11; refine(ew _ (HE.out.keep (ag HB6.out HBR.out) h6)).mono ?_);rintro e wz ⟨rfl,hbz⟩;have y4:=(hbz.cell (p:=⟨bY,4,none⟩) (Nat.lt_of_lt_of_le (lt_of_block HY6.out) HBR.out.size)).trans ((HBR.out.cell (p:=⟨bY,4,none⟩) (lt_of_block HY6.out)).trans (af (k:=4) HY6.out));simp only[List.getElem?_toArray,cw]at y4;have HBZ:=aa (ag (ag HB6.out HBR.out) hbz)
    clear hbz;go_wp2_with fail;go_ret;exact⟨rfl,HBZ.out⟩
end Go.Proofs.YtnjkpcalgoefhaaGreatDoor
namespace Go.Proofs.YtnjkpcalgoefhaaGreatDoor
open Go.ChangeShapes Go.WideShapes Go.ChangeAt Go.RowKit Go.Lib Go.Shelf
open Go.ChangeMaps (open_string shut_string)
section
variable {H : Type} {enc : TypeId × Value → H}
theorem zJ {a:Assume} {C:Checked} {os:Os} {f:FuncId} {fn:Func} {s:ChangeSpec} {conds:List PathCond} {apart fresh handsOn again:Bool} {X:World->Array Value->Prop}
  (hX: ∀(w w':World) (args:Array Value),w.heap=w'.heap->X w args->X w' args)
  (own:ownKnob C.prog.godebug=none) (started:os.Started) (noInit:C.prog.inits.idxOf? f=none) (hfn:C.prog.funcs[f]? =some fn)
  (witness: ∃(w:World) (tape:Tape) (i:Input),w.os=os/\(w.forCall tape i).Shaped C.prog/\i.vars=[]/\Input.okWide C.prog (w.forCall tape i) .any w.heap.size f i/\
   ((s.pre enc C.prog fn conds apart (w.forCall tape i).memory i.args/\X (w.forCall tape i).memory i.args)/\sizedMet enc C.prog fn (OpenSpec.ofChange s) apart (w.forCall tape i).memory i.args)/\a.holds C.prog (lone (Frame.enter C.prog f i.args .normal) [] (w.forCall tape i)))
  (contract: ∀(W:World) (base:Nat) (args:Array Value) (ds gs:List (DataW H)) (before:List MemPlace),
   (∀(j:Nat) t v,fn.params[j]? =some t->args[j]? =some v->Value.okWide C.prog W .any base t v)->
   DataW.Whole enc C.prog fn.params.toList s.vars apart W args.toList ds gs before->
   (DataW.weightsEach C.prog (fn.params.toList++s.plain.varTypes C.prog) (ds++gs)).all (· <=reachBytes)=true->X W args->W.ShapedOpen C.prog->
   Calls C.prog f args W fun e W'=> ∃v,e= .returned v/\s.post enc C.prog fn apart fresh handsOn again W args v W'):
  ReturnsInHanded a C os f .any (fun w args=>(s.pre enc C.prog fn conds apart w args/\X w args)/\sizedMet enc C.prog fn (OpenSpec.ofChange s) apart w args) (s.post enc C.prog fn apart fresh handsOn again):=by
 refine returnsInHanded_of_calls own started noInit witness ?_;intro w tape i _ hsh _ hok hpre hholds;obtain⟨_,_,_,fn',hfn',_,_,_,_,hval⟩:=hok;have e:fn'=fn:=Option.some.inj (hfn'.symm.trans hfn);subst e;obtain⟨⟨⟨ds,gs,before,hw,hc⟩,hx⟩,hz⟩:=hpre;have hw':=DataW.Whole.of_heap (w':=w.forCall tape i) (by rfl) hw;refine(contract (w.forCall tape i) w.heap.size i.args ds gs before hval hw' (hz.weights hw) (hX _ _ _ (by rfl) hx) hsh).mono fun e W' ⟨v,he,hp⟩=> ?_
 subst he;exact ChangeSpec.post_blind hp
end
def qd :List (String×DataW Unit):=[("math/bits.deBruijn64tab",Rows.laid_math_bits_deBruijn64tab),("kinkeep/sha256.initial",Rows.laid_kinkeep_sha256_initial),("kinkeep/sha256.constants",Rows.laid_kinkeep_sha256_constants),("unicode/utf8.acceptRanges",Rows.laid_unicode_utf8_acceptRanges),("unicode/utf8.first",Rows.laid_unicode_utf8_first)]
theorem own :ownKnob Tryz.prog.godebug=none:=by kernel_rfl
theorem tR :(Rows.laid_unicode_utf8_acceptRanges:DataW Unit)=acceptData:=by kernel_rfl
theorem tV :(Rows.laid_math_bits_deBruijn64tab:DataW Unit)=tabData .u8 (Lib.deBruijn64tab.map fun(n:Nat)=>(n:Int)):=by kernel_rfl
theorem rD :(Rows.laid_kinkeep_sha256_initial:DataW Unit)=tabData .u32 (gn.list.map fun(n:Nat)=>(n:Int)):=by kernel_rfl
theorem oD :(Rows.laid_kinkeep_sha256_constants:DataW Unit)=tabData .u32 (kc.map fun(n:Nat)=>(n:Int)):=by kernel_rfl
theorem kw {P:Program} {w:World} {n:String} {k:IntKind} {zs:List Int} {g:Nat} {t e:TypeId} {N:Nat} (hg:P.globalNamed n=some g) (hty:(P.globals[g]?).map (·.type)=some t)
  (ht:P.underlying t=some (.array N e)) (he:P.underlying e=some (.int k)) (hce:P.cellsOf e=1) (hct:P.cellsOf t=N) (h:VarReads P w n (tabData k zs)) (j:Nat):w.cell? ⟨g,j,none⟩=(zs.map fun z=>Value.int k z)[j]? :=by
 obtain⟨g',t',cs,fuel,p,hg',hty',hvar,hd⟩:=h;obtain rfl:=Option.some.inj (hg.symm.trans hg');obtain rfl:=Option.some.inj (hty.symm.trans hty');rw[World.var?_cell hg hvar j,<-Array.getElem?_toList,cells_of_tab ht he hce hct hd]
theorem oB {w:World} {b k:Nat} {v:Value} (h:w.cell? ⟨b,k,none⟩=some v):b<w.heap.size:=by
 by_cases hb:b<w.heap.size
 ·exact hb
 ·exfalso
  have:w.heap[b]? =none:=Array.getElem?_eq_none (by omega);simp[World.cell?,this]at h
theorem zG {W:World} (hL:laidMetH Tryz.prog qd W) (hsh:W.ShapedOpen Tryz.prog):gB W:=by
 rw[MakeChecks.laidMetH_plain _ _ _ (by kernel_rfl)]at hL;have h1:=Lib.laidMet.reads hL (.head _);have h2:=Lib.laidMet.reads hL (.tail _ (.head _));have h3:=Lib.laidMet.reads hL (.tail _ (.tail _ (.head _)));have h4:=Lib.laidMet.reads hL (.tail _ (.tail _ (.tail _ (.head _))));have h5:=Lib.laidMet.reads hL (.tail _ (.tail _ (.tail _ (.tail _ (.head _)))));rw[tV]at h1;rw[rD]at h2
 rw[oD]at h3;rw[tR]at h4;have c1:=kw (g:=5) (t:=240) (e:=5) (N:=64) (by kernel_rfl) (by kernel_rfl) (by kernel_rfl) (by kernel_rfl) (by kernel_rfl) (by kernel_rfl) h1;have c2:=kw (g:=1) (t:=101) (e:=100) (N:=8) (by kernel_rfl) (by kernel_rfl) (by kernel_rfl) (by kernel_rfl) (by kernel_rfl) (by kernel_rfl) h2;have c3:=kw (g:=4) (t:=156) (e:=100) (N:=64) (by kernel_rfl) (by kernel_rfl) (by kernel_rfl) (by kernel_rfl) (by kernel_rfl) (by kernel_rfl) h3
 have hI:gE W:=fun j x hj=>by
  rw[c2 j];simp[hj,bp]
 have hK:eP W:=fun j x hj=>by
  rw[c3 j];simp[hj,bp]
 have hD:TabAt 5 Lib.deBruijn64tab W:=fun j hj=>by
  rw[c1 j];simp[hj]
 have hi0:=hI 0 0x6a09e667 rfl;have hk0:=hK 0 0x428a2f98 rfl;have hd0:=hD 0 (by decide);refine⟨⟨?_, ?_⟩,hI,hK,oB hi0,oB hk0,⟨hD,oB hd0⟩⟩
 ·exact cell_of_shapedOpen_int (zero:= #[.int .i64 0]) (t:=3) hsh (of_decide_eq_true (by kernel_rfl)) (by kernel_rfl) rfl (by kernel_rfl) (by kernel_rfl) Tryz.underlying3
 ·exact utf8Tabs_of_readsT (U8Types.of196 Tryz.laysValid) ⟨by kernel_rfl,by kernel_rfl,by kernel_rfl,by kernel_rfl,by kernel_rfl,by kernel_rfl,by kernel_rfl⟩ (Pinned.utf8First_eq▸h5) h4
end Go.Proofs.YtnjkpcalgoefhaaGreatDoor
namespace Go.Proofs.YtnjkpcalgoefhaaGreatDoor
open Go.ChangeShapes Go.WideShapes Go.ChangeAt Go.RowKit Go.Lib Go.Shelf
section
variable {H : Type} {enc : TypeId × Value → H} {P : Program} {W : World} {base b0 : Nat} {spare : Nat → Bool} {held : Bool} {v : Value} {d : DataW H} {ps : List MemPlace}
theorem yh (a:Addr) (i j:Nat):(a.add i).add j=a.add (i+j):=by
 unfold Addr.add
 by_cases hi:i=0
 ·simp[hi]
 ·by_cases hj:j=0
  ·simp[hi,hj]
  ·simp[hi,hj]; omega
def eQ (P:Program) (t:TypeId) (d:DataW H):Prop:=(d.weights P t).all (fun x=>decide (x<=reachBytes))=true
theorem nH {P:Program} {e:TypeId} : ∀ {ds:List (DataW H)} {d:DataW H},d∈ds->(DataW.weightsAll P e ds).all (fun x=>decide (x<=reachBytes))=true->eQ P e d
 | [],d,h,_=>by simp at h
 | a::ds,d,h,hw=>by
  rw[DataW.weightsAll,List.all_append,Bool.and_eq_true]at hw
  rcases List.mem_cons.1 h with rfl | h
  ·exact hw.1
  ·exact nH h hw.2
theorem jd {P:Program} : ∀ {ts:List TypeId} {ds:List (DataW H)} {i:Nat} {t:TypeId} {d:DataW H},ts[i]? =some t->ds[i]? =some d->(DataW.weightsEach P ts ds).all (fun x=>decide (x<=reachBytes))=true->eQ P t d
 | [],_,_,_,_,h,_,_=>by simp at h
 | _::_,[],_,_,_,_,h,_=>by simp at h
 | t0::ts,d0::ds,0,t,d,h1,h2,hw=>by
  simp at h1 h2;subst h1 h2;rw[DataW.weightsEach,List.all_append,Bool.and_eq_true]at hw;exact hw.1
 | t0::ts,d0::ds,i+1,t,d,h1,h2,hw=>by
  rw[DataW.weightsEach,List.all_append,Bool.and_eq_true]at hw;exact jd (by simpa using h1) (by simpa using h2) hw.2
theorem qx {P:Program} {t e:TypeId} {es rest:List (DataW H)} (ht:P.underlying t=some (.slice e)) (h:eQ P t (.slice es rest)):es.length*P.bytesOf e<=reachBytes/\ ∀d∈es,eQ P e d:=by
 unfold eQ at h;rw[DataW.weights,ht]at h;simp only[List.all_cons,List.all_append,Bool.and_eq_true,decide_eq_true_eq]at h;exact⟨Nat.le_trans (Nat.mul_le_mul_right _ (by omega)) h.1,fun d hd=>nH hd h.2.1⟩
theorem oU {P:Program} {t:TypeId} {fs:Array Field} {parts:List (DataW H)} (ht:P.underlying t=some (.struct fs)) (h:eQ P t (.agg parts)) {i:Nat} {f:Field} {d:DataW H} (hf:fs[i]? =some f) (hd:parts[i]? =some d):eQ P f.type d:=by
 unfold eQ at h;rw[DataW.weights,ht]at h;exact jd (i:=i) (by simp[hf]) hd h
theorem pJ {P:Program} {t:TypeId} {fs:Array Field} {fuel:Nat} {cs:List Value} {x:DataW H×List MemPlace} (ht:P.underlying t=some (.struct fs)) (h:DataW.trod enc P W base spare held fuel t cs=some x) (hL:eQ P t x.1) (i:Nat) {f:Field} (hf:fs[i]? =some f):
  ∃n y,DataW.trod enc P W base spare held n f.type ((cs.drop f.offset).take (P.cellsOf f.type))=some y/\eQ P f.type y.1:=by
 obtain⟨xs,n,_,hx,_,hlen,hF⟩:=DataW.trod_struct ht h;have hi:i<xs.length:=by rw[hlen]; exact(Array.getElem?_eq_some_iff.1 hf).1
 refine⟨n,xs[i],by rw[hF i f hf]; simp[hi], ?_⟩;rw[hx]at hL;exact oU ht hL hf (by simp[hi])
theorem nT {α:Type} {P:Program} {R:List Value->α->Prop} {t e:TypeId} {sz:Nat} {fuel:Nat} {cs0:List Value} {y0:DataW H×List MemPlace} (ht:P.underlying t=some (.slice e)) (hc:P.cellsOf e=sz) (hpos:0<sz)
  (hR: ∀n cs y,DataW.trod enc P W base spare held n e cs=some y->eQ P e y.1-> ∃x,R cs x) (hs: ∀c x,R c x->c.length=sz)
  (hf:DataW.trod enc P W base spare held fuel t cs0=some y0) (hL:eQ P t y0.1): ∃v,cs0=[v]/\ ∃xs:List α,aT (fun _=>True) W sz R v xs/\xs.length*P.bytesOf e<=reachBytes:=by
 rcases DataW.trod_slice ht hf with⟨hcs,_⟩ | ⟨a,len0,cap0,elems,rest,n,_,hcs,hy0,hb,hl,hm,hlen,hel,_,_⟩
 ·exact⟨_,hcs,[],aT.nil,by simp⟩
 ·refine⟨_,hcs, ?_⟩;rw[hc]at hel;rw[hy0]at hL;obtain⟨hL1,hL2⟩:=qx ht hL;rw[List.length_map,hlen]at hL1;have each: ∀i,i<len0-> ∃cs x,R cs x/\cs.length=sz/\ ∀j,j<sz->W.cell? (a.add (i*sz+j))=cs[j]? :=by
   intro i hi;have h1:=hel i hi;rw[List.getElem?_eq_getElem (by omega),Option.bind_eq_some_iff]at h1;obtain⟨cs,hcs,hy⟩:=h1;obtain⟨x,hx⟩:=hR n cs _ hy (hL2 _ (List.mem_map.2 ⟨_,List.getElem_mem (by omega),rfl⟩));refine⟨cs,x,hx,hs cs x hx,fun j hj=> ?_⟩;have h3:=World.cells?_some hcs;rw[<-yh];exact h3.2.2 j hj
  have main: ∀m,m<=len0-> ∃(cells:List Value) (xs:List α),xs.length=m/\cells.length=m*sz/\aV R cells xs/\ ∀(j:Nat) u,cells[j]? =some u->W.cell? (a.add j)=some u:=by
   intro m
   induction m with
   | zero=>intro _; exact⟨[],[],rfl,by simp,rfl,fun j u hj=>by simp at hj⟩
   | succ m ih=>
    intro hm;obtain⟨cells,xs,h1,h2,h3,h4⟩:=ih (by omega);obtain⟨cs,x,hx,hcl,hcc⟩:=each m (by omega);refine⟨cells++cs,xs++[x],by simp[h1],by rw[List.length_append,h2,hcl,Nat.add_mul]; omega,aV.snoc h3 hx,fun j u hj=> ?_⟩
    rcases Nat.lt_or_ge j cells.length with hj2 | hj2
    ·rw[List.getElem?_append_left hj2]at hj; exact h4 j u hj
    ·rw[List.getElem?_append_right hj2]at hj;have hlt:=(List.getElem?_eq_some_iff.1 hj).1;have:=hcc (j-cells.length) (by omega);rw[h2,show m*sz+(j-m*sz)=j by omega]at this;rw[this,<-h2]; exact hj
  obtain⟨cells,xs,h1,h2,h3,h4⟩:=main len0 (Nat.le_refl _);subst h1;refine⟨xs,⟨cells,⟨h2,some a,cap0,rfl,hl,hm, ?_⟩,h3⟩,hL1⟩
  rcases Nat.eq_zero_or_pos xs.length with h0 | h0
  ·exact .inl h0
  ·right
   have hpl:0<cells.length:=by rw[h2]; exact Nat.mul_pos h0 hpos
   have hc0:=h4 0 cells[0] (by simp[hpl]);have hsp:a.spot=none:=by simpa [Addr.add]using World.cell?_spot hc0
   obtain⟨b,o,sp⟩:=a;simp only at hsp;subst hsp;refine⟨b,o,rfl,trivial,fun j u hj=> ?_⟩;have:=h4 j u hj;rw[ow]at this; exact this
end
section
variable {H : Type} {enc : TypeId × Value → H} {W : World} {base b0 : Nat} {spare : Nat → Bool} {held : Bool} {v : Value} {d : DataW H} {ps : List MemPlace}
theorem cB {P:Program} {t:TypeId} {fs:Array Field} {fuel:Nat} {cs:List Value} {x:DataW H×List MemPlace} (ht:P.underlying t=some (.struct fs)) (h:DataW.trod enc P W base spare held fuel t cs=some x) (i:Nat) {f:Field} (hf:fs[i]? =some f):
  ∃n y,DataW.trod enc P W base spare held n f.type ((cs.drop f.offset).take (P.cellsOf f.type))=some y:=by
 obtain⟨xs,n,_,_,_,hlen,hF⟩:=DataW.trod_struct ht h;have hi:i<xs.length:=by rw[hlen]; exact(Array.getElem?_eq_some_iff.1 hf).1
 exact⟨n,xs[i],by rw[hF i f hf]; simp[hi]⟩
theorem mA {P:Program} {t:TypeId} {fs:Array Field} {fuel:Nat} {cs:List Value} {x:DataW H×List MemPlace} (ht:P.underlying t=some (.struct fs)) (h:DataW.trod enc P W base spare held fuel t cs=some x):cs.length=P.cellsOf t:=by
 obtain⟨xs,n,_,_,hl,_,_⟩:=DataW.trod_struct ht h;exact hl
theorem wn :Tryz.prog.cellsOf 9=1:=by kernel_rfl
theorem pm :Tryz.prog.cellsOf 3=1:=by kernel_rfl
theorem yp :Tryz.prog.cellsOf 5=1:=by kernel_rfl
theorem tX :Tryz.prog.cellsOf 28=1:=by kernel_rfl
theorem pk :Tryz.prog.cellsOf 30=6:=by kernel_rfl
theorem Aa {α:Type} {cs:List α} (h:cs.length=6): ∃c0 c1 c2 c3 c4 c5,cs=[c0,c1,c2,c3,c4,c5]:=by
 match cs,h with
 | [c0,c1,c2,c3,c4,c5],_=>exact⟨c0,c1,c2,c3,c4,c5,rfl⟩
def oZ (c:List Value) (b:UInt8):Prop:=c=[aC b]
theorem uI {n:Nat} {cs:List Value} {y:DataW H×List MemPlace} (h:DataW.trod enc Tryz.prog W base spare held n 5 cs=some y): ∃b,oZ cs b:=by
 obtain⟨a,e,_,hw⟩:=DataW.trod_int Tryz.underlying5 h;have h1:0<=a/\a<=255:=by
  simp only[Lit.wf,Bool.and_eq_true,decide_eq_true_eq]at hw;exact⟨hw.1,hw.2⟩
 refine⟨UInt8.ofNat a.toNat, ?_⟩;unfold oZ;rw[tW (by omega),e,Int.toNat_of_nonneg h1.1]
theorem oA {S:Nat->Prop} {w:World} {v:Value} {bs:List UInt8} (h:aT S w 1 oZ v bs):aR S w v bs:=by
 obtain⟨cells,h1,h2⟩:=h;have: ∀(bs:List UInt8) (cells:List Value),aV oZ cells bs->cells=bs.map aC:=by
  intro bs
  induction bs with
  | nil=>intro cells h; exact h
  | cons x bs ih=>
   rintro cells ⟨c,rest,rfl,hc,hr⟩;rw[ih rest hr,show c=[aC x]from hc]; rfl
 rw[this bs cells h2]at h1;exact h1
theorem zA {v:Value} {l:List Value} (h:v.cells.toList=l) (hl:1<l.length):v= .agg l.toArray:=by
 cases v
 case agg cs=>simp only[Value.cells]at h; rw[<-h]
 all_goals (exfalso; simp only[Value.cells]at h; rw[<-h]at hl; simp at hl)
theorem rh {S:Nat->Prop} {w:World} {v:Value} {bs:List UInt8} (h:aR S w v bs):bP S w v bs:=h
theorem wo :Tryz.prog.cellsOf 46=1:=by kernel_rfl
theorem wm :Tryz.prog.cellsOf 48=5:=by kernel_rfl
theorem yo :Tryz.prog.bytesOf 5=1:=by kernel_rfl
theorem zZ {α:Type} {cs:List α} (h:cs.length=5): ∃c0 c1 c2 c3 c4,cs=[c0,c1,c2,c3,c4]:=by
 match cs,h with
 | [c0,c1,c2,c3,c4],_=>exact⟨c0,c1,c2,c3,c4,rfl⟩
theorem qr {α:Type} {R:List Value->α->Prop} {X:α->Prop} : ∀ {xs:List α} {cells:List Value},aV (fun c x=>R c x/\X x) cells xs->aV R cells xs/\ ∀x∈xs,X x
 | [],_,h=>⟨h,by simp⟩
 | x::xs,_,⟨c,rest,e,hx,hr⟩=>by
  obtain⟨h1,h2⟩:=qr hr;refine⟨⟨c,rest,e,hx.1,h1⟩,fun y hy=> ?_⟩
  rcases List.mem_cons.1 hy with rfl | hy
  ·exact hx.2
  ·exact h2 y hy
theorem rR {n:Nat} {cs:List Value} {y:DataW H×List MemPlace} (h:DataW.trod enc Tryz.prog W base spare held n 28 cs=some y) (hL:eQ Tryz.prog 28 y.1): ∃v,cs=[v]/\ ∃bs,bP (fun _=>True) W v bs/\bs.length<=1125899906842624:=by
 obtain⟨v,h1,bs,h2,hb⟩:=nT (R:=oZ) Tryz.underlying28 yp (by omega) (fun n cs y hy _=>uI hy) (fun c x hc=>by rw[show c=[aC x]from hc]; rfl) h hL;rw[yo]at hb;unfold reachBytes at hb;exact⟨v,h1,bs,rh (oA h2),by omega⟩
theorem uJ {n:Nat} {cs:List Value} {y:DataW H×List MemPlace} (h:DataW.trod enc Tryz.prog W base spare held n 30 cs=some y) (hL:eQ Tryz.prog 30 y.1): ∃e,iV (fun _=>True) W cs e/\e.data.length<=1125899906842624:=by
 have hl:=mA Tryz.underlying30 h;rw[pk]at hl;obtain⟨c0,c1,c2,c3,c4,c5,rfl⟩:=Aa hl;obtain⟨n0,y0,h0⟩:=cB Tryz.underlying30 h 0 rfl;obtain⟨n1,y1,h1⟩:=cB Tryz.underlying30 h 1 rfl;obtain⟨n2,y2,h2⟩:=cB Tryz.underlying30 h 2 rfl;obtain⟨n3,y3,h3⟩:=cB Tryz.underlying30 h 3 rfl;obtain⟨n4,y4,h4,hL4⟩:=pJ Tryz.underlying30 h hL 4 rfl
 obtain⟨n5,y5,h5⟩:=cB Tryz.underlying30 h 5 rfl;simp only[List.getElem_toArray,List.getElem_cons_zero,List.getElem_cons_succ,wn,pm,tX]at h0 h1 h2 h3 h4 h5 hL4;obtain⟨a0,e0,_,g0⟩:=DataW.trod_string Tryz.underlying9 h0;obtain⟨a1,e1,_,g1⟩:=DataW.trod_int Tryz.underlying3 h1;obtain⟨a2,e2,_,g2⟩:=DataW.trod_int Tryz.underlying3 h2;obtain⟨a3,e3,_,g3⟩:=DataW.trod_int Tryz.underlying3 h3
 obtain⟨a4,e4,bs,g4,gb⟩:=rR h4 hL4;obtain⟨a5,e5,_,g5⟩:=DataW.trod_string Tryz.underlying9 h5;simp at e0 e1 e2 e3 e4 e5;subst e0 e1 e2 e3 e4 e5;exact⟨⟨a0,a1,a2,a3,bs,a5⟩,⟨_,rfl,g4,⟨g0,g5,g1,g2,g3⟩⟩,gb⟩
theorem uy (hval:Value.okWide Tryz.prog W .any b0 45 v) (h:DataW.Trod enc Tryz.prog W base spare held 45 v d ps) (hL:eQ Tryz.prog 45 d): ∃xs,bM (fun _=>True) W v xs/\ ∀e∈xs,e.data.length<=1125899906842624:=by
 obtain⟨a0,len0,cap0,rfl⟩:=okWide_slice Tryz.underlying45 hval;obtain⟨fuel,hf⟩:=h;obtain⟨v,h1,xs,⟨cells,h2,h3⟩,_⟩:=nT (R:=fun c e=>iV (fun _=>True) W c e/\e.data.length<=1125899906842624) Tryz.underlying45 pk (by omega) (fun n cs y hy hy2=>uJ hy hy2) (fun c x hx=>iV.len c x hx.1) hf hL;simp[Value.cells]at h1;subst h1;obtain⟨h4,h5⟩:=qr h3
 exact⟨xs,⟨cells,h2,h4⟩,h5⟩
theorem xf (h:DataW.Trod enc Tryz.prog W base spare held 48 v d ps): ∃c:cR,v=ed c/\c.seed<18446744073709551616:=by
 obtain⟨fuel,h⟩:=h;have hl:=mA Tryz.underlying48 h;rw[wm]at hl;obtain⟨c0,c1,c2,c3,c4,hcs⟩:=zZ hl;rw[hcs]at h;obtain⟨n0,y0,h0⟩:=cB Tryz.underlying48 h 0 rfl;obtain⟨n1,y1,h1⟩:=cB Tryz.underlying48 h 1 rfl;obtain⟨n2,y2,h2⟩:=cB Tryz.underlying48 h 2 rfl;obtain⟨n3,y3,h3⟩:=cB Tryz.underlying48 h 3 rfl;obtain⟨n4,y4,h4⟩:=cB Tryz.underlying48 h 4 rfl
 simp only[List.getElem_toArray,List.getElem_cons_zero,List.getElem_cons_succ,pm,wo]at h0 h1 h2 h3 h4;obtain⟨a0,e0,_,g0⟩:=DataW.trod_int Tryz.underlying3 h0;obtain⟨a1,e1,_,g1⟩:=DataW.trod_int Tryz.underlying3 h1;obtain⟨a2,e2,_,g2⟩:=DataW.trod_int Tryz.underlying3 h2;obtain⟨a3,e3,_,g3⟩:=DataW.trod_int Tryz.underlying3 h3;obtain⟨a4,e4,_,g4⟩:=DataW.trod_int Tryz.underlying46 h4
 simp at e0 e1 e2 e3 e4;subst e0 e1 e2 e3 e4;have hs:0<=a4/\a4<=18446744073709551615:=by
  simp only[Lit.wf,Bool.and_eq_true,decide_eq_true_eq]at g4;exact⟨g4.1,g4.2⟩
 refine⟨⟨a0,a1,a2,a3,a4.toNat⟩, ?_,by show a4.toNat<_; omega⟩;rw[zA hcs (by simp)];unfold ed;rw[show((a4.toNat:Nat):Int)=a4 from Int.toNat_of_nonneg hs.1]
end
section
variable {H : Type} {enc : TypeId × Value → H} {P : Program} {w : World} {base : Nat} {spare : Nat → Bool} {held : Bool}
end
end Go.Proofs.YtnjkpcalgoefhaaGreatDoor
