/- Texts of this proof, one after the other: R3B, HmacC, EncA, RNum, EncB, EncC, RdrC, EncD, Codec, CompP, CodecB, SealA, R3C, RollP, ChkP, RollA, RollB, MarkA, MarkB, MarkC, Rng. -/
import Derived.Test.YtpffpjbkbaleiaaGreatDoorCBuildsB
set_option maxRecDepth 100000
set_option maxHeartbeats 8000000
namespace Go.Proofs.YtpffpjbkbaleiaaGreatDoor
open Go Go.RowKit
theorem iG (w:World) (n:Nat):Below w.heap.size w (w.drewN n):=⟨rfl,rfl,rfl,Nat.le_refl _,fun _ _=>rfl⟩
theorem IW (a b c d e f g h:Int):Tryz.prog.built 216 [(0, .int .u32 a),(1, .int .u32 b),(2, .int .u32 c),(3, .int .u32 d),(4, .int .u32 e),(5, .int .u32 f),(6, .int .u32 g),(7, .int .u32 h)]=some #[.int .u32 a, .int .u32 b, .int .u32 c, .int .u32 d, .int .u32 e, .int .u32 f, .int .u32 g, .int .u32 h]:=by kernel_rfl
theorem BW (v u:V8):uS v u=uS u v:=by unfold uS oa; simp only[Nat.add_comm]
structure fI (vb : Nat) (W wq : World) (r : V8) : Prop where
 box:wq.heap[vb]? =some (.cells (r.list.map bY).toArray 216 (0,0))
 grown:W.grownBy wq (some vb)
theorem fI.next {vb:Nat} {W wq w':World} {r:V8} (h:fI vb W wq r) (hb:Below wq.heap.size wq w'):fI vb W w' r:=
 ⟨(hb.block vb (lt_of_block h.box)).trans h.box,⟨hb.os.trans h.grown.os,hb.tape.trans h.grown.tape,hb.output.trans h.grown.output,Nat.le_trans h.grown.size hb.size,fun k hk hne=>(hb.block k (Nat.lt_of_lt_of_le hk h.grown.size)).trans (h.grown.block k hk hne)⟩⟩
theorem fI.get {vb:Nat} {W wq:World} {r:V8} (h:fI vb W wq r) {j x:Nat} (hj:r.list[j]? =some x):wq.cell? ⟨vb,j,none⟩=some (.int .u32 (x:Int)):=by
 rw[cell_of_row wq _ j _ _ _ h.box,List.getElem?_toArray,List.getElem?_map,hj]; rfl
theorem fI.put {vb:Nat} {W wq:World} {r:V8} (h:fI vb W wq r) {r':V8} {c:Array Value} (hc:c=(r'.list.map bY).toArray):fI vb W (wq.setRow vb c) r':=
 ⟨by rw[setRow_heap _ _ _ _ _ _ h.box,hc],⟨h.grown.os,h.grown.tape,h.grown.output,by rw[size_setRow]; exact h.grown.size,fun k hk hne=>(setRow_other _ _ _ _ (fun e=>hne (by rw[e]))).trans (h.grown.block k hk hne)⟩⟩
theorem fI.keep {vb:Nat} {W wq:World} {r:V8} (h:fI vb W wq r) {b:Nat} {o:Obj} (hb:W.heap[b]? =some o) (hne:b≠vb):wq.heap[b]? =some o:=
 (h.grown.block b (lt_of_block hb) (fun e=>hne (Option.some.inj e))).trans hb
theorem yP (v:V8) (bk o cap:Nat) (bs:List UInt8) (w:World) (hv:v.Ok) (hl:bs.length=64) (_hcap:64<=cap) (_hcapm:cap<=maxLen) (hbs: ∀j b,bs[j]? =some b->w.cell? ⟨bk,o+j,none⟩=some (u8W b)):
  Calls Tryz.prog 216 #[.agg (v.list.map bY).toArray, .slice (some ⟨bk,o,none⟩) 64 cap] w fun e w'=>e= .returned (.agg ((mu v bs).list.map bY).toArray)/\Below w.heap.size w w':=by
 have HS:=aa hbs;obtain⟨W0,hW0⟩: ∃W0:World,W0=(w.alloc (.cells (v.list.map bY).toArray 216)).alloc (.cells (List.replicate 8 (bY 0)).toArray 216):=⟨_,rfl⟩;have HB0:=aa (show Below w.heap.size w W0 by rw[hW0]; exact(bH).alloc (by simp) _);have HH0:=aa (show W0.heap[w.heap.size]? =some (.cells (v.list.map bY).toArray 216 (0,0)) by rw[hW0]; exact(Below.heap_alloc _ _ _ (by simp)).trans (heap_alloc_new w _))
 have HR0:=aa (show W0.heap[w.heap.size+1]? =some (.cells (List.replicate 8 (bY 0)).toArray 216 (0,0)) by rw[hW0]; have:=heap_alloc_new (w.alloc (.cells (v.list.map bY).toArray 216)) (.cells (List.replicate 8 (bY 0)).toArray 216); simpa using this);clear hbs
 go_enter Tryz.func216,Tryz.ntmps216
 go_upto_region 1 with(fail)
 change Code.wp _ _ _ _ ((w.alloc (.cells (v.list.map bY).toArray 216)).alloc (.cells (List.replicate 8 (bY 0)).toArray 216))
 rw[<-hW0];clear hW0;go_wp2_with fail;refine(sw _).mono ?_;rintro e w1 ⟨rfl,hb1⟩;have HB1:=aa (ab HB0.o hb1);have HH1:=aa (br hb1 HH0.o);have HR1:=aa (br hb1 HR0.o);clear hb1
 go_upto_region 2 with(first | (refine wpList_store_row rfl 252 _ _ rfl w1.heap.size ij rfl rfl _ _ (heap_alloc_new w1 _) (by kernel_rfl) (by kernel_rfl) (by kernel_rfl) ?_) | fail)
 obtain⟨W2,hW2⟩: ∃W2:World,W2=(w1.alloc (.cells (List.replicate 64 (bY 0)).toArray 252)).setRow w1.heap.size ij:=⟨_,rfl⟩
 change Code.wp _ _ _ _ ((w1.alloc (.cells (List.replicate 64 (bY 0)).toArray 252)).setRow w1.heap.size ij)
 have HBA:=aa (show Below w1.heap.size w1 W2 by rw[hW2]; exact below_setRow (bH) (Nat.le_refl _) _);have HK2:=aa (show W2.heap[w1.heap.size]? =some (.cells ij 252 (0,0)) by rw[hW2]; exact setRow_heap _ _ _ _ _ _ (heap_alloc_new w1 _));have HB2:=aa (ab HB1.o HBA.o);have HH2:=aa (br HBA.o HH1.o);have HR2:=aa (br HBA.o HR1.o);rw[<-hW2];clear hW2
 go_upto_region 3 with(first | (refine dk rfl 252 _ rfl [] (by kernel_rfl) (List.replicate 64 (bY 0)).toArray (by kernel_rfl) ?_) | (refine wpList_store_row rfl 252 _ _ rfl W2.heap.size (List.replicate 64 (bY 0)).toArray rfl rfl _ _ (heap_alloc_new W2 _) (by kernel_rfl) (by kernel_rfl) (by kernel_rfl) ?_) | fail)
 obtain⟨W3,hW3⟩: ∃W3:World,W3=(W2.alloc (.cells (List.replicate 64 (bY 0)).toArray 252)).setRow W2.heap.size (List.replicate 64 (bY 0)).toArray:=⟨_,rfl⟩
 change Code.wp _ _ _ _ ((W2.alloc (.cells (List.replicate 64 (bY 0)).toArray 252)).setRow W2.heap.size (List.replicate 64 (bY 0)).toArray)
 have HA0:=aa (show eI W2 bs 0 W3 from⟨by rw[hW3,setRow_heap _ _ _ _ _ _ (heap_alloc_new W2 _)]; rfl,by rw[hW3]; exact below_setRow (bH) (Nat.le_refl _) _⟩);rw[<-hW3];clear hW3;go_wp2_with fail
 go_loopw [7] (fun i wr=> ∃t:Nat,t<=16/\i= .int .i64 (t:Int)/\eI W2 bs t wr) (fun i _=>16-(intOf i).toNat)
 case atStart=>exact⟨0,by omega,rfl,HA0.o⟩
 case round=>
  obtain⟨t,ht,rfl,hs⟩:=hrel;have HA:=aa hs;have hz:=hs.below.size;have HBR:=aa (HB2.o.trans (hs.below.mono HB2.o.size));clear hs
  by_cases h16:t<16
  ·obtain⟨q,hq⟩: ∃q,q=4*t:=⟨_,rfl⟩;have HQ:=aa hq;have hw4:IntKind.i64.wrap (4*(t:Int))=(q:Int):=by rw[IntKind.wrap_i64]; omega
   obtain⟨r1,hr1⟩: ∃r,r=q+1:=⟨_,rfl⟩;obtain⟨r2,hr2⟩: ∃r,r=q+2:=⟨_,rfl⟩;obtain⟨r3,hr3⟩: ∃r,r=q+3:=⟨_,rfl⟩;have hi0:(q:Int)<64:=by omega
   have hi1:(r1:Int)<64:=by omega
   have hi2:(r2:Int)<64:=by omega
   have hi3:(r3:Int)<64:=by omega
   have ht64:(t:Int)<64:=by omega
   have hw1:IntKind.i64.wrap ((q:Int)+1)=(r1:Int):=by rw[IntKind.wrap_i64]; omega
   have hw2:IntKind.i64.wrap ((q:Int)+2)=(r2:Int):=by rw[IntKind.wrap_i64]; omega
   have hw3:IntKind.i64.wrap ((q:Int)+3)=(r3:Int):=by rw[IntKind.wrap_i64]; omega
   obtain⟨b0,hb0⟩: ∃b,b=bs.getD q 0:=⟨_,rfl⟩;obtain⟨b1,hb1⟩: ∃b,b=bs.getD r1 0:=⟨_,rfl⟩;obtain⟨b2,hb2⟩: ∃b,b=bs.getD r2 0:=⟨_,rfl⟩;obtain⟨b3,hb3⟩: ∃b,b=bs.getD r3 0:=⟨_,rfl⟩;have q0:=HS.o q (bs.getD q 0) (wT (by omega));have q1:=HS.o r1 (bs.getD r1 0) (wT (by omega));have q2:=HS.o r2 (bs.getD r2 0) (wT (by omega));have q3:=HS.o r3 (bs.getD r3 0) (wT (by omega))
   have HW:=aa (show uH bs t=yC b0 b1 b2 b3 by rw[hb0,hb1,hb2,hb3,hr1,hr2,hr3,hq]; rfl);rw[<-hb0]at q0;rw[<-hb1]at q1;rw[<-hb2]at q2;rw[<-hb3]at q3;have hbk:=block_lt_of_cell q0;simp only[u8W]at q0 q1 q2 q3;have c0:=(HBR.o.cell (p:=⟨bk,o+q,none⟩) hbk).trans q0;have c1:=(HBR.o.cell (p:=⟨bk,o+r1,none⟩) hbk).trans q1;have c2:=(HBR.o.cell (p:=⟨bk,o+r2,none⟩) hbk).trans q2
   have c3:=(HBR.o.cell (p:=⟨bk,o+r3,none⟩) hbk).trans q3;have ch:=HA.o.here (by omega);have cf:=HA.o.free t;clear q0 q1 q2 q3 hb0 hb1 hb2 hb3 hq hr1 hr2 hr3;go_wp2_with fail;refine az [some 35,none] (by kernel_rfl) (by kernel_rfl) (by kernel_rfl) ?_;simp only[bC,List.take_succ_cons,List.take_zero,List.drop_succ_cons,List.drop_zero]
   repeat (first | (refine aK rfl ?_; simp only[Act.put,aZ,bg,bh]) | (refine aS rfl (fun K hK=> ?_); go_simp; refine hK _ ?_; clear hK K))
   refine aR ?_;refine bJ rfl (fun K hK=> ?_);go_wp2_with fail
   go_roundw
   case rel=>
    rw[rZ,<-HW.o];exact⟨t+1,by omega,by simp,(HA.o.put (by omega) (BQ bs h16)).drew⟩
   case measure=>simp[intOf]; omega
  ·obtain rfl:t=16:=by omega
   obtain⟨W4,hW4⟩: ∃x,x=wr:=⟨_,rfl⟩;subst hW4;have HA4:=HA;clear HA HBR hz;rw[show((16:Nat):Int)=(16:Int)from rfl];go_wp2_with fail
   go_loopw [8,9,10] (fun i x1 x2 wr=> ∃t:Nat,16<=t/\t<=64/\i= .int .i64 (t:Int)/\eI W2 bs t wr) (fun i _ _ _=>64-(intOf i).toNat)
   case atStart=>exact⟨16,by omega,by omega,rfl,HA4.o⟩
   case round=>
    obtain⟨t,h17,ht,rfl,hs⟩:=hrel;have HA:=aa hs;have hz:=hs.below.size;clear hs
    by_cases h64:t<64
    ·obtain⟨j2,hj2⟩: ∃j,j=t-2:=⟨_,rfl⟩;obtain⟨j15,hj15⟩: ∃j,j=t-15:=⟨_,rfl⟩;obtain⟨j7,hj7⟩: ∃j,j=t-7:=⟨_,rfl⟩;obtain⟨j16,hj16⟩: ∃j,j=t-16:=⟨_,rfl⟩;have c2:=HA.o.get (j:=j2) (by omega);have c15:=HA.o.get (j:=j15) (by omega);have c7:=HA.o.get (j:=j7) (by omega);have c16:=HA.o.get (j:=j16) (by omega);have e2:IntKind.i64.wrap ((t:Int)-2)=(j2:Int):=by rw[IntKind.wrap_i64]; omega
     have e15:IntKind.i64.wrap ((t:Int)-15)=(j15:Int):=by rw[IntKind.wrap_i64]; omega
     have e7:IntKind.i64.wrap ((t:Int)-7)=(j7:Int):=by rw[IntKind.wrap_i64]; omega
     have e16:IntKind.i64.wrap ((t:Int)-16)=(j16:Int):=by rw[IntKind.wrap_i64]; omega
     have l2:(j2:Int)<64:=by omega
     have l15:(j15:Int)<64:=by omega
     have l7:(j7:Int)<64:=by omega
     have l16:(j16:Int)<64:=by omega
     have ch:=HA.o.here (by omega);have cf:=HA.o.free t;have HJ:=aa (show j2=t-2/\j15=t-15/\j7=t-7/\j16=t-16 from⟨hj2,hj15,hj7,hj16⟩);clear hj2 hj15 hj7 hj16;obtain⟨x2,hx2⟩: ∃x,x=(mY bs t).getD j2 0:=⟨_,rfl⟩;obtain⟨x15,hx15⟩: ∃x,x=(mY bs t).getD j15 0:=⟨_,rfl⟩;obtain⟨x7,hx7⟩: ∃x,x=(mY bs t).getD j7 0:=⟨_,rfl⟩;obtain⟨x16,hx16⟩: ∃x,x=(mY bs t).getD j16 0:=⟨_,rfl⟩
     rw[<-hx2]at c2;rw[<-hx15]at c15;rw[<-hx7]at c7;rw[<-hx16]at c16;have o2:x2<4294967296:=by rw[hx2]; exact(vJ bs t).get j2
     have o15:x15<4294967296:=by rw[hx15]; exact(vJ bs t).get j15
     have HN:=aa (show ll (mY bs t)=(((DI x2+x7)%4294967296+DH x15)%4294967296+x16)%4294967296 by
      unfold ll;rw[jq,hx2,hx15,hx7,hx16,HJ.o.1,HJ.o.2.1,HJ.o.2.2.1,HJ.o.2.2.2])
     clear hx2 hx15 hx7 hx16;go_wp2_with fail
     go_quiet ((go_at_call 218; refine Calls.quiet_of (jR _ _ _ o15 (by decide))))
     rw[show rI x15 7=cL x15 25 from rfl,show rI x15 18=cL x15 14 from rfl,uu o15];obtain⟨W5,hW5⟩: ∃W5:World,W5=wr.drewN nq:=⟨_,rfl⟩;rw[<-hW5];have HA5:=aa (show eI W2 bs t W5 by rw[hW5]; exact HA.o.next (iG wr nq));have d2:W5.cell? ⟨W2.heap.size,j2,none⟩=some (.int .u32 (x2:Int)):=by rw[hW5]; exact c2
     have d7:W5.cell? ⟨W2.heap.size,j7,none⟩=some (.int .u32 (x7:Int)):=by rw[hW5]; exact c7
     have d16:W5.cell? ⟨W2.heap.size,j16,none⟩=some (.int .u32 (x16:Int)):=by rw[hW5]; exact c16
     have ch:=HA5.o.here (by omega);have cf:=HA5.o.free t;clear hW5 c15 c2 c7 c16;go_wp2_with fail
     go_quiet ((go_at_call 218; refine Calls.quiet_of (jR _ _ _ o2 (by decide))))
     rw[show rI x2 17=cL x2 15 from rfl,show rI x2 19=cL x2 13 from rfl,uv o2];obtain⟨W6,hW6⟩: ∃W6:World,W6=W5.drewN nq:=⟨_,rfl⟩;rw[<-hW6];have HA6:=aa (show eI W2 bs t W6 by rw[hW6]; exact HA5.o.next (iG W5 nq));have f7:W6.cell? ⟨W2.heap.size,j7,none⟩=some (.int .u32 (x7:Int)):=by rw[hW6]; exact d7
     have f16:W6.cell? ⟨W2.heap.size,j16,none⟩=some (.int .u32 (x16:Int)):=by rw[hW6]; exact d16
     clear ch cf;have ch:=HA6.o.here (by omega);have cf:=HA6.o.free t;have ht64:(t:Int)<64:=by omega
     clear hW6 d2 d7 d16;go_wp2_with fail;refine az [some 15,none] (by kernel_rfl) (by kernel_rfl) (by kernel_rfl) ?_;simp only[bC,List.take_succ_cons,List.take_zero,List.drop_succ_cons,List.drop_zero]
     repeat (first | (refine aK rfl ?_; simp only[Act.put,aZ,bg,bh]) | (refine aS rfl (fun K hK=> ?_); go_simp; refine hK _ ?_; clear hK K))
     refine aR ?_;refine bJ rfl (fun K hK=> ?_);go_wp2_with fail
     go_roundw
     case rel=>
      have HV:((((DI x2:Nat):Int)+(x7:Int)+((DH x15:Nat):Int)+(x16:Int))%4294967296)=((ll (mY bs t):Nat):Int):=by rw[HN.o]; omega
      rw[HV];exact⟨t+1,by omega,by omega,by simp,(HA6.o.put (by omega) (yB bs h17)).drew⟩
     case measure=>simp[intOf]; omega
    ·obtain rfl:t=64:=by omega
     obtain⟨W5,hW5⟩: ∃x,x=wr:=⟨_,rfl⟩;subst hW5;have HA5:=HA;have HB5:=aa (HB2.o.trans (HA.o.below.mono HB2.o.size));have HH5:=aa ((HA.o.below.block _ (lt_of_block HH2.o)).trans HH2.o);have HR5:=aa ((HA.o.below.block _ (lt_of_block HR2.o)).trans HR2.o);have HK5:=aa ((HA.o.below.block _ (lt_of_block HK2.o)).trans HK2.o);have HRG:=aa (gz HH5.o);have HI8:=aa (show(Tryz.prog.info? 216).map (·.size)=some (v.list.map bY).length by kernel_rfl)
     have H81:=aa (show(v.list.map bY).toArray.all (·.oneCell')=true from all_oneCell_toArray (fun x hx=>by obtain⟨y,-,rfl⟩:=List.mem_map.1 hx; rfl));clear HA hz HA4 HA0;rw[show((64:Nat):Int)=(64:Int)from rfl]
     go_upto_region 14 with(first | (refine wpList_load_mid rfl 216 _ rfl w.heap.size 0 rfl (v.list.map bY) _ HRG.o Tryz.underlying216 rfl HI8.o ?_) | (refine wpList_store_row rfl 216 _ _ rfl W5.heap.size (v.list.map bY).toArray rfl rfl _ _ (heap_alloc_new W5 _) (by kernel_rfl) (by kernel_rfl) H81.o ?_) | fail)
     obtain⟨W6,hW6⟩: ∃W6:World,W6=(W5.alloc (.cells (List.replicate 8 (bY 0)).toArray 216)).setRow W5.heap.size (v.list.map bY).toArray:=⟨_,rfl⟩
     change Code.wp _ _ _ _ ((W5.alloc (.cells (List.replicate 8 (bY 0)).toArray 216)).setRow W5.heap.size (v.list.map bY).toArray)
     have HBB:=aa (show Below W5.heap.size W5 W6 by rw[hW6]; exact below_setRow (bH) (Nat.le_refl _) _);have HV6:=aa (show W6.heap[W5.heap.size]? =some (.cells (v.list.map bY).toArray 216 (0,0)) by rw[hW6]; exact setRow_heap _ _ _ _ _ _ (heap_alloc_new W5 _));rw[<-hW6];clear hW6;have HRN0:=aa (show fI W5.heap.size W6 W6 v from⟨HV6.o,⟨rfl,rfl,rfl,Nat.le_refl _,fun _ _ _=>rfl⟩⟩)
     obtain⟨vb,hvb⟩: ∃vb,W5.heap.size=vb:=⟨_,rfl⟩;have HVB:=aa hvb;rw[hvb]at HRN0 HV6 ⊢;clear hvb;go_wp2_with fail
     go_loopw [12,13,14,15,16,17,18,19,20] (fun i y1 y2 y3 y4 y5 y6 y7 y8 wr=> ∃(t:Nat) (r:V8),t<=64/\i= .int .i64 (t:Int)/\r=rTo bs v t/\fI vb W6 wr r) (fun i _ _ _ _ _ _ _ _ _=>64-(intOf i).toNat)
     case atStart=>exact⟨0,v,by omega,rfl,rfl,HRN0.o⟩
     case round=>
      obtain⟨t,r,ht,rfl,hr,hrn⟩:=hrel;have HRT:=aa hr;have HRN:=aa hrn;have HRO:=aa (show r.Ok by rw[hr]; exact zW bs t hv);clear hr hrn
      by_cases h65:t<64
      ·have v0:=HRN.o.get (j:=0) (x:=r.a) rfl;have v1:=HRN.o.get (j:=1) (x:=r.b) rfl;have v2:=HRN.o.get (j:=2) (x:=r.c) rfl;have v4:=HRN.o.get (j:=4) (x:=r.e) rfl;have v5:=HRN.o.get (j:=5) (x:=r.f) rfl;have v6:=HRN.o.get (j:=6) (x:=r.g) rfl;go_wp2_with fail
       go_quiet (fail)
       obtain⟨W7,hW7⟩: ∃W7:World,W7=wr.drewN nq:=⟨_,rfl⟩;rw[<-hW7];have HRN7:=aa (show fI vb W6 W7 r by rw[hW7]; exact HRN.o.next (iG wr nq));obtain⟨k,hk⟩: ∃k,k=kc.getD t 0:=⟨_,rfl⟩;obtain⟨x,hx⟩: ∃x,x=(wsP bs).getD t 0:=⟨_,rfl⟩;have HKX:=aa (And.intro hk hx);have v7:=HRN7.o.get (j:=7) (x:=r.h) rfl;have v3:=HRN7.o.get (j:=3) (x:=r.d) rfl;have ck:W7.cell? ⟨w1.heap.size,t,none⟩=some (.int .u32 (k:Int)):=by
        rw[cell_of_row W7 _ t _ _ _ (HRN7.o.keep (br HBB.o HK5.o) (by have:=lt_of_block HK5.o; have:=HVB.o; omega))];unfold ij;rw[List.getElem?_toArray,List.getElem?_map,getD_some (by rw[vp]; exact h65),<-hk]; rfl
       have cx:W7.cell? ⟨W2.heap.size,t,none⟩=some (.int .u32 (x:Int)):=by
        rw[cell_of_row W7 _ t _ _ _ (HRN7.o.keep (br HBB.o HA5.o.box) (by have:=lt_of_block HA5.o.box; have:=HVB.o; omega)),<-cell_of_row W5 _ t _ _ _ HA5.o.box,HA5.o.get h65,vI,<-hx]
       have ht64:(t:Int)<64:=by omega
       clear hW7 hk hx v0 v1 v2 v4 v5 v6;go_wp2_with fail
       go_quiet ((go_at_call 218; refine Calls.quiet_of (jR _ _ _ HRO.o.e (by decide))))
       rw[show rI r.e 6=cL r.e 26 from rfl,show rI r.e 11=cL r.e 21 from rfl,show rI r.e 25=cL r.e 7 from rfl,BL HRO.o,Bb HRO.o,
        show((((r.h:Int)+((s1P r:Nat):Int)+((chP r:Nat):Int)+(k:Int))%4294967296+(x:Int))%4294967296)=((Gm r k x:Nat):Int) by rw[Au]; omega]
       obtain⟨t1,ht1⟩: ∃t1,t1=Gm r k x:=⟨_,rfl⟩;rw[<-ht1];have HT1:=aa ht1;obtain⟨W8,hW8⟩: ∃W8:World,W8=W7.drewN nq:=⟨_,rfl⟩;rw[<-hW8];have HRN8:=aa (show fI vb W6 W8 r by rw[hW8]; exact HRN7.o.next (iG W7 nq));clear hW8 v7 v3 ck cx ht1;go_wp2_with fail;refine(jR _ _ _ HRO.o.a (by decide)).mono ?_;rintro e W9 ⟨rfl,m9,hm9⟩;have HRN9:=aa (show fI vb W6 W9 r by rw[hm9]; exact HRN8.o.next (iG W8 m9))
       clear hm9;go_wp2_with fail;refine(jR _ _ _ HRO.o.a (by decide)).mono ?_;rintro e W10 ⟨rfl,m10,hm10⟩;have HRN10:=aa (show fI vb W6 W10 r by rw[hm10]; exact HRN9.o.next (iG W9 m10));clear hm10;go_wp2_with fail;refine(jR _ _ _ HRO.o.a (by decide)).mono ?_;rintro e W11 ⟨rfl,m11,hm11⟩;have HRN11:=aa (show fI vb W6 W11 r by rw[hm11]; exact HRN10.o.next (iG W10 m11))
       clear hm11;have v3:=HRN11.o.get (j:=3) (x:=r.d) rfl
       go_upto_region 20 with(fail)
       rw[show rI r.a 2=cL r.a 30 from rfl,show rI r.a 13=cL r.a 19 from rfl,show rI r.a 22=cL r.a 10 from rfl,BK HRO.o,Bw HRO.o,
        show((((s0P r:Nat):Int)+((mjP r:Nat):Int))%4294967296)=((t2P r:Nat):Int) by rw[FS]; omega]
       obtain⟨t2,ht2⟩: ∃t2,t2=t2P r:=⟨_,rfl⟩;rw[<-ht2];have HT2:=aa ht2;clear ht2;go_wp2_with (refine dk rfl 216 _ rfl [(0, .int .u32 (((t1:Int)+(t2:Int))%4294967296)),(1, .int .u32 (r.a:Int)),(2, .int .u32 (r.b:Int)),(3, .int .u32 (r.c:Int)),(4, .int .u32 (((r.d:Int)+(t1:Int))%4294967296)),(5, .int .u32 (r.e:Int)),(6, .int .u32 (r.f:Int)),(7, .int .u32 (r.g:Int))] (by kernel_rfl) _ (IW _ _ _ _ _ _ _ _) ?_; go_must (refine wpList_store_row rfl 216 _ _ rfl vb #[.int .u32 (((t1:Int)+(t2:Int))%4294967296), .int .u32 (r.a:Int), .int .u32 (r.b:Int), .int .u32 (r.c:Int), .int .u32 (((r.d:Int)+(t1:Int))%4294967296), .int .u32 (r.e:Int), .int .u32 (r.f:Int), .int .u32 (r.g:Int)] (by kernel_rfl) (by kernel_rfl) _ _ HRN11.o.box (by kernel_rfl) (by kernel_rfl) (by kernel_rfl) ?_))
       go_roundw
       case rel=>
        refine⟨t+1,Ab r k x,by omega,by simp, ?_,HRN11.o.put ?_⟩
        ·rw[xP bs v h65,HRT.o,HKX.o.1,HKX.o.2]
        ·rw[show(((t1:Int)+(t2:Int))%4294967296)=(((Gm r k x+t2P r)%4294967296:Nat):Int) by rw[HT1.o,HT2.o]; omega,show(((r.d:Int)+(t1:Int))%4294967296)=(((r.d+Gm r k x)%4294967296:Nat):Int) by rw[HT1.o]; omega]
         rfl
       case measure=>simp[intOf]; omega
      ·obtain rfl:t=64:=by omega
       obtain⟨W7,hW7⟩: ∃x,x=wr:=⟨_,rfl⟩;subst hW7;have HM0:=aa (show fO vb r v [] 216 W7 W7 0 from fO.start (by rw[List.append_nil]; exact HRN.o.box) (Below.refl _ _));have HH7:=aa (HRN.o.keep (br HBB.o HH5.o) (by have:=lt_of_block HH5.o; have:=HVB.o; omega));have HR7:=aa (HRN.o.keep (br HBB.o HR5.o) (by have:=lt_of_block HR5.o; have:=HVB.o; omega));rw[show((64:Nat):Int)=(64:Int)from rfl]
       go_wp2_with fail
       go_loopw [21] (fun i wq=> ∃j:Nat,j<=8/\i= .int .i64 (j:Int)/\fO vb r v [] 216 W7 wq j) (fun i _=>8-(intOf i).toNat)
       case atStart=>exact⟨0,by omega,rfl,HM0.o⟩
       case round=>
        obtain⟨j,hj,rfl,hm⟩:=hrel;have HM:=aa hm;clear hm
        by_cases h8:j<8
        ·have cs:=HM.o.here h8;have cf:=HM.o.free j;have cv:wr.cell? ⟨w.heap.size,j,none⟩=some (.int .u32 ((v.list.getD j 0:Nat):Int)):=(cell_of_row wr _ _ _ _ _ (HM.o.keep HH7.o (by have:=lt_of_block HH5.o; have:=HVB.o; omega))).trans (by rw[List.getElem?_toArray]; exact II v h8);obtain⟨x,hx⟩: ∃x,x=r.list.getD j 0:=⟨_,rfl⟩;obtain⟨y,hy⟩: ∃y,y=v.list.getD j 0:=⟨_,rfl⟩
         rw[<-hx]at cs;rw[<-hy]at cv;have HXY:=aa (And.intro hx hy);clear hx hy;have h8i:(j:Int)<8:=by omega
         go_wp2_with fail;refine az [some 8,none] (by kernel_rfl) (by kernel_rfl) (by kernel_rfl) ?_;simp only[bC,List.take_succ_cons,List.take_zero,List.drop_succ_cons,List.drop_zero]
         repeat (first | (refine aK rfl ?_; simp only[Act.put,aZ,bg,bh]) | (refine aS rfl (fun K hK=> ?_); go_simp; refine hK _ ?_; clear hK K))
         refine aR ?_;refine bJ rfl (fun K hK=> ?_);go_wp2_with fail
         go_roundw
         case rel=>
          refine⟨j+1,by omega,by simp, ?_⟩;exact(HM.o.put h8 (by rw[<-HXY.o.1,<-HXY.o.2]; unfold bY oa; simp)).drew
         case measure=>simp[intOf]; omega
        ·obtain rfl:j=8:=by omega
         have hbx:wr.heap[vb]? =some (.cells (((mu v bs).list.map bY)).toArray 216 (0,0)):=by
          have h1:=HM.o.box;rw[List.append_nil,show CQ r v 8=(uS r v).list from rfl,BW,HRT.o,<-xO]at h1;exact h1
         have HBV:=aa hbx;have HRR:=aa (HM.o.keep HR7.o (by have:=lt_of_block HR5.o; have:=HVB.o; omega));obtain⟨cs8,hcs8⟩: ∃c,c=(mu v bs).list.map bY:=⟨_,rfl⟩;rw[<-hcs8]at HBV;have HCS:=aa hcs8;have hl8:cs8.length=8:=by rw[hcs8]; rfl
         have HRG8:=aa (gz HBV.o);have HIL:=aa (show(Tryz.prog.info? 216).map (·.size)=some cs8.length by rw[hl8]; kernel_rfl);have HIA:=aa (show(Tryz.prog.info? 216).map (·.size)=some cs8.toArray.size by rw[List.size_toArray,hl8]; kernel_rfl);have HSZ:=aa (show(List.replicate 8 (bY 0)).toArray.size=cs8.toArray.size by rw[List.size_toArray,List.size_toArray,hl8]; rfl)
         have HO8:=aa (show cs8.toArray.all (·.oneCell')=true from all_oneCell_toArray (fun x hx=>by rw[hcs8]at hx; obtain⟨y,-,rfl⟩:=List.mem_map.1 hx; rfl));have HBE:=aa (show Below w.heap.size w wr from(HB5.o.trans (HBB.o.mono HB5.o.size)).trans ((show Below w.heap.size W6 wr from by
          have h1:=HRN.o.grown;have h2:=HM.o.grown;have hvw:w.heap.size<=vb:=by rw[<-HVB.o]; exact HB5.o.size
          have hw6:w.heap.size<=W6.heap.size:=Nat.le_trans HB5.o.size HBB.o.size;exact⟨h2.os.trans h1.os,h2.tape.trans h1.tape,h2.output.trans h1.output,Nat.le_trans h1.size h2.size,fun k hk=>(h2.block k (Nat.lt_of_lt_of_le hk (Nat.le_trans hw6 h1.size)) (fun e=>by cases e; omega)).trans (h1.block k (Nat.lt_of_lt_of_le hk hw6) (fun e=>by cases e; omega))⟩)))
         clear hbx hcs8 hl8;go_wp2_with (first | (refine wpList_load_mid rfl 216 _ rfl vb 0 rfl cs8 _ HRG8.o Tryz.underlying216 rfl HIL.o ?_) | (refine wpList_store_row rfl 216 _ _ rfl (w.heap.size+1) cs8.toArray rfl rfl _ _ HRR.o HIA.o HSZ.o HO8.o ?_) | fail);refine bodyPost_ret (results_cell_row rfl _ _ (w.heap.size+1) _ _ _ _ rfl (setRow_heap wr _ _ _ _ _ HRR.o) Tryz.underlying216 rfl HIA.o) rfl ?_
         exact⟨by rw[HCS.o],below_setRow HBE.o (by omega) _⟩
structure uM (w : World) : Prop where
 init:js w
 kons:gj w
 pads:Eg w
 ilt:2<w.heap.size
 klt:5<w.heap.size
 plt:0<w.heap.size
theorem uM.below {w w':World} (h:uM w) (hb:Below w.heap.size w w'):uM w':=
 ⟨h.init.below hb h.ilt,h.kons.below hb h.klt,⟨(hb.cell (p:=⟨0,0,none⟩) h.plt).trans h.pads.1,(hb.cell (p:=⟨0,1,none⟩) h.plt).trans h.pads.2⟩,Nat.lt_of_lt_of_le h.ilt hb.size,Nat.lt_of_lt_of_le h.klt hb.size,Nat.lt_of_lt_of_le h.plt hb.size⟩
theorem sA (mb:Nat) (key data xs:List UInt8) (xv:Value) (w:World) (h:oP w mb key data) (hx:ar (· ≠mb) w xv xs) (hlen:64+data.length+xs.length<1152921504606846976) (hE:uM w) (hne:mb≠5):
  Calls Tryz.prog 147 #[.pointer (some ⟨mb,0,none⟩),xv] w fun e w'=>e= .returned (.tuple #[])/\oP w' mb key (data++xs)/\w.grownBy w' (some mb):=by
 have HH:=aa h;have HX:=aa hx;have HE:=aa hE;clear h hx hE
 go_enter Tryz.func147,Tryz.ntmps147
 go_wp2_with fail;refine(fW mb 225 _ _ xs xv w HH.o HX.o (by rw[List.length_append]; unfold cH; rw[List.length_map,dK]; omega) HE.o.kons HE.o.klt hne).mono ?_;rintro e w1 ⟨rfl,h1,h2⟩;have H1:=aa h1;have H2:=aa h2;clear h1 h2;go_wp2_with fail
 go_end0
 refine⟨rfl, ?_,H2.o⟩;unfold oP;rw[<-List.append_assoc];exact H1.o
theorem Jo (k d:List UInt8):sR k d=kw (gT [⟨(cH (dr k) 92).toArray⟩,⟨(kw (cH (dr k) 54++d)).toArray⟩]):=by
 unfold gT sR;rw[List.flatMap_cons,List.flatMap_cons,List.flatMap_nil,List.append_nil,ed,ed]
 rfl
theorem CL {w:World} {mb:Nat} {key data:List UInt8} (h:oP w mb key data): ∃C:List Value,w.heap[mb]? =some (.cells C.toArray 225 (0,0))/\ ∀w',w'.heap[mb]? =some (.cells C.toArray 225 (0,0))->ar (fun _=>True) w' (.slice (some ⟨mb,73,none⟩) 64 64) (cH (dr key) 92):=by
 obtain⟨buf,h1,h2,h3⟩:=h;refine⟨_,h3,fun w' hw=> ?_⟩;have hl:(cH (dr key) 92).length=64:=by unfold cH; rw[List.length_map,dK]
 refine⟨by simp,_,_,by rw[hl],by omega,by unfold maxLen; omega, .inr ⟨mb,73,rfl,trivial,fun j x hj=> ?_⟩⟩;rw[cell_of_row w' _ _ _ _ _ hw,List.getElem?_toArray,List.getElem?_append_right (by rw[gC _ h1]; omega),gC _ h1,show 73+j-73=j by omega];exact hj
theorem wZ (mb:Nat) (key data:List UInt8) (w:World) (h:oP w mb key data) (hlen:64+data.length<288230376151711744) (hE:uM w):
  Calls Tryz.prog 148 #[.pointer (some ⟨mb,0,none⟩)] w fun e w'=>e= .returned (.string ⟨(sR key data).toArray⟩)/\Below w.heap.size w w':=by
 obtain⟨C,hC,hout⟩:=CL h;have HH:=aa h;have HE:=aa hE;have HC:=aa hC;have HOUT:=aa hout;have hmlt:=lt_of_block hC;clear h hE hC hout
 go_enter Tryz.func148,Tryz.ntmps148
 go_wp2_with fail;refine bE (fun w'=>w'.heap[mb]? =some (.cells C.toArray 225 (0,0))) (by kernel_rfl) ?_;obtain⟨V,hV⟩: ∃V:World,V=w.drew:=⟨_,rfl⟩;rw[<-hV];have HBV:=aa (show Below w.heap.size w V by rw[hV]; exact(Below.refl _ _).drew);have hSV:V.heap[mb]? =some (.cells C.toArray 225 (0,0)):=by rw[hV]; exact HC.o
 have HHV:=aa (show iY V mb 225 ((cH (dr key) 92).map ak) (cH (dr key) 54++data) by rw[hV]; exact HH.o);clear hV
 iterate 5 (refine aJ rfl (by kernel_rfl) (fun _ _ _ h=>h) rfl hSV (by intro w' hw1; go_simp; rfl) ?_; simp only[Act.put,aZ,bg,bh])
 have hcv: ∀w':World,w'.heap[mb]? =some (.cells C.toArray 225 (0,0))->(convert 29 9 (.slice (some ⟨mb,73,none⟩) 64 64)).run Tryz.prog w'= .ok (.string ⟨(cH (dr key) 92).toArray⟩) w':=fun w' hw=>EG (HOUT.o w' hw)
 refine aJ rfl (by kernel_rfl) (fun _ _ _ h=>h) rfl hSV (by intro w' hw1; have hcv2:=hcv w' hw1; go_simp; rfl) ?_;simp only[Act.put,aZ,bg,bh];clear hcv
 iterate 4 (refine aJ rfl (by kernel_rfl) (fun _ _ _ h=>h) rfl hSV (by intro w' hw1; go_simp; rfl) ?_; simp only[Act.put,aZ,bg,bh])
 refine an 10 rfl (by kernel_rfl) rfl (fun K hK=> ?_);go_wp2_with fail;refine(rN mb 225 _ _ V HHV.o (by rw[List.length_append]; unfold cH; rw[List.length_map,dK]; omega) (HE.o.below HBV.o).kons (HE.o.below HBV.o).klt).mono ?_;rintro e w1 ⟨rfl,hb1⟩;have HB1:=aa (ab HBV.o hb1);have hS1:w1.heap[mb]? =some (.cells C.toArray 225 (0,0)):=br hb1 hSV;clear hb1 hSV
 go_wp2_with fail;refine⟨hS1, ?_⟩;refine an 11 rfl (by kernel_rfl) rfl (fun K hK=> ?_);obtain⟨so,hso⟩: ∃so:ByteArray,so=⟨(cH (dr key) 92).toArray⟩:=⟨_,rfl⟩;obtain⟨si,hsi⟩: ∃si:ByteArray,si=⟨(kw (cH (dr key) 54++data)).toArray⟩:=⟨_,rfl⟩;have HSO:=aa hso;have HSI:=aa hsi;rw[<-hso,<-hsi];clear hso hsi;go_wp2_with fail;obtain⟨w2,hw2⟩: ∃w2,w2=w1.alloc (.cells #[.string so, .string si] 9):=⟨_,rfl⟩
 rw[<-hw2];have hb2:Below w1.heap.size w1 w2:=by rw[hw2]; exact bH
 have HB2:=aa (ab HB1.o hb2);have hS2:w2.heap[mb]? =some (.cells C.toArray 225 (0,0)):=br hb2 hS1;have HSTR:=aa (show fQ (fun _=>True) w2 (.slice (some ⟨w1.heap.size,0,none⟩) 2 2) [so,si]from⟨by simp,_,_,rfl,by simp,by unfold maxLen; omega, .inr ⟨_,_,rfl,trivial,fun j x hj=>by
  rw[hw2,cell_of_row _ _ _ _ _ _ (heap_alloc_new w1 _),Nat.zero_add]; simpa using hj⟩⟩)
 clear hw2 hb2 hS1;refine⟨hS2, ?_⟩;refine an 12 rfl (by kernel_rfl) rfl (fun K hK=> ?_);go_wp2_with fail;have hE2:=HE.o.below HB2.o;have hl64:so.size=64:=by rw[HSO.o,am,ed]; unfold cH; rw[List.length_map,dK]
 have hl32:si.size=32:=by rw[HSI.o,am,ed,nS]
 refine(yg (fun _=>True) [so,si] _ w2 HSTR.o (fun s hs=>by
  simp only[List.mem_cons,List.not_mem_nil,or_false]at hs;unfold maxLen
  rcases hs with rfl | rfl<;> omega) (by simp) (by unfold gT; rw[List.flatMap_cons,List.flatMap_cons,List.flatMap_nil,List.append_nil,List.length_append,<-am,<-am,hl64,hl32]; decide) hE2.init hE2.kons hE2.klt).mono ?_
 rintro e w3 ⟨rfl,hb3⟩;have HB3:=aa (ab HB2.o hb3);have hS3:w3.heap[mb]? =some (.cells C.toArray 225 (0,0)):=br hb3 hS2;rw[HSO.o,HSI.o,<-Jo];clear hb3 hS2 hE2 hl64 hl32;go_wp2_with fail;refine⟨hS3, ?_⟩;refine an 13 rfl (by kernel_rfl) rfl (fun K hK=> ?_);go_wp2_with fail;refine⟨hS3, ?_⟩;refine aM (by kernel_rfl) ?_;go_wp2_with fail;go_ret;exact⟨rfl,HB3.o⟩
theorem pi (S:Nat->Prop) (key:ByteArray) (xs:List UInt8) (xv:Value) (w:World) (hk:key.size<=64) (hx:ar S w xv xs) (hlen:xs.length<281474976710656) (hE:uM w):
  Calls Tryz.prog 116 #[.string key,xv] w fun e w'=>e= .returned (.string ⟨(sR (bl key) xs).toArray⟩)/\Below w.heap.size w w':=by
 have HX:=aa hx;have HE:=aa hE;clear hx hE
 go_enter Tryz.func116,Tryz.ntmps116
 go_wp2_with fail;refine(wY key w hk HE.o.init HE.o.kons HE.o.pads HE.o.klt HE.o.plt HE.o.ilt).mono ?_;rintro e w1 ⟨mb,rfl,hmb,hm,hb⟩;have HM:=aa hm;have HB:=aa hb;clear hm hb;go_wp2_with fail;refine(sA mb (bl key) [] xs xv w1 HM.o ?_ (by simp; omega) (HE.o.below HB.o) (by have:=HE.o.klt; omega)).mono ?_
 ·have h2:=aL.mono (T:=fun k=>k≠mb) HX.o (fun k hk _=>by show k≠mb; omega) (by omega);exact aL.below h2 (by omega) HB.o
 ·rintro e w2 ⟨rfl,hm2,hg2⟩;rw[List.nil_append]at hm2;have HM2:=aa hm2;have HB2:=aa (HB.o.grown hg2 HB.o.size (fun k hk=>by cases hk; omega));clear hm2 hg2;go_wp2_with fail;refine(wZ mb (bl key) xs w2 HM2.o (by omega) (HE.o.below HB2.o)).mono ?_;rintro e w3 ⟨rfl,hb3⟩;have HB3:=aa (ab HB2.o hb3);clear hb3;go_wp2_with fail;go_ret;exact⟨rfl,HB3.o⟩
end Go.Proofs.YtpffpjbkbaleiaaGreatDoor
namespace Go.Proofs.YtpffpjbkbaleiaaGreatDoor
open Go.RowKit
def ik :Nat->Nat->List UInt8
 | 0,n=>[UInt8.ofNat n]
 | f+1,n=>if 127<n then UInt8.ofNat (n%128+128)::ik f (n/128)else [UInt8.ofNat n]
def aw (n:Nat):List UInt8:=ik 10 n
theorem xH : ∀(f n:Nat),(ik f n).length<=f+1
 | 0,_=>by simp[ik]
 | f+1,n=>by
  rw[ik]
  split
  ·have:=xH f (n/128); simp; omega
  ·simp
theorem bm (n:Nat):(aw n).length<=11:=xH 10 n
def Eb (bs:List UInt8) (w:World) (e:Ending) (w':World):Prop:= ∃v,e= .returned v/\ar (w.heap.size<= ·) w' v bs/\Below w.heap.size w w'
theorem gp {n:Nat} (h:n<256):ak (UInt8.ofNat n)= .int .u8 (n:Int):=by
 unfold ak; rw[UInt8.toNat_ofNat_of_lt' (by exact h)]
theorem jH (b:UInt8): ∀u∈[ak b],u.oneCell'=true:=by simp[ak,Value.oneCell']
theorem gB (n:Nat) (w:World) (hn:n<18446744073709551616):Calls Tryz.prog 103 #[.int .u64 (n:Int)] w (Eb (aw n) w):=by
 have HO:=aa (World.ownsRow_lit (e:=5) (size:=1) (base:=w.heap.size) w #[] 0 (Nat.le_refl _) (Nat.zero_le _) (by simp));have HB:=aa ((Below.refl w.heap.size w).alloc (Nat.le_refl _) (.cells #[] 5))
 go_enter Tryz.func103,Tryz.ntmps103
 go_wp2_with fail
 go_loopw [0,3] (fun x o wr=> ∃(f m:Nat) (acc:List UInt8),x= .int .u64 (m:Int)/\m<18446744073709551616/\m<2^(7*f)/\acc++ik f m=aw n/\wr.ownsRow w.heap.size 5 1 o acc.length (acc.map ak)/\acc.length<=20/\Below w.heap.size w wr) (fun x _ _=>(intOf x).toNat)
 case atStart=>exact⟨10,n,[],rfl,hn,Nat.lt_trans hn (by decide),rfl,HO.o,by simp,HB.o⟩
 case round=>
  obtain⟨f,m,acc,rfl,hm,hmf,henc,hown,hal,hb⟩:=hrel;have HE:=aa henc;have HO2:=aa hown;have HB2:=aa hb;have HMF:=aa hmf;have hbz:=hb.size;obtain⟨ao,co,rfl,h1,h2⟩:=ai hown;clear henc hown hb hmf HO HB
  by_cases hlt:127<m
  ·have hv:Value.int .u8 ((m:Int)%128+128)=ak (UInt8.ofNat (m%128+128)):=by rw[gp (by omega)]; simp
   have HV:=aa hv;obtain⟨f,rfl⟩: ∃g,f=g+1:=⟨f-1,by
    cases f with
    | zero=>have:=HMF.o; simp at this; omega
    | succ g=>rfl⟩
   have HE2:=aa (show(acc++[UInt8.ofNat (m%128+128)])++ik f (m/128)=aw n by rw[<-HE.o,ik,if_pos hlt]; simp);have HMF2:=aa (show m/128<2^(7*f) by
    have h3:=HMF.o;rw[show 7*(f+1)=7*f+7 by omega,Nat.pow_add]at h3;exact Nat.div_lt_of_lt_mul (by omega))
   have hal2:acc.length<=10:=by
    have h4:=bm n;rw[<-HE.o,List.length_append,ik,if_pos hlt,List.length_cons]at h4;omega
   clear hv;go_wp2_with (at_builtin; go_must (refine dq Tryz.appBytes rfl _ _ rfl w.heap.size (.slice ao acc.length co) acc.length (acc.map ak) rfl wr [.int .u8 ((m:Int)%128+128)] _ rfl rfl (by rw[HV.o]; exact jH _) HO2.o (by omega) hbz ?_); intro v' wc hown' hgrow' _; have HB3:=aa (aF HB2.o HO2.o hgrow' (Nat.le_refl _) hbz); have HO3:=aa (show wc.ownsRow w.heap.size 5 1 v' (acc++[UInt8.ofNat (m%128+128)]).length ((acc++[UInt8.ofNat (m%128+128)]).map ak) by rw[List.length_append,List.map_append,List.map_cons,List.map_nil,<-HV.o]; exact hown'); obtain⟨ae,ce,rfl,-,-⟩:=ai hown'; clear hown' hgrow')
   go_roundw
   case rel=>exact⟨f,m/128,acc++[UInt8.ofNat (m%128+128)],by simp,by omega,HMF2.o,HE2.o,HO3.o,by simp; omega,HB3.o⟩
   case measure=>simp[intOf]; omega
  ·have hv:Value.int .u8 (m:Int)=ak (UInt8.ofNat m):=by rw[gp (by omega)]
   have HV:=aa hv;have HE2:=aa (show acc++[UInt8.ofNat m]=aw n by
    rw[<-HE.o]
    cases f with
    | zero=>rfl
    | succ f=>rw[ik,if_neg hlt])
   clear hv;go_wp2_with (at_builtin; go_must (refine dq Tryz.appBytes rfl _ _ rfl w.heap.size (.slice ao acc.length co) acc.length (acc.map ak) rfl wr [.int .u8 (m:Int)] _ rfl rfl (by rw[HV.o]; exact jH _) HO2.o (by omega) hbz ?_); intro v' wc hown' hgrow' _; have HB3:=aa (aF HB2.o HO2.o hgrow' (Nat.le_refl _) hbz); have HO3:=aa (show wc.ownsRow w.heap.size 5 1 v' (acc++[UInt8.ofNat m]).length ((acc++[UInt8.ofNat m]).map ak) by rw[List.length_append,List.map_append,List.map_cons,List.map_nil,<-HV.o]; exact hown'); obtain⟨ae,ce,rfl,-,-⟩:=ai hown'; clear hown' hgrow')
   go_ret;rw[<-HE2.o];exact⟨_,rfl,(aO HO3.o).weak (fun k hk=>hk.1),HB3.o⟩
theorem EC {S:Nat->Prop} {w w':World} {a:Option Addr} {n cap:Nat} {l:List UInt8} (hv:ar S w (.slice a n cap) l) (hb:Below w.heap.size w w') {k:Nat} {x:UInt8} (hx:l[k]? =some x): ∃b o,a=some ⟨b,o,none⟩/\w'.cell? ⟨b,o+k,none⟩=some (.int .u8 (x.toNat:Int)):=by
 obtain⟨hl,a',cap',hv',_,_,h0⟩:=hv
 cases hv'
 rcases h0 with h0 | ⟨b,o,rfl,_,hc⟩
 ·simp[List.eq_nil_of_length_eq_zero h0]at hx
 ·have h1:=hc k (ak x) (by simp[hx]);exact⟨b,o,rfl,(hb.cell (aP h1)).trans h1⟩
structure dZ where
 kind:Int
 u:Nat
 n:Int
 b:Bool
 s:ByteArray
 most:Int
def mP (x:dZ):List Value:=[.int .i64 x.kind, .int .u64 (x.u:Int), .int .i64 x.n, .bool x.b, .string x.s, .int .i64 x.most]
structure ss (x : dZ) : Prop where
 u:x.u<18446744073709551616
 n: -9223372036854775808<=x.n/\x.n<=9223372036854775807
 s:x.s.size<=65536
 k:x.kind≠2
def GA (c:List Value) (x:dZ):Prop:=c=mP x/\ss x
theorem GA.len (c:List Value) (x:dZ) (h:GA c x):c.length=6:=by rw[h.1]; rfl
def sX (S:Nat->Prop) (w:World) (v:Value) (l:List dZ):Prop:=aU S w 6 GA v l
theorem Jn {S:Nat->Prop} {w w':World} {a:Option Addr} {n cap:Nat} {l:List dZ} (hv:sX S w (.slice a n cap) l) (hb:Below w.heap.size w w') {k:Nat} {x:dZ} (hr:l[k]? =some x):
  ∃b o,a=some ⟨b,o,none⟩/\ss x/\ ∀j,j<6->w'.cell? ⟨b,o+k*6+j,none⟩=(mP x)[j]? :=by
 obtain⟨a',cap',hv',_,_,hx⟩:=aU.shape hv GA.len
 cases hv'
 obtain⟨b,o,c,rfl,hS,⟨rfl,hok⟩,_,hcl⟩:=hx k x hr;have q0:=hcl 0 (by omega);have hlt:b<w.heap.size:=aP (a:=⟨b,o+(k*6+0),none⟩) (v:= .int .i64 x.kind) q0;refine⟨b,o,rfl,hok,fun j hj=> ?_⟩;rw[Nat.add_assoc];exact(hb.cell (p:=⟨b,o+(k*6+j),none⟩) hlt).trans (hcl j hj)
def fM (x:dZ):Except Int (List UInt8):=
 if x.kind=1 then .ok (aw x.u)
 else if x.kind=3 then .ok [if x.b then 1 else 0]
 else if x.kind=4\/x.kind=5 then .ok (aw x.s.size++bl x.s)
 else if x.kind=6 then(if x.s.size=32 then .ok (bl x.s)else .error 1)
 else if x.kind=7 then(if x.n<0 then .error 1 else .ok (aw x.n.toNat))
 else .ok []
def cn :List dZ->Except Int (List UInt8)
 | []=> .ok []
 | x::l=>match fM x with
  | .error e=> .error e
  | .ok a=>match cn l with
   | .error e=> .error e
   | .ok b=> .ok (a++b)
theorem mE {x:dZ} {e:Int} : ∀ {l:List dZ} {k:Nat} {a:List UInt8},cn (l.take k)= .ok a->l[k]? =some x->fM x= .error e->cn l= .error e
 | [],k,a,_,h2,_=>by simp at h2
 | y::l,0,a,_,h2,h3=>by
  simp at h2; subst h2;simp only[cn,h3]
 | y::l,k+1,a,h1,h2,h3=>by
  rw[List.take_succ_cons,cn]at h1
  cases hy:fM y with
  | error e=>rw[hy]at h1; simp at h1
  | ok b=>
   rw[hy]at h1;simp only at h1
   cases hk:cn (l.take k)with
   | error e=>rw[hk]at h1; simp at h1
   | ok c=>
    have:=mE hk (by simpa using h2) h3;simp only[cn,hy,this]
theorem dH {x:dZ} {b:List UInt8} : ∀ {l:List dZ} {a:List UInt8},cn l= .ok a->fM x= .ok b->cn (l++[x])= .ok (a++b)
 | [],a,h1,h2=>by
  simp only[cn,Except.ok.injEq]at h1;subst h1;simp[cn,h2]
 | y::l,a,h1,h2=>by
  rw[cn]at h1
  cases hy:fM y with
  | error e=>rw[hy]at h1; simp at h1
  | ok c=>
   rw[hy]at h1;simp only at h1
   cases hk:cn l with
   | error e=>rw[hk]at h1; simp at h1
   | ok d=>
    rw[hk]at h1;simp only[Except.ok.injEq]at h1;subst h1;simp only[List.cons_append,cn,hy,dH hk h2,List.append_assoc]
def sy (l:List dZ):Except Int (List UInt8):=match cn l with
 | .error e=> .error e
 | .ok out=>if 1048576<out.length then .error 2 else .ok out
def IK (res:Except Int (List UInt8)) (w:World) (e:Ending) (w':World):Prop:=Below w.heap.size w w'/\match res with
 | .error x=>e= .returned (.tuple #[.slice none 0 0, .int .i64 x])/\x≠0
 | .ok bs=> ∃v,e= .returned (.tuple #[v, .int .i64 0])/\ar (w.heap.size<= ·) w' v bs
def yK (res:Except Int (List UInt8)) (w:World) (e:Ending) (w':World):Prop:=Below w.heap.size w w'/\match res with
 | .error x=>e= .returned (.tuple #[.slice none 0 0, .int .i64 x])/\x≠0
 | .ok bs=> ∃v,e= .returned (.tuple #[v, .int .i64 0])/\w'.ownsRow w.heap.size 5 1 v bs.length (bs.map ak)
theorem yK.res {res:Except Int (List UInt8)} {w w':World} {e:Ending} (h:yK res w e w'):IK res w e w':=by
 refine⟨h.1, ?_⟩;have h2:=h.2
 cases res with
 | error x=>exact h2
 | ok bs=>
  obtain⟨v,h3,h4⟩:=h2;exact⟨v,h3,(aO h4).weak (fun k hk=>hk.1)⟩
theorem yq (s:ByteArray):Lib.strCells s=(bl s).map ak:=rfl
theorem fy {ops:Array Oper} {rest:List Oper} {o:Oper} {a:Act} {Q:Exit->Act->World->Prop} {w:World} (hgd:o.guard=none) (sl x:Operand)
  (ho:o.op= .call {callee:= .builtin .append,args:= #[sl,x],argTypes:= #[29,9]}) (base:Nat) (v:Value) (acc:List UInt8) (hs:a.eval sl=v) (hown:w.ownsRow base 5 1 v acc.length (acc.map ak)) (s:ByteArray) (hx:a.eval x= .string s)
  (hn:acc.length+s.size<1099511627775) (hbase:base<=w.heap.size)
  (h: ∀v' w',w'.ownsRow base 5 1 v' (acc.length+s.size) (acc.map ak++(bl s).map ak)->w.grownBy w' v.ownBlock->wpList Tryz.prog ops Q rest (a.put o.dst v') w'):wpList Tryz.prog ops Q (o::rest) a w:=by
 obtain⟨ht,⟨i,z,h11,h12,h13,h14,h15⟩,hpos,hsm⟩:=Tryz.appBytes;have hz:i.zero=some (.int .u8 0):=by
  have:(Tryz.prog.info? 5).map (fun i=>i.zero)=some (some (.int .u8 0)):=by kernel_rfl
  rw[h11]at this;exact Option.some.inj this
 refine Lib.wpList_append_own_string w hgd sl x 29 9 ho base 5 i ht Tryz.underlying9 h11 hz h13 h14 v acc.length _ hs hown s hx (by unfold maxLen; omega) (by omega) hbase fun v' w' h1 h2 _=>h v' w' ?_ h2
 rw[<-yq];exact h1
theorem mN {w:World} {base:Nat} {e:TypeId} {sz:Nat} {v:Value} {n:Nat} {xs:List Value} {k:Nat} (h:w.ownsRow base e sz v n xs) (hk:v.ownBlock=some k): ∃cs,w.heap[k]? =some (.cells cs e (0,0)):=by
 obtain⟨_,h2⟩:=h
 rcases h2 with⟨rfl,rfl⟩ | ⟨g,cap,cur,rfl,_,hh,_⟩
 ·cases hk
 ·have:g=k:=by simpa [Value.ownBlock]using hk
  subst this;exact⟨cur,hh⟩
theorem zh (S:Nat->Prop) (v:Value) (l:List dZ) (w:World) (hv:sX S w v l) (hlen:l.length<=1000000):Calls Tryz.prog 57 #[v] w (yK (sy l) w):=by
 obtain⟨a,cap,rfl,hc,hm,-⟩:=aU.shape hv GA.len;unfold maxLen at hm;have HV:=aa hv;have HO0:=aa (World.ownsRow_lit (e:=5) (size:=1) (base:=w.heap.size) w #[] 0 (Nat.le_refl _) (Nat.zero_le _) (by simp));have HB0:=aa ((Below.refl w.heap.size w).alloc (Nat.le_refl _) (.cells #[] 5));clear hv
 go_enter Tryz.func57,Tryz.ntmps57
 go_wp2_with fail
 go_loopw [4,5] (fun o i wr=> ∃(k:Nat) (acc:List UInt8),k<=l.length/\i= .int .i64 k/\cn (l.take k)= .ok acc/\wr.ownsRow w.heap.size 5 1 o acc.length (acc.map ak)/\acc.length<=k*65556/\Below w.heap.size w wr) (fun _ i _=>l.length-(intOf i).toNat)
 case atStart=>exact⟨0,[],Nat.zero_le _,rfl,rfl,HO0.o,by simp,HB0.o⟩
 case round=>
  obtain⟨k,acc,hk,rfl,henc,hown,hal,hb⟩:=hrel;have HE:=aa henc;have HO:=aa hown;have HB:=aa hb;obtain⟨ao,co,rfl,hn1,hn2⟩:=ai hown;clear henc hown hb HO0 HB0
  by_cases hlt:k<l.length
  ·obtain⟨x,hx⟩: ∃x,l[k]? =some x:=⟨l[k],by simp[hlt]⟩;obtain⟨b0,o,rfl,hok,hcl⟩:=Jn HV.o HB.o hx;have HG:=aa hx;have HSN:=aa (bS hx);have hus:=hok.u;have hss:=hok.s;have hk2:=hok.k;obtain⟨hnw1,hnw2⟩:=hok.n;have q0:=hcl 0 (by omega);have q1:=hcl 1 (by omega);have q2:=hcl 2 (by omega);have q3:=hcl 3 (by omega);have q4:=hcl 4 (by omega);have q5:=hcl 5 (by omega)
   simp only[mP,vN,Nat.add_zero]at q0 q1 q2 q3 q4 q5;obtain⟨kd,u,n,b,s,mo⟩:=x;simp only at hus hss hk2 hnw1 hnw2 q0 q1 q2 q3 q4 q5;clear hx hcl hok;have HAL:=aa ((Below.refl wr.heap.size wr).alloc (Nat.le_refl _) (.cells #[.int .i64 kd, .int .u64 (u:Int), .int .i64 n, .bool b, .string s, .int .i64 mo] 96));have HO1:=aa (dU HO.o HAL.o);have HB1:=aa (ab HB.o HAL.o)
   by_cases h1:kd=1
   ·subst h1;have HX:=aa (show fM ⟨1,u,n,b,s,mo⟩= .ok (aw u)from rfl);have HBD:=aa (show acc.length+(aw u).length<=(k+1)*65556 by have:=bm u; omega);have hnl:=bm u;go_wp2_with fail;refine(gB u _ (by omega)).mono ?_;rintro e w1 ⟨nv,rfl,hnv,hb1⟩;have HNV:=aa hnv;have HBL:=aa (ab HB1.o hb1);have HOL:=aa (dU HO1.o hb1)
    have hbz:=HBL.o.size;obtain⟨_,na,nc,rfl,hnn1,hnn2,-⟩:=hnv;clear hb1 q0 q1 q2 q3 q4 q5;go_wp2_with (at_builtin; go_must (refine bD Tryz.appBytes rfl _ _ rfl w.heap.size (.slice ao acc.length co) acc.length (acc.map ak) rfl HOL.o _ (aw u).length ((aw u).map ak) rfl HNV.o (ci _) (by omega) hbz ?_); intro v' wc hown' hgrow'; have HO3:=aa hown'; have HB3:=aa (aF HBL.o HOL.o hgrow' (Nat.le_refl _) hbz); obtain⟨ae,ce,rfl,-,-⟩:=ai hown'; clear hown' hgrow')
    go_roundw
    case rel=>exact⟨k+1,acc++(aw u),by omega,by go_num,by rw[HSN.o]; exact dH HE.o HX.o,by rw[List.length_append,List.map_append]; exact HO3.o,by rw[List.length_append]; exact HBD.o,HB3.o⟩
    case measure=>simp[intOf]; omega
   ·by_cases h3:kd=3
    ·subst h3;have hbz:=HB1.o.size
     cases b
     ·have HX:=aa (show fM ⟨3,u,n,false,s,mo⟩= .ok [0]from rfl);have HBD:=aa (show acc.length+([0]:List UInt8).length<=(k+1)*65556 by simp; omega);obtain⟨W,hW⟩: ∃W:World,W=wr.alloc (.cells #[.int .i64 3, .int .u64 (u:Int), .int .i64 n, .bool false, .string s, .int .i64 mo] 96):=⟨_,rfl⟩;rw[<-hW]at HO1 HB1 hbz;clear HAL
      go_upto_region 14 with(fail)
      rw[<-hW];clear hW q0 q1 q2 q3 q4 q5;go_wp2_with (at_builtin; go_must (refine dq Tryz.appBytes rfl _ _ rfl w.heap.size (.slice ao acc.length co) acc.length (acc.map ak) rfl W [.int .u8 0] _ rfl rfl (jH 0) HO1.o (by omega) hbz ?_); intro v' wc hown' hgrow' _; have HO3:=aa (show wc.ownsRow w.heap.size 5 1 v' (acc.length+([0]:List UInt8).length) (acc.map ak++([0]:List UInt8).map ak)from hown'); have HB3:=aa (aF HB1.o HO1.o hgrow' (Nat.le_refl _) hbz); obtain⟨ae,ce,rfl,-,-⟩:=ai hown'; clear hown' hgrow')
      go_roundw
      case rel=>exact⟨k+1,acc++([0]:List UInt8),by omega,by go_num,by rw[HSN.o]; exact dH HE.o HX.o,by rw[List.length_append,List.map_append]; exact HO3.o,by rw[List.length_append]; exact HBD.o,HB3.o⟩
      case measure=>simp[intOf]; omega
     ·have HX:=aa (show fM ⟨3,u,n,true,s,mo⟩= .ok [1]from rfl);have HBD:=aa (show acc.length+([1]:List UInt8).length<=(k+1)*65556 by simp; omega);obtain⟨W,hW⟩: ∃W:World,W=wr.alloc (.cells #[.int .i64 3, .int .u64 (u:Int), .int .i64 n, .bool true, .string s, .int .i64 mo] 96):=⟨_,rfl⟩;rw[<-hW]at HO1 HB1 hbz;clear HAL
      go_upto_region 13 with(fail)
      rw[<-hW];clear hW q0 q1 q2 q3 q4 q5;go_wp2_with (at_builtin; go_must (refine dq Tryz.appBytes rfl _ _ rfl w.heap.size (.slice ao acc.length co) acc.length (acc.map ak) rfl W [.int .u8 1] _ rfl rfl (jH 1) HO1.o (by omega) hbz ?_); intro v' wc hown' hgrow' _; have HO3:=aa (show wc.ownsRow w.heap.size 5 1 v' (acc.length+([1]:List UInt8).length) (acc.map ak++([1]:List UInt8).map ak)from hown'); have HB3:=aa (aF HB1.o HO1.o hgrow' (Nat.le_refl _) hbz); obtain⟨ae,ce,rfl,-,-⟩:=ai hown'; clear hown' hgrow')
      go_roundw
      case rel=>exact⟨k+1,acc++([1]:List UInt8),by omega,by go_num,by rw[HSN.o]; exact dH HE.o HX.o,by rw[List.length_append,List.map_append]; exact HO3.o,by rw[List.length_append]; exact HBD.o,HB3.o⟩
      case measure=>simp[intOf]; omega
    ·by_cases h4:kd=4\/kd=5
     ·have HX:=aa (show fM ⟨kd,u,n,b,s,mo⟩= .ok (aw s.size++bl s) by simp only[fM,if_neg h1,if_neg h3,if_pos h4]);have HBD:=aa (show acc.length+(aw s.size++bl s).length<=(k+1)*65556 by have:=bm s.size; rw[List.length_append,<-am]; omega);have HBX:=aa (heap_alloc_new wr (.cells #[.int .i64 kd, .int .u64 (u:Int), .int .i64 n, .bool b, .string s, .int .i64 mo] 96))
      have hnl:=bm s.size;obtain⟨W,hW⟩: ∃W:World,W=wr.alloc (.cells #[.int .i64 kd, .int .u64 (u:Int), .int .i64 n, .bool b, .string s, .int .i64 mo] 96):=⟨_,rfl⟩;rw[<-hW]at HO1 HB1 HBX;clear h1 h3 hk2 HAL
      rcases h4 with rfl | rfl
      ·go_upto_region 17 with(fail)
       rw[<-hW];clear hW q0 q1 q2 q3 q4 q5;refine bE (fun w'=>w'.cell? ⟨wr.heap.size,4,none⟩=some (.string s)) (by kernel_rfl) ?_;obtain⟨W2,hW2⟩: ∃W2:World,W2=W.drew:=⟨_,rfl⟩;rw[<-hW2];have hbw:Below W.heap.size W W2:=by rw[hW2]; exact(Below.refl _ _).drew
       have HB2:=aa (ab HB1.o hbw);have HO2:=aa (dU HO1.o hbw);have HBX2:=aa (br hbw HBX.o);clear hW2 hbw HBX;have c0:=aB (k:=4) HBX2.o;simp only[cr]at c0
       iterate 5 (refine aJ rfl (by kernel_rfl) (fun _ _ _ h=>h) rfl (by go_simp) (by intro w' hw'; go_simp; rfl) ?_; simp only[Act.put,aZ,bg,bh])
       refine ay 7 rfl (by kernel_rfl) (by kernel_rfl) (by kernel_rfl) (fun _ _ _ h=>h) rfl (by go_simp) (by intro w' hw'; go_simp; rfl) ?_;simp only[Act.put,aZ,bg,bh];refine ay 8 rfl (by kernel_rfl) (by kernel_rfl) (by kernel_rfl) (fun _ _ _ h=>h) rfl (by go_simp) (by intro w' hw'; go_simp; rfl) ?_;simp only[Act.put,aZ,bg,bh];refine an 5 rfl (by kernel_rfl) rfl (fun K hK=> ?_)
       go_wp2_with (go_at_call 103; refine(gB s.size _ (by omega)).mono ?_; rintro e w1 ⟨nv,rfl,hnv,hb1⟩);have HNV:=aa hnv;have HBL:=aa (ab HB2.o hb1);have HOL:=aa (dU HO2.o hb1);have HBX3:=aa (br hb1 HBX2.o);have hbz:=HBL.o.size;obtain⟨_,na,nc,rfl,hnn1,hnn2,-⟩:=hnv;have c1:=aB (k:=4) HBX3.o;simp only[cr]at c1;clear hb1 c0;refine⟨c1, ?_⟩
       refine an 6 rfl (by kernel_rfl) rfl (fun K hK=> ?_);go_wp2_with (at_builtin; go_must (refine bD Tryz.appBytes rfl _ _ rfl w.heap.size (.slice ao acc.length co) acc.length (acc.map ak) rfl HOL.o _ (aw s.size).length ((aw s.size).map ak) rfl HNV.o (ci _) (by omega) hbz ?_); intro v' wc hown' hgrow');have HBX4:=aa ((hgrow'.block wr.heap.size (lt_of_block HBX3.o) (fun e=>by have:=(HO.o.lt _ e.symm).2; omega)).trans HBX3.o)
       have HBL2:=aa (aF HBL.o HOL.o hgrow' (Nat.le_refl _) hbz);have HOL2:=aa (show wc.ownsRow w.heap.size 5 1 v' (acc++aw s.size).length ((acc++aw s.size).map ak) by rw[List.length_append,List.map_append]; exact hown');have hbz2:=HBL2.o.size;obtain⟨ae,ce,rfl,-,-⟩:=ai hown';have c2:=aB (k:=4) HBX4.o;simp only[cr]at c2;have hlen2:(acc++aw s.size).length=acc.length+(aw s.size).length:=List.length_append
       clear hown' hgrow' c1;refine⟨c2, ?_⟩;refine an 9 rfl (by kernel_rfl) rfl (fun K hK=> ?_);have hlt5:(acc++aw s.size).length+s.size<1099511627775:=by omega
       have hvv:Value.slice ae (acc.length+(aw s.size).length) ce= .slice ae (acc++aw s.size).length ce:=by rw[hlen2]
       have HVV:=aa hvv;have HLT5:=aa hlt5;clear hlen2 hlt5 hvv;go_wp2_with (at_builtin; go_must (refine fy rfl _ _ rfl w.heap.size (.slice ae (acc.length+(aw s.size).length) ce) (acc++aw s.size) rfl HOL2.o s rfl HLT5.o hbz2 ?_); intro v' wd hown' hgrow');have HBX5:=aa ((hgrow'.block wr.heap.size (lt_of_block HBX4.o) (fun e=>by
        have h1:=HOL2.o;have h2:=(mN h1 e.symm);obtain⟨cs,h2⟩:=h2;have:=HBX4.o.symm.trans h2;simp at this)).trans HBX4.o)
       have HB3:=aa (aF HBL2.o HOL2.o hgrow' (Nat.le_refl _) hbz2);have HO3:=aa (show wd.ownsRow w.heap.size 5 1 v' (acc.length+(aw s.size++bl s).length) (acc.map ak++(aw s.size++bl s).map ak) by
        have h1:=hown';rw[List.length_append,am,Nat.add_assoc,<-List.length_append,List.map_append,List.append_assoc,<-List.map_append]at h1;exact h1)
       obtain⟨nb,hnb⟩: ∃nb,nb=aw s.size++bl s:=⟨_,rfl⟩;rw[<-hnb]at HO3 HX HBD;clear hnb;obtain⟨af,cf,rfl,-,-⟩:=ai HO3.o;have c3:=aB (k:=4) HBX5.o;simp only[cr]at c3;clear hown' hgrow' c2;refine⟨c3, ?_⟩;refine aJ rfl (by kernel_rfl) (fun _ _ _ h=>h) rfl (by go_simp) (by intro w' hw'; go_simp; rfl) ?_;simp only[Act.put,aZ,bg,bh];refine aM (by kernel_rfl) ?_
       go_wp2_with fail
       go_roundw
       case rel=>exact⟨k+1,acc++nb,by omega,by go_num,by rw[HSN.o]; exact dH HE.o HX.o,by rw[List.length_append,List.map_append]; exact HO3.o,by rw[List.length_append]; exact HBD.o,HB3.o⟩
       case measure=>simp[intOf]; omega
      ·go_upto_region 17 with(fail)
       rw[<-hW];clear hW q0 q1 q2 q3 q4 q5;refine bE (fun w'=>w'.cell? ⟨wr.heap.size,4,none⟩=some (.string s)) (by kernel_rfl) ?_;obtain⟨W2,hW2⟩: ∃W2:World,W2=W.drew:=⟨_,rfl⟩;rw[<-hW2];have hbw:Below W.heap.size W W2:=by rw[hW2]; exact(Below.refl _ _).drew
       have HB2:=aa (ab HB1.o hbw);have HO2:=aa (dU HO1.o hbw);have HBX2:=aa (br hbw HBX.o);clear hW2 hbw HBX;have c0:=aB (k:=4) HBX2.o;simp only[cr]at c0
       iterate 5 (refine aJ rfl (by kernel_rfl) (fun _ _ _ h=>h) rfl (by go_simp) (by intro w' hw'; go_simp; rfl) ?_; simp only[Act.put,aZ,bg,bh])
       refine ay 7 rfl (by kernel_rfl) (by kernel_rfl) (by kernel_rfl) (fun _ _ _ h=>h) rfl (by go_simp) (by intro w' hw'; go_simp; rfl) ?_;simp only[Act.put,aZ,bg,bh];refine ay 8 rfl (by kernel_rfl) (by kernel_rfl) (by kernel_rfl) (fun _ _ _ h=>h) rfl (by go_simp) (by intro w' hw'; go_simp; rfl) ?_;simp only[Act.put,aZ,bg,bh];refine an 5 rfl (by kernel_rfl) rfl (fun K hK=> ?_)
       go_wp2_with (go_at_call 103; refine(gB s.size _ (by omega)).mono ?_; rintro e w1 ⟨nv,rfl,hnv,hb1⟩);have HNV:=aa hnv;have HBL:=aa (ab HB2.o hb1);have HOL:=aa (dU HO2.o hb1);have HBX3:=aa (br hb1 HBX2.o);have hbz:=HBL.o.size;obtain⟨_,na,nc,rfl,hnn1,hnn2,-⟩:=hnv;have c1:=aB (k:=4) HBX3.o;simp only[cr]at c1;clear hb1 c0;refine⟨c1, ?_⟩
       refine an 6 rfl (by kernel_rfl) rfl (fun K hK=> ?_);go_wp2_with (at_builtin; go_must (refine bD Tryz.appBytes rfl _ _ rfl w.heap.size (.slice ao acc.length co) acc.length (acc.map ak) rfl HOL.o _ (aw s.size).length ((aw s.size).map ak) rfl HNV.o (ci _) (by omega) hbz ?_); intro v' wc hown' hgrow');have HBX4:=aa ((hgrow'.block wr.heap.size (lt_of_block HBX3.o) (fun e=>by have:=(HO.o.lt _ e.symm).2; omega)).trans HBX3.o)
       have HBL2:=aa (aF HBL.o HOL.o hgrow' (Nat.le_refl _) hbz);have HOL2:=aa (show wc.ownsRow w.heap.size 5 1 v' (acc++aw s.size).length ((acc++aw s.size).map ak) by rw[List.length_append,List.map_append]; exact hown');have hbz2:=HBL2.o.size;obtain⟨ae,ce,rfl,-,-⟩:=ai hown';have c2:=aB (k:=4) HBX4.o;simp only[cr]at c2;have hlen2:(acc++aw s.size).length=acc.length+(aw s.size).length:=List.length_append
       clear hown' hgrow' c1;refine⟨c2, ?_⟩;refine an 9 rfl (by kernel_rfl) rfl (fun K hK=> ?_);have hlt5:(acc++aw s.size).length+s.size<1099511627775:=by omega
       have hvv:Value.slice ae (acc.length+(aw s.size).length) ce= .slice ae (acc++aw s.size).length ce:=by rw[hlen2]
       have HVV:=aa hvv;have HLT5:=aa hlt5;clear hlen2 hlt5 hvv;go_wp2_with (at_builtin; go_must (refine fy rfl _ _ rfl w.heap.size (.slice ae (acc.length+(aw s.size).length) ce) (acc++aw s.size) rfl HOL2.o s rfl HLT5.o hbz2 ?_); intro v' wd hown' hgrow');have HBX5:=aa ((hgrow'.block wr.heap.size (lt_of_block HBX4.o) (fun e=>by
        have h1:=HOL2.o;have h2:=(mN h1 e.symm);obtain⟨cs,h2⟩:=h2;have:=HBX4.o.symm.trans h2;simp at this)).trans HBX4.o)
       have HB3:=aa (aF HBL2.o HOL2.o hgrow' (Nat.le_refl _) hbz2);have HO3:=aa (show wd.ownsRow w.heap.size 5 1 v' (acc.length+(aw s.size++bl s).length) (acc.map ak++(aw s.size++bl s).map ak) by
        have h1:=hown';rw[List.length_append,am,Nat.add_assoc,<-List.length_append,List.map_append,List.append_assoc,<-List.map_append]at h1;exact h1)
       obtain⟨nb,hnb⟩: ∃nb,nb=aw s.size++bl s:=⟨_,rfl⟩;rw[<-hnb]at HO3 HX HBD;clear hnb;obtain⟨af,cf,rfl,-,-⟩:=ai HO3.o;have c3:=aB (k:=4) HBX5.o;simp only[cr]at c3;clear hown' hgrow' c2;refine⟨c3, ?_⟩;refine aJ rfl (by kernel_rfl) (fun _ _ _ h=>h) rfl (by go_simp) (by intro w' hw'; go_simp; rfl) ?_;simp only[Act.put,aZ,bg,bh];refine aM (by kernel_rfl) ?_
       go_wp2_with fail
       go_roundw
       case rel=>exact⟨k+1,acc++nb,by omega,by go_num,by rw[HSN.o]; exact dH HE.o HX.o,by rw[List.length_append,List.map_append]; exact HO3.o,by rw[List.length_append]; exact HBD.o,HB3.o⟩
       case measure=>simp[intOf]; omega
     ·by_cases h6:kd=6
      ·subst h6
       by_cases hs32:s.size=32
       ·have HX:=aa (show fM ⟨6,u,n,b,s,mo⟩= .ok (bl s) by simp[fM,hs32]);have HBD:=aa (show acc.length+(bl s).length<=(k+1)*65556 by rw[<-am]; omega);have e1:((s.size:Int) != 32)=false:=by simp; omega
        have hbz:=HB1.o.size;clear hs32;go_wp2_with (at_builtin; go_must (refine fy rfl _ _ rfl w.heap.size (.slice ao acc.length co) acc rfl HO1.o s rfl (by omega) hbz ?_); intro v' wc hown' hgrow'; have HO3:=aa (show wc.ownsRow w.heap.size 5 1 v' (acc.length+(bl s).length) (acc.map ak++(bl s).map ak) by rw[<-am]; exact hown'); have HB3:=aa (aF HB1.o HO1.o hgrow' (Nat.le_refl _) hbz); obtain⟨ae,ce,rfl,-,-⟩:=ai hown'; clear hown' hgrow')
        go_roundw
        case rel=>exact⟨k+1,acc++(bl s),by omega,by go_num,by rw[HSN.o]; exact dH HE.o HX.o,by rw[List.length_append,List.map_append]; exact HO3.o,by rw[List.length_append]; exact HBD.o,HB3.o⟩
        case measure=>simp[intOf]; omega
       ·have HX:=aa (mE HE.o HG.o (show fM ⟨6,u,n,b,s,mo⟩= .error 1 by simp[fM,hs32]));have e1:((s.size:Int) != 32)=true:=by simp; omega
        clear hs32;go_wp2_with fail
        go_ret2
        exact⟨HB1.o,by unfold sy; rw[HX.o]; exact⟨rfl,by decide⟩⟩
      ·by_cases h7:kd=7
       ·subst h7
        by_cases hn0:n<0
        ·have HX:=aa (mE HE.o HG.o (show fM ⟨7,u,n,b,s,mo⟩= .error 1 by simp[fM,hn0]));go_wp2_with fail
         go_ret2
         exact⟨HB1.o,by unfold sy; rw[HX.o]; exact⟨rfl,by decide⟩⟩
        ·obtain⟨m,rfl⟩: ∃m:Nat,n=(m:Int):=⟨n.toNat,by omega⟩;have HX:=aa (show fM ⟨7,u,(m:Int),b,s,mo⟩= .ok (aw m) by simp[fM]);have HBD:=aa (show acc.length+(aw m).length<=(k+1)*65556 by have:=bm m; omega);have hnl:=bm m;go_wp2_with fail;refine(gB m _ (by omega)).mono ?_;rintro e w1 ⟨nv,rfl,hnv,hb1⟩;have HNV:=aa hnv
         have HBL:=aa (ab HB1.o hb1);have HOL:=aa (dU HO1.o hb1);have hbz:=HBL.o.size;obtain⟨_,na,nc,rfl,hnn1,hnn2,-⟩:=hnv;clear hb1 q0 q1 q2 q3 q4 q5;go_wp2_with (at_builtin; go_must (refine bD Tryz.appBytes rfl _ _ rfl w.heap.size (.slice ao acc.length co) acc.length (acc.map ak) rfl HOL.o _ (aw m).length ((aw m).map ak) rfl HNV.o (ci _) (by omega) hbz ?_); intro v' wc hown' hgrow'; have HO3:=aa hown'; have HB3:=aa (aF HBL.o HOL.o hgrow' (Nat.le_refl _) hbz); obtain⟨ae,ce,rfl,-,-⟩:=ai hown'; clear hown' hgrow')
         go_roundw
         case rel=>exact⟨k+1,acc++(aw m),by omega,by go_num,by rw[HSN.o]; exact dH HE.o HX.o,by rw[List.length_append,List.map_append]; exact HO3.o,by rw[List.length_append]; exact HBD.o,HB3.o⟩
         case measure=>simp[intOf]; omega
       ·have HX:=aa (show fM ⟨kd,u,n,b,s,mo⟩= .ok [] by simp only[fM,if_neg h1,if_neg h3,if_neg h4,if_neg h6,if_neg h7]);have HBD:=aa (show acc.length+([]:List UInt8).length<=(k+1)*65556 from Nat.le_trans hal (Nat.mul_le_mul_right _ (Nat.le_succ k)));have h4a: ¬kd=4:=fun e=>h4 (.inl e)
        have h5a: ¬kd=5:=fun e=>h4 (.inr e)
        have e1:(kd == 1)=false:=by simpa using h1
        have e2:(kd == 2)=false:=by simpa using hk2
        have e3:(kd == 3)=false:=by simpa using h3
        have e4:(kd == 4)=false:=by simpa using h4a
        have e5:(kd == 5)=false:=by simpa using h5a
        have e6:(kd == 6)=false:=by simpa using h6
        have e7:(kd == 7)=false:=by simpa using h7
        have HO3:=aa (show World.ownsRow (wr.alloc (.cells #[.int .i64 kd, .int .u64 (u:Int), .int .i64 n, .bool b, .string s, .int .i64 mo] 96)) w.heap.size 5 1 (.slice ao acc.length co) (acc.length+([]:List UInt8).length) (acc.map ak++([]:List UInt8).map ak) by simpa using HO1.o);have HB3:=HB1;clear h1 h3 h4 h6 h7 hk2 h4a h5a;go_wp2_with fail
        go_roundw
        case rel=>exact⟨k+1,acc++([]:List UInt8),by omega,by go_num,by rw[HSN.o]; exact dH HE.o HX.o,by rw[List.length_append,List.map_append]; exact HO3.o,by rw[List.length_append]; exact HBD.o,HB3.o⟩
        case measure=>simp[intOf]; omega
  ·obtain rfl:k=l.length:=by omega
   have HEL:=aa (show cn l= .ok acc by have:=HE.o; rwa [List.take_of_length_le (Nat.le_refl _)]at this)
   by_cases hbig:1048576<acc.length
   ·have HX:=aa (show sy l= .error 2 by unfold sy; rw[HEL.o]; simp only[if_pos hbig]);go_wp2_with fail
    go_ret2
    exact⟨HB.o,by rw[HX.o]; exact⟨rfl,by decide⟩⟩
   ·have HX:=aa (show sy l= .ok acc by unfold sy; rw[HEL.o]; simp only[if_neg hbig]);go_wp2_with fail
    go_ret2
    exact⟨HB.o,by rw[HX.o]; exact⟨_,rfl,HO.o⟩⟩
def rvV (x:dZ):Value:= .agg #[.int .i64 x.kind, .int .u64 (x.u:Int), .int .i64 x.n, .bool x.b, .string x.s, .int .i64 x.most]
def dx (n:Int):dZ:=⟨1,(n%18446744073709551616).toNat,0,false,⟨#[]⟩,0⟩
def At (s:ByteArray):dZ:=⟨6,0,0,false,s,0⟩
def iR (s:ByteArray):dZ:=⟨5,0,0,false,s,0⟩
def et (n:Nat):dZ:=⟨7,0,(n:Int),false,⟨#[]⟩,0⟩
def bF (r:aV):List dZ:=[At r.name,dx r.gen,dx r.size]
theorem jh (n:Int):ss (dx n):=⟨by simp only[dx]; omega,by simp[dx],by simp only[dx]; decide,by simp[dx]⟩
theorem Iy {s:ByteArray} (h:s.size<=65536):ss (At s):=⟨by simp[At],by simp[At],h,by simp[At]⟩
theorem nV {s:ByteArray} (h:s.size<=65536):ss (iR s):=⟨by simp[iR],by simp[iR],h,by simp[iR]⟩
theorem tn {n:Nat} (h:n<=1000000):ss (et n):=⟨by simp[et],by simp only[et]; omega,by simp only[et]; decide,by simp[et]⟩
theorem ks {r:aV} (h:r.name.size<=65536): ∀x∈bF r,ss x:=by
 intro x hx;simp only[bF,List.mem_cons,List.not_mem_nil,or_false]at hx
 rcases hx with rfl | rfl | rfl
 ·exact Iy h
 ·exact jh _
 ·exact jh _
theorem vG : ∀ {l:List dZ},(∀x∈l,ss x)->bR GA (l.flatMap mP) l
 | [],_=>rfl
 | x::l,h=>⟨mP x,l.flatMap mP,rfl,⟨rfl,h x (by simp)⟩,vG (fun y hy=>h y (by simp[hy]))⟩
theorem wrap_u64 (n:Int):IntKind.u64.wrap n=((n%18446744073709551616).toNat:Int):=by rw[IntKind.wrap_u64]; omega
theorem fS (n:Int) (w:World):Calls Tryz.prog 55 #[.int .i64 n] w fun e w'=>e= .returned (rvV (dx n))/\Below w.heap.size w w':=by
 have hw:=wrap_u64 n;obtain⟨m,hm⟩: ∃m:Nat,m=(n%18446744073709551616).toNat:=⟨_,rfl⟩;have hnv:dx n=⟨1,m,0,false,⟨#[]⟩,0⟩:=by rw[hm]; rfl
 rw[<-hm]at hw;have HN:=aa hnv;clear hm hnv
 go_enter Tryz.func55,Tryz.ntmps55
 go_wp2_with fail;exact bodyPost_ret (v:= .agg #[.int .i64 1, .int .u64 (m:Int), .int .i64 0, .bool false, .string ⟨#[]⟩, .int .i64 0]) (by simp[results,Tryz.results55,go_sem]) rfl ⟨by rw[HN.o]; rfl,bH⟩
def IQ (l:List dZ) (w:World) (e:Ending) (w':World):Prop:= ∃v,e= .returned v/\sX (w.heap.size<= ·) w' v l/\Below w.heap.size w w'
theorem kL (r:aV) (w:World) (hs:r.name.size<=65536):Calls Tryz.prog 56 #[bU r] w (IQ (bF r) w):=by
 have HB:=aa ((Below.refl w.heap.size w).alloc (Nat.le_refl _) (.cells #[.string r.name, .int .i64 r.gen, .int .i64 r.size] 26));have HBX:=aa (heap_alloc_new w (.cells #[.string r.name, .int .i64 r.gen, .int .i64 r.size] 26));have HOK:=aa (ks hs);unfold bU;clear hs
 go_enter Tryz.func56,Tryz.ntmps56
 go_wp2_with fail;refine bE (fun w'=>w'.cell? ⟨w.heap.size,0,none⟩=some (.string r.name)/\w'.cell? ⟨w.heap.size,1,none⟩=some (.int .i64 r.gen)/\w'.cell? ⟨w.heap.size,2,none⟩=some (.int .i64 r.size)) (by kernel_rfl) ?_;obtain⟨W,hW⟩: ∃W:World,W=(w.alloc (.cells #[.string r.name, .int .i64 r.gen, .int .i64 r.size] 26)).drew:=⟨_,rfl⟩;rw[<-hW];have HB1:=aa (show Below w.heap.size w W by rw[hW]; exact HB.o.drew)
 have HBX1:=aa (show W.heap[w.heap.size]? =some (.cells #[.string r.name, .int .i64 r.gen, .int .i64 r.size] 26 (0,0)) by rw[hW]; exact HBX.o);clear hW HB HBX;obtain⟨c0,c1,c2,_⟩:=aj HBX1.o;simp only[Nat.zero_add,Nat.reduceAdd]at c1 c2
 iterate 5 (refine aJ rfl (by kernel_rfl) (fun _ _ _ h=>h) rfl (by go_simp) (by rintro w' ⟨hw1,hw2,hw3⟩; go_simp; rfl) ?_; simp only[Act.put,aZ,bg,bh])
 refine ay 6 rfl (by kernel_rfl) (by kernel_rfl) (by kernel_rfl) (fun _ _ _ h=>h) rfl (by go_simp) (by rintro w' ⟨hw1,hw2,hw3⟩; go_simp; rfl) ?_;simp only[Act.put,aZ,bg,bh];refine ay 7 rfl (by kernel_rfl) (by kernel_rfl) (by kernel_rfl) (fun _ _ _ h=>h) rfl (by go_simp) (by rintro w' ⟨hw1,hw2,hw3⟩; go_simp; rfl) ?_;simp only[Act.put,aZ,bg,bh];refine an 5 rfl (by kernel_rfl) rfl (fun K hK=> ?_)
 go_wp2_with (go_at_call 55; refine(fS r.gen _).mono ?_; rintro e w1 ⟨rfl,hb1⟩);have HB2:=aa (ab HB1.o hb1);have HBX2:=aa (br hb1 HBX1.o);clear hb1 c0 c1 c2;obtain⟨c0,c1,c2,_⟩:=aj HBX2.o;simp only[Nat.zero_add,Nat.reduceAdd]at c1 c2;refine⟨⟨c0,c1,c2⟩, ?_⟩;refine an 8 rfl (by kernel_rfl) rfl (fun K hK=> ?_);go_wp2_with (go_at_call 55; refine(fS r.size _).mono ?_; rintro e w2 ⟨rfl,hb2⟩)
 have HB3:=aa (ab HB2.o hb2);have HBX3:=aa (br hb2 HBX2.o);clear hb2 c0 c1 c2;obtain⟨c0,c1,c2,_⟩:=aj HBX3.o;simp only[Nat.zero_add,Nat.reduceAdd]at c1 c2;refine⟨⟨c0,c1,c2⟩, ?_⟩;refine an 9 rfl (by kernel_rfl) rfl (fun K hK=> ?_);unfold rvV;go_wp2_with fail;have hlt:=lt_of_block HBX3.o;have hcells:(#[Value.int .i64 6, .int .u64 0, .int .i64 0, .bool false, .string r.name, .int .i64 0, .int .i64 (dx r.gen).kind, .int .u64 (dx r.gen).u, .int .i64 (dx r.gen).n, .bool (dx r.gen).b, .string (dx r.gen).s, .int .i64 (dx r.gen).most, .int .i64 (dx r.size).kind, .int .u64 (dx r.size).u, .int .i64 (dx r.size).n, .bool (dx r.size).b, .string (dx r.size).s, .int .i64 (dx r.size).most]:Array Value)=((bF r).flatMap mP).toArray:=rfl
 rw[hcells];obtain⟨w3,hw3⟩: ∃w3:World,w3=w2.alloc (.cells ((bF r).flatMap mP).toArray 96):=⟨_,rfl⟩;have HAL:=aa (show Below w2.heap.size w2 w3 by rw[hw3]; exact bH);have HR:=aa (show sX (w.heap.size<= ·) w3 (.slice (some ⟨w2.heap.size,0,none⟩) 3 3) (bF r) by
  have h1:=aO (World.ownsRow_lit (base:=w2.heap.size) (e:=96) (size:=6) w2 ((bF r).flatMap mP).toArray 3 (Nat.le_refl _) (by unfold maxLen; omega) rfl);rw[hw3];exact⟨_,h1.weak (fun k hk=>Nat.le_trans HB3.o.size hk.1),vG HOK.o⟩)
 rw[<-hw3];clear hw3 hcells;refine⟨⟨(HAL.o.cell hlt).trans c0,(HAL.o.cell hlt).trans c1,(HAL.o.cell hlt).trans c2⟩, ?_⟩;refine aJ rfl (by kernel_rfl) (fun _ _ _ h=>h) rfl ⟨(HAL.o.cell hlt).trans c0,(HAL.o.cell hlt).trans c1,(HAL.o.cell hlt).trans c2⟩ (by rintro w' ⟨hw1,hw2,hw3⟩; go_simp; rfl) ?_;simp only[Act.put,aZ,bg,bh];refine aM (by kernel_rfl) ?_;go_wp2_with fail;go_ret
 exact⟨_,rfl,HR.o,ab HB3.o HAL.o⟩
theorem set3 {w:World} {b:Nat} {a0 a1 a2 x0 x1 x2:Value} {t:TypeId} (h:w.heap[b]? =some (.cells #[a0,a1,a2] t (0,0))):
  (((w.setCell ⟨b,0,none⟩ x0).setCell ⟨b,1,none⟩ x1).setCell ⟨b,2,none⟩ x2).heap[b]? =some (.cells #[x0,x1,x2] t (0,0)):=dD (dD (dD h x0) x1) x2
def cC (it:aI):List dZ:=
 [iR it.name,dx it.kind,dx it.mode,dx it.time]++
  (if it.kind=1 then et it.chunks.length::it.chunks.flatMap bF else if it.kind=2 then bF it.node else [iR it.link])
def fY (l:List aI) (k:Nat):List dZ:=et l.length::(l.take k).flatMap cC
def di (l:List aI):List dZ:=et l.length::l.flatMap cC
theorem pB {l:List aI} {k:Nat} {it:aI} (h:l[k]? =some it):fY l (k+1)=fY l k++cC it:=by
 unfold fY;obtain⟨hk,rfl⟩:=List.getElem?_eq_some_iff.1 h;rw[List.take_succ_eq_append_getElem hk,List.flatMap_append]; simp
theorem AC (l:List aI):fY l l.length=di l:=by unfold fY di; rw[List.take_of_length_le (Nat.le_refl _)]
theorem DU (l:List aI) (k:Nat):(fY l k).length<=(di l).length:=by
 unfold fY di;have h:l.flatMap cC=(l.take k).flatMap cC++(l.drop k).flatMap cC:=by rw[<-List.flatMap_append,List.take_append_drop]
 rw[h];simp
structure pL (it : aI) : Prop where
 nm:it.name.size<=65536
 lk:it.link.size<=65536
 nd:it.node.name.size<=65536
 ch: ∀c∈it.chunks,c.name.size<=65536
def nF (l:List aI):List UInt8:=match sy (di l)with
 | .error _=>[]
 | .ok b=>b
structure uO (w : World) (xb : Nat) (cs : Array Value) (wq : World) (lv : Value) (vals : List dZ) : Prop where
 row:wq.ownsRow w.heap.size 96 6 lv vals.length (vals.flatMap mP)
 box:wq.heap[xb]? =some (.cells cs 28 (0,0))
 below:Below w.heap.size w wq
section
variable {w wq w' : World} {xb : Nat} {cs : Array Value} {lv v' : Value} {vals news : List dZ}
theorem uO.next (h:uO w xb cs wq lv vals) (hb:Below wq.heap.size wq w'):uO w xb cs w' lv vals:=
 ⟨dU h.row hb,(hb.block xb (lt_of_block h.box)).trans h.box,ab h.below hb⟩
theorem uO.app (h:uO w xb cs wq lv vals) (ho:w'.ownsRow w.heap.size 96 6 v' (vals.length+news.length) (vals.flatMap mP++news.flatMap mP)) (hg:wq.grownBy w' lv.ownBlock):uO w xb cs w' v' (vals++news):=by
 refine⟨by rw[List.length_append,List.flatMap_append]; exact ho,(hg.block xb (lt_of_block h.box) (fun e=> ?_)).trans h.box,aF h.below h.row hg (Nat.le_refl _) h.below.size⟩;obtain⟨c,hc⟩:=mN h.row e.symm;have:=h.box.symm.trans hc;simp at this
end
theorem Tryz.appVals :eH Tryz.prog 97 96 6 56:=eH.mk' (z:= .agg #[.int .i64 0, .int .u64 0, .int .i64 0, .bool false, .string ⟨#[]⟩, .int .i64 0]) Tryz.underlying97 (by kernel_rfl) rfl (by decide) (by decide)
theorem nP {l:List dZ} : ∀u∈l.flatMap mP,u.oneCell'=true:=by
 intro u hu;obtain⟨x,_,hx⟩:=List.mem_flatMap.1 hu;simp only[mP,List.mem_cons,List.not_mem_nil,or_false]at hx
 rcases hx with rfl | rfl | rfl | rfl | rfl | rfl<;> rfl
theorem bI.lts {S:Nat->Prop} {w:World} {v:Value} {l:List aI} (h:bI S w v l):bI (· <w.heap.size) w v l:=by
 obtain⟨cells,hr,hin⟩:=h;exact⟨cells,hr.mono (fun k hk hS=>hk) (by omega),hin.mono (fun c x _ ⟨cv,h1,⟨cells,h2,h3⟩,h4⟩=>⟨cv,h1,⟨cells,h2.mono (fun k hk _=>hk) (by omega),h3⟩,h4⟩)⟩
theorem jm : ∀(l:List aV),(l.flatMap bF).length=3*l.length
 | []=>rfl
 | x::l=>by rw[List.flatMap_cons,List.length_append,jm l,List.length_cons]; simp[bF]; omega
def Bn (it:aI):List dZ:=[iR it.name,dx it.kind,dx it.mode,dx it.time]
theorem pj {it:aI} (h:it.kind=1):cC it=Bn it++(et it.chunks.length::it.chunks.flatMap bF):=by unfold cC Bn; rw[if_pos h]
theorem zt {it:aI} (h:it.kind=2):cC it=Bn it++bF it.node:=by unfold cC Bn; rw[if_neg (by omega),if_pos h]
theorem xc {it:aI} (h1: ¬it.kind=1) (h2: ¬it.kind=2):cC it=Bn it++[iR it.link]:=by unfold cC Bn; rw[if_neg h1,if_neg h2]
theorem GT (it:aI):(Bn it).length=4:=rfl
theorem CA {it:aI} (h:pL it) (hc:it.chunks.length<=1000000): ∀x∈cC it,ss x:=by
 intro x hx;unfold cC at hx
 rcases List.mem_append.1 hx with hx | hx
 ·simp only[List.mem_cons,List.not_mem_nil,or_false]at hx
  rcases hx with rfl | rfl | rfl | rfl
  ·exact nV h.nm
  ·exact jh _
  ·exact jh _
  ·exact jh _
 ·split at hx
  ·rcases List.mem_cons.1 hx with rfl | hx
   ·exact tn hc
   ·obtain⟨c,hc1,hc2⟩:=List.mem_flatMap.1 hx;exact ks (h.ch c hc1) x hc2
  ·split at hx
   ·exact ks h.nd x hx
   ·simp only[List.mem_singleton]at hx; subst hx; exact nV h.lk
theorem xG {l:List aI} (hs: ∀it∈l,pL it) (hl:l.length<=1000000) (hn:(di l).length<=1000000): ∀x∈di l,ss x:=by
 intro x hx;unfold di at hx
 rcases List.mem_cons.1 hx with rfl | hx
 ·exact tn hl
 ·obtain⟨it,h1,h2⟩:=List.mem_flatMap.1 hx
  by_cases hk:it.kind=1
  ·refine CA (hs it h1) ?_ x h2;have h3:(cC it).length<=(l.flatMap cC).length:=by
    obtain⟨a,b,rfl⟩:=List.append_of_mem h1;rw[List.flatMap_append,List.flatMap_cons,List.length_append,List.length_append]; omega
   have h4:it.chunks.length<=(cC it).length:=by rw[pj hk,List.length_append,List.length_cons,jm]; omega
   unfold di at hn;rw[List.length_cons]at hn;omega
  ·unfold cC at h2;rw[if_neg hk]at h2
   rcases List.mem_append.1 h2 with hx | hx
   ·simp only[List.mem_cons,List.not_mem_nil,or_false]at hx
    rcases hx with rfl | rfl | rfl | rfl
    ·exact nV (hs it h1).nm
    ·exact jh _
    ·exact jh _
    ·exact jh _
   ·split at hx
    ·exact ks (hs it h1).nd x hx
    ·simp only[List.mem_singleton]at hx; subst hx; exact nV (hs it h1).lk
theorem BJ {S:Nat->Prop} {w:World} {v:Value} {l:List dZ} (h:sX S w v l):aL S w 6 v l.length (l.flatMap mP):=by
 obtain⟨cells,h1,h2⟩:=h;have: ∀(l:List dZ) (cells:List Value),bR GA cells l->cells=l.flatMap mP:=by
  intro l
  induction l with
  | nil=>intro cells h; exact h
  | cons x l ih=>
   rintro cells ⟨c,rest,rfl,⟨rfl,_⟩,hr⟩;rw[ih rest hr]; rfl
 rw[<-this l cells h2]; exact h1
def fR (v4:List dZ) (cs:List aV) (j:Nat):List dZ:=v4++(et cs.length::(cs.take j).flatMap bF)
theorem wP {v4:List dZ} {cs:List aV} {j:Nat} {c:aV} (h:cs[j]? =some c):fR v4 cs (j+1)=fR v4 cs j++bF c:=by
 unfold fR;rw[bS h,List.flatMap_append]; simp
theorem zi (v4:List dZ) (cs:List aV):fR v4 cs cs.length=v4++(et cs.length::cs.flatMap bF):=by unfold fR; rw[List.take_of_length_le (Nat.le_refl _)]
theorem Ct (v4:List dZ) (cs:List aV) (j:Nat):(fR v4 cs j).length<=(v4++(et cs.length::cs.flatMap bF)).length:=by
 unfold fR;rw[List.length_append,List.length_append,List.length_cons,List.length_cons,jm,jm,List.length_take];omega
def AO (l:List aI) (w:World) (e:Ending) (w':World):Prop:= ∃v,e= .returned v/\w'.ownsRow w.heap.size 5 1 v (nF l).length ((nF l).map ak)/\Below w.heap.size w w'
theorem Da {w:World} {base base' size n:Nat} {e:TypeId} {v:Value} {xs:List Value} (h:w.ownsRow base e size v n xs) (hb:base'<=base):w.ownsRow base' e size v n xs:=
 ⟨h.1,h.2.imp id (fun⟨g,cap,cur,e1,h1,h2⟩=>⟨g,cap,cur,e1,Nat.le_trans hb h1,h2⟩)⟩
theorem zM (S:Nat->Prop) (v:Value) (l:List aI) (w:World) (hv:bI S w v l) (hs: ∀it∈l,pL it) (hl:(di l).length<=1000000) (hll:l.length<=1000000):Calls Tryz.prog 17 #[v] w (AO l w):=by
 obtain⟨a,cap,rfl,hc,hm,-⟩:=aU.shape hv fH.len;unfold maxLen at hm;have HV:=aa hv.lts;have HS:=aa hs;have HL:=aa hl;have HO0:=aa (World.ownsRow_lit (e:=96) (size:=6) (base:=w.heap.size) w #[.int .i64 7, .int .u64 0, .int .i64 (l.length:Int), .bool false, .string ⟨#[]⟩, .int .i64 0] 1 (Nat.le_refl _) (by unfold maxLen; omega) rfl);have HB0:=aa ((Below.refl w.heap.size w).alloc (Nat.le_refl _) (.cells #[.int .i64 7, .int .u64 0, .int .i64 (l.length:Int), .bool false, .string ⟨#[]⟩, .int .i64 0] 96))
 clear hv hs hl
 go_enter Tryz.func17,Tryz.ntmps17
 go_wp2_with fail
 go_loopw [3,4] (fun lv i wr=> ∃(k:Nat),k<=l.length/\i= .int .i64 k/\wr.ownsRow w.heap.size 96 6 lv (fY l k).length ((fY l k).flatMap mP)/\Below w.heap.size w wr) (fun _ i _=>l.length-(intOf i).toNat)
 case atStart=>exact⟨0,Nat.zero_le _,rfl,HO0.o,HB0.o⟩
 case round=>
  obtain⟨k,hk,rfl,hown,hb⟩:=hrel;have HO:=aa hown;have HB:=aa hb;obtain⟨ao,co,rfl,hn1,hn2⟩:=ai hown;clear hown hb HO0 HB0
  by_cases hlt:k<l.length
  ·obtain⟨it,hit⟩: ∃it,l[k]? =some it:=⟨l[k],by simp[hlt]⟩;obtain⟨b,o,ca,cc,rfl,hok,hrf,-,-,hcl⟩:=gG HV.o HB.o hit;have HIS:=aa (HS.o it (List.mem_of_getElem? hit));have HSN:=aa (pB hit);have HLE:=aa (show(fY l k++cC it).length<=1000000 by rw[<-pB hit]; exact Nat.le_trans (DU _ _) HL.o);have q0:=hcl 0 (by omega);have q1:=hcl 1 (by omega)
   have q2:=hcl 2 (by omega);have q3:=hcl 3 (by omega);have q4:=hcl 4 (by omega);have q5:=hcl 5 (by omega);have q6:=hcl 6 (by omega);have q7:=hcl 7 (by omega);have q8:=hcl 8 (by omega);have q9:=hcl 9 (by omega);simp only[cg,vN,Nat.add_zero]at q0 q1 q2 q3 q4 q5 q6 q7 q8 q9;obtain⟨W,hW⟩: ∃W:World,W=wr.alloc (.cells #[.string it.name, .int .i64 it.kind, .int .i64 it.mode, .int .i64 it.time, .int .i64 it.size, .string it.link, .slice ca it.chunks.length cc, .string it.node.name, .int .i64 it.node.gen, .int .i64 it.node.size] 28):=⟨_,rfl⟩
   have HAL:=aa (show Below wr.heap.size wr W by rw[hW]; exact bH);have HN1:=aa (show uO w wr.heap.size #[.string it.name, .int .i64 it.kind, .int .i64 it.mode, .int .i64 it.time, .int .i64 it.size, .string it.link, .slice ca it.chunks.length cc, .string it.node.name, .int .i64 it.node.gen, .int .i64 it.node.size] W (.slice ao (fY l k).length co) (fY l k)from⟨dU HO.o HAL.o,by rw[hW]; exact heap_alloc_new wr _,ab HB.o HAL.o⟩)
   have HRF:=aa hrf;have hol:=hok;clear hit hcl hok hol hrf;obtain⟨vk,hvk⟩: ∃vk,vk=fY l k:=⟨_,rfl⟩;rw[<-hvk]at HSN HLE HN1 hn1 ⊢;clear hvk
   go_upto_region 6 with(fail)
   rw[<-hW];clear hW q0 q1 q2 q3 q4 q5 q6 q7 q8 q9 HO;refine bE (fun w'=>w'.cell? ⟨wr.heap.size,0,none⟩=some (.string it.name)/\w'.cell? ⟨wr.heap.size,1,none⟩=some (.int .i64 it.kind)/\w'.cell? ⟨wr.heap.size,2,none⟩=some (.int .i64 it.mode)/\w'.cell? ⟨wr.heap.size,3,none⟩=some (.int .i64 it.time)) (by kernel_rfl) ?_;obtain⟨W2,hW2⟩: ∃W2:World,W2=W.drew:=⟨_,rfl⟩
   rw[<-hW2];have HN2:=aa (HN1.o.next (show Below W.heap.size W W2 by rw[hW2]; exact(Below.refl _ _).drew));clear hW2 HN1;obtain⟨c0,c1,c2,c3,_⟩:=aj HN2.o.box;simp only[Nat.zero_add,Nat.reduceAdd]at c1 c2 c3
   iterate 6 (refine aJ rfl (by kernel_rfl) (fun _ _ _ h=>h) rfl (by go_simp) (by rintro w' ⟨hw1,hw2,hw3,hw4⟩; go_simp; rfl) ?_; simp only[Act.put,aZ,bg,bh])
   refine ay 7 rfl (by kernel_rfl) (by kernel_rfl) (by kernel_rfl) (fun _ _ _ h=>h) rfl (by go_simp) (by rintro w' ⟨hw1,hw2,hw3,hw4⟩; go_simp; rfl) ?_;simp only[Act.put,aZ,bg,bh];refine ay 8 rfl (by kernel_rfl) (by kernel_rfl) (by kernel_rfl) (fun _ _ _ h=>h) rfl (by go_simp) (by rintro w' ⟨hw1,hw2,hw3,hw4⟩; go_simp; rfl) ?_;simp only[Act.put,aZ,bg,bh];refine ay 10 rfl (by kernel_rfl) (by kernel_rfl) (by kernel_rfl) (fun _ _ _ h=>h) rfl (by go_simp) (by rintro w' ⟨hw1,hw2,hw3,hw4⟩; go_simp; rfl) ?_
   simp only[Act.put,aZ,bg,bh];refine ay 11 rfl (by kernel_rfl) (by kernel_rfl) (by kernel_rfl) (fun _ _ _ h=>h) rfl (by go_simp) (by rintro w' ⟨hw1,hw2,hw3,hw4⟩; go_simp; rfl) ?_;simp only[Act.put,aZ,bg,bh];refine an 6 rfl (by kernel_rfl) rfl (fun K hK=> ?_);go_wp2_with (go_at_call 55; refine(fS it.kind _).mono ?_; rintro e w1 ⟨rfl,hb1⟩);have HN3:=aa (HN2.o.next hb1)
   clear hb1 c0 c1 c2 c3;obtain⟨c0,c1,c2,c3,_⟩:=aj HN3.o.box;simp only[Nat.zero_add,Nat.reduceAdd]at c1 c2 c3;refine⟨⟨c0,c1,c2,c3⟩, ?_⟩;refine an 9 rfl (by kernel_rfl) rfl (fun K hK=> ?_);go_wp2_with (go_at_call 55; refine(fS it.mode _).mono ?_; rintro e w2 ⟨rfl,hb2⟩);have HN4:=aa (HN3.o.next hb2);clear hb2 c0 c1 c2 c3;obtain⟨c0,c1,c2,c3,_⟩:=aj HN4.o.box
   simp only[Nat.zero_add,Nat.reduceAdd]at c1 c2 c3;refine⟨⟨c0,c1,c2,c3⟩, ?_⟩;refine an 12 rfl (by kernel_rfl) rfl (fun K hK=> ?_);go_wp2_with (go_at_call 55; refine(fS it.time _).mono ?_; rintro e w3 ⟨rfl,hb3⟩);have HN5:=aa (HN4.o.next hb3);clear hb3 c0 c1 c2 c3;obtain⟨c0,c1,c2,c3,_⟩:=aj HN5.o.box;simp only[Nat.zero_add,Nat.reduceAdd]at c1 c2 c3;refine⟨⟨c0,c1,c2,c3⟩, ?_⟩
   refine an 13 rfl (by kernel_rfl) rfl (fun K hK=> ?_);unfold rvV;go_wp2_with fail;have hcells:(#[Value.int .i64 5, .int .u64 0, .int .i64 0, .bool false, .string it.name, .int .i64 0, .int .i64 (dx it.kind).kind, .int .u64 (dx it.kind).u, .int .i64 (dx it.kind).n, .bool (dx it.kind).b, .string (dx it.kind).s, .int .i64 (dx it.kind).most, .int .i64 (dx it.mode).kind, .int .u64 (dx it.mode).u, .int .i64 (dx it.mode).n, .bool (dx it.mode).b, .string (dx it.mode).s, .int .i64 (dx it.mode).most, .int .i64 (dx it.time).kind, .int .u64 (dx it.time).u, .int .i64 (dx it.time).n, .bool (dx it.time).b, .string (dx it.time).s, .int .i64 (dx it.time).most]:Array Value)=((Bn it).flatMap mP).toArray:=rfl
   rw[hcells];obtain⟨w4,hw4⟩: ∃w4:World,w4=w3.alloc (.cells ((Bn it).flatMap mP).toArray 96):=⟨_,rfl⟩;have HN6:=aa (HN5.o.next (show Below w3.heap.size w3 w4 by rw[hw4]; exact bH));have HNW:=aa (show aL (w.heap.size<= ·) w4 6 (.slice (some ⟨w3.heap.size,0,none⟩) 4 4) 4 ((Bn it).flatMap mP) by
    have h1:=aO (World.ownsRow_lit (base:=w3.heap.size) (e:=96) (size:=6) w3 ((Bn it).flatMap mP).toArray 4 (Nat.le_refl _) (by unfold maxLen; omega) rfl);rw[hw4];exact h1.weak (fun k hk=>Nat.le_trans HN5.o.below.size hk.1))
   rw[<-hw4];clear hw4 hcells HN2 HN3 HN4 HN5 c0 c1 c2 c3;obtain⟨c0,c1,c2,c3,_⟩:=aj HN6.o.box;simp only[Nat.zero_add,Nat.reduceAdd]at c1 c2 c3;have hll2:vk.length+4<=1000000:=by
    have h1:=HLE.o;rw[List.length_append]at h1;have h2:4<=(cC it).length:=by unfold cC; simp
    omega
   have hbz:=HN6.o.below.size;refine⟨⟨c0,c1,c2,c3⟩, ?_⟩;refine an 14 rfl (by kernel_rfl) rfl (fun K hK=> ?_);go_wp2_with (at_builtin; go_must (refine bD Tryz.appVals rfl _ _ rfl w.heap.size (.slice ao vk.length co) vk.length (vk.flatMap mP) rfl HN6.o.row _ 4 ((Bn it).flatMap mP) rfl HNW.o nP (by omega) hbz ?_); intro v' wc hown' hgrow');have h7:=HN6.o.app (news:=Bn it) hown' hgrow'
   obtain⟨v4,hv4e⟩: ∃v4,v4=vk++Bn it:=⟨_,rfl⟩;rw[<-hv4e]at h7;have HN7:=aa h7;have HV4:=aa hv4e;have hv4:v4.length<=1000000:=by rw[hv4e,List.length_append,GT]; omega
   clear h7 hv4e;obtain⟨a7,c7',rfl,-,-⟩:=ai HN7.o.row;clear hown' hgrow' c0 c1 c2 c3 HNW HN6 hbz;obtain⟨c0,c1,c2,c3,_⟩:=aj HN7.o.box;simp only[Nat.zero_add,Nat.reduceAdd]at c1 c2 c3;refine⟨⟨c0,c1,c2,c3⟩, ?_⟩;refine aJ rfl (by kernel_rfl) (fun _ _ _ h=>h) rfl (by go_simp) (by rintro w' ⟨hw1,hw2,hw3,hw4⟩; go_simp; rfl) ?_;simp only[Act.put,aZ,bg,bh];refine aM (by kernel_rfl) ?_
   clear c0 c1 c2 c3;have hbz:=HN7.o.below.size
   by_cases hk1:it.kind=1
   ·have HIV:=aa (show vk++cC it=v4++(et it.chunks.length::it.chunks.flatMap bF) by rw[pj hk1,HV4.o,List.append_assoc]);have HFL:=aa (show ∀j,(fR v4 it.chunks j).length<=1000000 from fun j=>Nat.le_trans (Ct v4 it.chunks j) (by rw[<-HIV.o]; exact HLE.o));obtain⟨_,_,hcv,hcc1,hcc2,-⟩:=aU.shape HRF.o lZ.len
    cases hcv
    unfold maxLen at hcc2;have e1:(it.kind == 1)=true:=by simpa using hk1
    clear hk1;obtain⟨c0,c1,c2,c3,c4,c5,c6,c7,c8,c9,_⟩:=aj HN7.o.box;simp only[Nat.zero_add,Nat.reduceAdd]at c1 c2 c3 c4 c5 c6 c7 c8 c9;go_wp2_with (at_builtin; go_must (refine dq Tryz.appVals rfl _ _ rfl w.heap.size (.slice a7 v4.length c7') v4.length (v4.flatMap mP) rfl wc (mP (et it.chunks.length)) _ rfl rfl (by have:=nP (l:=[et it.chunks.length]); simpa using this) HN7.o.row (by omega) hbz ?_); intro v' wd hown' hgrow' _; have h8:=HN7.o.app (news:=[et it.chunks.length]) (by simpa using hown') hgrow'; have HN8:=aa (show uO w wr.heap.size _ wd v' (fR v4 it.chunks 0)from h8); obtain⟨a8,c8',rfl,-,-⟩:=ai HN8.o.row; clear hown' hgrow' h8)
    clear c0 c1 c2 c3 c4 c5 c6 c7 c8 c9;obtain⟨wo,hwo⟩: ∃wo:World,wo=wr:=⟨_,rfl⟩;subst hwo
    go_loopw [3,6] (fun lv i wq=> ∃j:Nat,j<=it.chunks.length/\i= .int .i64 j/\uO w wo.heap.size #[.string it.name, .int .i64 it.kind, .int .i64 it.mode, .int .i64 it.time, .int .i64 it.size, .string it.link, .slice ca it.chunks.length cc, .string it.node.name, .int .i64 it.node.gen, .int .i64 it.node.size] wq lv (fR v4 it.chunks j)) (fun _ i _=>it.chunks.length-(intOf i).toNat)
    case atStart=>exact⟨0,Nat.zero_le _,rfl,HN8.o⟩
    case round=>
     obtain⟨j,hj,rfl,hnd⟩:=hrel;have HND:=aa hnd;have hfl:=HFL.o j;have hbq:=hnd.below.size;obtain⟨a9,c9',rfl,-,-⟩:=ai hnd.row;have c6:=aB (k:=6) hnd.box;simp only[cr]at c6;clear hnd HN8 HN7
     by_cases hlt2:j<it.chunks.length
     ·obtain⟨c,hc⟩: ∃c,it.chunks[j]? =some c:=⟨it.chunks[j],by simp[hlt2]⟩;have HRQ:=aa (show bw (fun k=>k<w.heap.size) wr (.slice ca it.chunks.length cc) it.chunks from bw.same HRF.o (fun k hk hS=>⟨hS,(HND.o.below.block k hS).trans (HB.o.block k hS).symm⟩));obtain⟨b2,o2,rfl,hcok,p0,p1,p2⟩:=jn HRQ.o (Below.refl _ _) hc;have HFS:=aa (wP (v4:=v4) hc)
      have HCN:=aa (HIS.o.ch c (List.mem_of_getElem? hc));clear hc hcok;go_wp2_with fail;refine(kL c _ HCN.o).mono ?_;rintro e w8 ⟨rv,rfl,hrv,hb8⟩;have HN9:=aa (HND.o.next hb8);have HRW:=aa (BJ hrv);have hbz8:=HN9.o.below.size;obtain⟨ra,rc,rfl,-,-,-⟩:=aU.shape hrv GA.len;clear hrv hb8 p0 p1 p2 c6;go_wp2_with (at_builtin; go_must (refine bD Tryz.appVals rfl _ _ rfl w.heap.size (.slice a9 (fR v4 it.chunks j).length c9') (fR v4 it.chunks j).length ((fR v4 it.chunks j).flatMap mP) rfl HN9.o.row _ (bF c).length ((bF c).flatMap mP) rfl HRW.o nP (by simp only[bF,List.length_cons,List.length_nil]; omega) hbz8 ?_); intro v' we hown' hgrow'; have h8:=HN9.o.app (news:=bF c) hown' hgrow'; rw[<-HFS.o]at h8; have HNE:=aa h8; obtain⟨ae,ce,rfl,-,-⟩:=ai h8.row; clear hown' hgrow' h8)
      go_roundw
      case rel=>exact⟨j+1,by omega,by go_num,HNE.o⟩
      case measure=>simp[intOf]; omega
     ·obtain rfl:j=it.chunks.length:=by omega
      have HFE:=aa (show vk++cC it=fR v4 it.chunks it.chunks.length by rw[zi,HIV.o]);go_wp2_with fail
      go_roundw
      case rel=>exact⟨k+1,by omega,by go_num,by rw[HSN.o,HFE.o]; exact HND.o.row,HND.o.below⟩
      case measure=>simp[intOf]; omega
   ·by_cases hk2:it.kind=2
    ·have HIV:=aa (show vk++cC it=v4++bF it.node by rw[zt hk2,HV4.o,List.append_assoc]);have e1:(it.kind == 1)=false:=by simpa using hk1
     have e2:(it.kind == 2)=true:=by simpa using hk2
     clear hk1 hk2;obtain⟨c0,c1,c2,c3,c4,c5,c6,c7,c8,c9,_⟩:=aj HN7.o.box;simp only[Nat.zero_add,Nat.reduceAdd]at c1 c2 c3 c4 c5 c6 c7 c8 c9;go_wp2_with fail;refine(kL it.node _ HIS.o.nd).mono ?_;rintro e w8 ⟨rv,rfl,hrv,hb8⟩;have HN8:=aa (HN7.o.next hb8);have HRW:=aa (BJ hrv);have hbz8:=HN8.o.below.size;obtain⟨ra,rc,rfl,-,-,-⟩:=aU.shape hrv GA.len
     clear hrv hb8 c0 c1 c2 c3 c4 c5 c6 c7 c8 c9;go_wp2_with (at_builtin; go_must (refine bD Tryz.appVals rfl _ _ rfl w.heap.size (.slice a7 v4.length c7') v4.length (v4.flatMap mP) rfl HN8.o.row _ (bF it.node).length ((bF it.node).flatMap mP) rfl HRW.o nP (by simp only[bF,List.length_cons,List.length_nil]; omega) hbz8 ?_); intro v' wd hown' hgrow'; have h8:=HN8.o.app (news:=bF it.node) hown' hgrow'; rw[<-HIV.o]at h8; obtain⟨v8,hv8⟩: ∃v8,v8=vk++cC it:=⟨_,rfl⟩; have HV8:=aa hv8; rw[<-hv8]at h8; have HN9:=aa h8; obtain⟨a8,c8',rfl,-,-⟩:=ai h8.row; clear hown' hgrow' h8 hv8)
     go_roundw
     case rel=>exact⟨k+1,by omega,by go_num,by rw[HSN.o,<-HV8.o]; exact HN9.o.row,HN9.o.below⟩
     case measure=>simp[intOf]; omega
    ·have HIV:=aa (show vk++cC it=v4++[iR it.link] by rw[xc hk1 hk2,HV4.o,List.append_assoc]);have e1:(it.kind == 1)=false:=by simpa using hk1
     have e2:(it.kind == 2)=false:=by simpa using hk2
     clear hk1 hk2;obtain⟨c0,c1,c2,c3,c4,c5,c6,c7,c8,c9,_⟩:=aj HN7.o.box;simp only[Nat.zero_add,Nat.reduceAdd]at c1 c2 c3 c4 c5 c6 c7 c8 c9;go_wp2_with (at_builtin; go_must (refine dq Tryz.appVals rfl _ _ rfl w.heap.size (.slice a7 v4.length c7') v4.length (v4.flatMap mP) rfl wc (mP (iR it.link)) _ rfl rfl (by have:=nP (l:=[iR it.link]); simpa using this) HN7.o.row (by omega) hbz ?_); intro v' wd hown' hgrow' _; have h8:=HN7.o.app (news:=[iR it.link]) (by simpa using hown') hgrow'; rw[<-HIV.o]at h8; obtain⟨v8,hv8⟩: ∃v8,v8=vk++cC it:=⟨_,rfl⟩; have HV8:=aa hv8; rw[<-hv8]at h8; have HN8:=aa h8; obtain⟨a8,c8',rfl,-,-⟩:=ai h8.row; clear hown' hgrow' h8 hv8)
     go_roundw
     case rel=>exact⟨k+1,by omega,by go_num,by rw[HSN.o,<-HV8.o]; exact HN8.o.row,HN8.o.below⟩
     case measure=>simp[intOf]; omega
  ·obtain rfl:k=l.length:=by omega
   have HRS:=aa (show sX (fun _=>True) wr (.slice ao (fY l l.length).length co) (di l) by
    have h1:=aO HO.o;have h2:=AC l;rw[h2]at h1 ⊢;exact⟨_,h1.weak (fun _ _=>trivial),vG (xG HS.o (by omega) HL.o)⟩)
   have HLL:=HL;go_wp2_with fail;refine(zh _ _ _ _ HRS.o HLL.o).mono ?_;rintro e w1 ⟨hb1,hres⟩;have HB1:=aa (ab HB.o hb1);have hz:=HB.o.size;clear hb1
   cases hen:sy (di l)with
   | error x=>
    rw[hen]at hres;obtain⟨rfl,hx⟩:=hres;have HX:=aa (show nF l=[] by unfold nF; rw[hen]);clear hen hx;go_wp2_with fail;go_ret;exact⟨_,rfl,by rw[HX.o]; exact World.ownsRow_nil _ _ _ _,HB1.o⟩
   | ok bs=>
    rw[hen]at hres;obtain⟨v,rfl,hv⟩:=hres;have HX:=aa (show nF l=bs by unfold nF; rw[hen]);have HVB:=aa hv;obtain⟨va,vc,rfl,hv1,hv2⟩:=ai hv;clear hv;clear hen;go_wp2_with fail;go_ret;exact⟨_,rfl,by rw[HX.o]; exact Da HVB.o hz,HB1.o⟩
theorem rm : ∀(f n j:Nat),1<=j->n<2^(7*j)->(ik f n).length<=j
 | 0,n,j,hj,_=>by simpa [ik]using hj
 | f+1,n,j,hj,h=>by
  rw[ik]
  by_cases hn:127<n
  ·rw[if_pos hn,List.length_cons];obtain⟨j,rfl⟩: ∃k,j=k+1:=⟨j-1,by omega⟩;have hj1:1<=j:=by
    rcases Nat.eq_zero_or_pos j with e | e
    ·subst e; simp at h; omega
    ·exact e
   have:=rm f (n/128) j hj1 (by
    rw[show 7*(j+1)=7*j+7 by omega,Nat.pow_add]at h;exact Nat.div_lt_of_lt_mul (by omega))
   omega
  ·rw[if_neg hn]; simpa using hj
theorem dI {n:Nat} (h:n<18446744073709551616):(aw n).length<=10:=rm 10 n 10 (by decide) (Nat.lt_trans h (by decide))
theorem ze (n:Nat):1<=(aw n).length:=by
 unfold aw ik; split<;> simp
def Ok (data:List UInt8) (s:RS):Prop:=s.err=0/\s.off<=data.length
def cT (r:aV):List UInt8:=bl r.name++(aw r.gen.toNat++aw r.size.toNat)
theorem jT {r:aV} :gL r=true<->r.name.size=32/\0<=r.gen/\r.gen<=1099511627776/\0<=r.size/\r.size<=32768:=by unfold gL; simp[and_assoc]
theorem yT (l:List UInt8):dm l=(bq l && !l.contains 47):=by
 by_cases h:(47:UInt8)∈l
 ·have h1:l.contains 47=true:=by simpa using h
  have h2:dm l=false:=by unfold dm; rw[h1]; simp
  rw[h1,h2]; simp
 ·have h1:l.contains 47=false:=by simpa using h
  rw[h1];unfold bq;rw[cR 47 l h]
  cases hc:dm l
  ·simp[hc]
  ·have h2:l.length<=64:=by
    unfold dm at hc;simp only[Bool.and_eq_true,decide_eq_true_eq]at hc;exact hc.1.1.1.1.2
   simp[hc]; omega
def ii (it:aI):List UInt8:=
 if it.kind=1 then aw it.chunks.length++it.chunks.flatMap cT else if it.kind=2 then cT it.node else aw it.link.size++bl it.link
def cY (it:aI):List UInt8:=aw it.name.size++(bl it.name++(aw it.kind.toNat++(aw it.mode.toNat++(aw it.time.toNat++ii it))))
def cQ (l:List aI):List UInt8:=aw l.length++l.flatMap cY
structure Ef (it : aI) : Prop where
 val:bq (bl it.name)=true
 nos:(bl it.name).contains 47=false
 md0:0<=it.mode
 md1:it.mode<=511
 tm0:0<=it.time
theorem nt {it:aI} :nW it=true<->Ef it:=by
 unfold nW
 constructor
 ·intro h;simp only[Bool.and_eq_true,decide_eq_true_eq,Bool.not_eq_true']at h;exact⟨h.1.1,h.1.2,h.2.1.1,h.2.1.2,h.2.2⟩
 ·intro h;simp only[Bool.and_eq_true,decide_eq_true_eq,Bool.not_eq_true'];exact⟨⟨h.val,h.nos⟩,⟨h.md0,h.md1⟩,h.tm0⟩
theorem jE {it:aI} (hk:it.kind=1) (h:fg it=true):it.link=⟨#[]⟩/\it.node=bG/\(∀c∈it.chunks,gL c=true/\1<=c.size)/\it.size=gQ it.chunks/\it.size<=1048576:=by
 unfold fg at h;rw[if_pos hk]at h;unfold fA at h;simp only[Bool.and_eq_true,decide_eq_true_eq,List.all_eq_true]at h;refine⟨?_,h.1.2,fun c hc=> ?_,h.2.2.1,h.2.2.2⟩
 ·apply fE
  have:=h.1.1;rw[am]at this;rw[List.eq_nil_of_length_eq_zero this]; rfl
 ·have:=h.2.1 c hc;unfold lC at this;simp only[Bool.and_eq_true,decide_eq_true_eq]at this;exact⟨this.1,by have:=this.2; omega⟩
theorem qj {it:aI} (hk:it.kind=2) (h:fg it=true):it.link=⟨#[]⟩/\it.size=0/\it.chunks=[]/\gL it.node=true:=by
 unfold fg at h;rw[if_neg (by omega),if_pos hk]at h;simp only[Bool.and_eq_true,decide_eq_true_eq]at h;refine⟨?_,h.1.1.2,List.eq_nil_of_length_eq_zero h.1.2,h.2⟩
 apply fE
 have:=h.1.1.1;rw[am]at this;rw[List.eq_nil_of_length_eq_zero this]; rfl
theorem sY {it:aI} (hk:it.kind=3) (h:fg it=true):it.size=0/\it.chunks=[]/\it.node=bG/\1<=it.link.size/\it.link.size<=512/\(bl it.link).contains 0=false:=by
 unfold fg at h;rw[if_neg (by omega),if_neg (by omega),if_pos hk]at h;simp only[Bool.and_eq_true,decide_eq_true_eq,Bool.not_eq_true']at h;exact⟨h.1.1.1,List.eq_nil_of_length_eq_zero h.1.1.2,h.1.2,h.2.1.1,h.2.1.2,h.2.2⟩
theorem oe {it:aI} (h:fg it=true):it.kind=1\/it.kind=2\/it.kind=3:=by
 unfold fg at h
 by_cases h1:it.kind=1
 ·exact .inl h1
 ·by_cases h2:it.kind=2
  ·exact .inr (.inl h2)
  ·by_cases h3:it.kind=3
   ·exact .inr (.inr h3)
   ·rw[if_neg h1,if_neg h2,if_neg h3]at h; cases h
theorem qs {l:List UInt8} (h:bq l=true) (h2:l.contains 47=false):l.length<=64:=by
 have:=yT l;rw[h,h2]at this;unfold dm at this;simp only[Bool.not_false,Bool.and_self,Bool.and_eq_true,decide_eq_true_eq]at this;omega
theorem rV : ∀ {l:List aI} {p:Option ByteArray},eu p l=true-> ∀it∈l,ep it=true
 | it::l,p,h,x,hx=>by
  rw[eu,Bool.and_eq_true,Bool.and_eq_true]at h
  rcases List.mem_cons.1 hx with rfl | hx
  ·exact h.1.1
  ·exact rV h.2 x hx
theorem lX {l:List aI} (h:eq l=true):l.length<=4096/\ ∀it∈l,ep it=true:=by
 unfold eq at h;rw[Bool.and_eq_true,decide_eq_true_eq]at h;exact⟨h.1,rV h.2⟩
open Go Go.RowKit
theorem JG {x:Nat} (h:x<256):x ||| 128=x%128+128:=by
 have: ∀y:Fin 256,y.val ||| 128=y.val%128+128:=by decide
 exact this ⟨x,h⟩
theorem Ch (n:Nat):Value.int .u8 (bits BinOp.or IntKind.u8 ((n:Int)%256) 128)=ak (UInt8.ofNat (n%128+128)):=by
 rw[gp (by omega),show((n:Int)%256)=((n%256:Nat):Int) by omega,show(128:Int)=((128:Nat):Int)from rfl,u8_or_nat _ _ (by omega) (by decide),JG (by omega)]
 congr 2
 omega
theorem Cg {n:Nat} (h:n<256):Value.int .u8 (n:Int)=ak (UInt8.ofNat n):=(gp h).symm
def fZ (w:World) (base:Nat) (v:Value) (acc:List UInt8):Prop:=w.ownsRow base 5 1 v acc.length (acc.map ak)
def IL (base:Nat) (v:Value) (acc:List UInt8) (w:World) (e:Ending) (w':World):Prop:= ∃v',e= .returned v'/\fZ w' base v' acc/\w.grownBy w' v.ownBlock/\(∀k,v'.ownBlock=some k->v.ownBlock=some k\/w.heap.size<=k)
structure Gu (base : Nat) (v : Value) (w : World) (x : Value) (ac : List UInt8) (wr : World) : Prop where
 own:fZ wr base x ac
 grown:w.grownBy wr v.ownBlock
 place: ∀k,x.ownBlock=some k->v.ownBlock=some k\/w.heap.size<=k
theorem Gu.next {base:Nat} {v:Value} {w:World} {x:Value} {ac:List UInt8} {wr wc:World} {v' u:Value} {n:Nat} {b:UInt8} (h:Gu base v w x ac wr) (h1:wc.ownsRow base 5 1 v' (n+1) (ac.map ak++[u])) (h2:wr.grownBy wc x.ownBlock) (h3: ∀k,v'.ownBlock=some k->x.ownBlock=some k\/wr.heap.size<=k)
  (hn:n=ac.length) (hu:u=ak b):Gu base v w v' (ac++[b]) wc:=by
 subst hn hu;refine⟨by unfold fZ; simpa using h1,⟨h2.os.trans h.grown.os,h2.tape.trans h.grown.tape,h2.output.trans h.grown.output,Nat.le_trans h.grown.size h2.size,fun k hk hne=> ?_⟩,fun k hk=> ?_⟩
 ·rw[h2.block k (Nat.lt_of_lt_of_le hk h.grown.size) (fun e=> ?_)]
  ·exact h.grown.block k hk hne
  ·rcases h.place k e.symm with e2 | e2
   ·exact hne e2.symm
   ·omega
 ·rcases h3 k hk with e | e
  ·exact h.place k e
  ·exact .inr (Nat.le_trans h.grown.size e)
theorem mF (base:Nat) (v:Value) (acc:List UInt8) (n:Nat) (w:World) (hv:fZ w base v acc) (hb:base<=w.heap.size) (hl:acc.length<1099511000000) (hn:n<18446744073709551616):
  Calls Tryz.prog 100 #[v, .int .u64 (n:Int)] w (IL base v (acc++aw n) w):=by
 have HV:=aa hv;obtain⟨a0,c0,rfl,h10,h20⟩:=ai hv;clear hv
 go_enter Tryz.func100,Tryz.ntmps100
 go_wp2_with fail
 go_loopw [0,1] (fun x y wr=> ∃(f m:Nat) (ac:List UInt8),y= .int .u64 (m:Int)/\m<18446744073709551616/\m<2^(7*f)/\ac++ik f m=acc++aw n/\Gu base (.slice a0 acc.length c0) w x ac wr) (fun _ y _=>(intOf y).toNat)
 case atStart=>exact⟨10,n,acc,rfl,hn,Nat.lt_trans hn (by decide),rfl,HV.o,ka _ _,fun k hk=> .inl hk⟩
 case round=>
  obtain⟨f,m,ac,rfl,hm,hmf,henc,hinv⟩:=hrel;obtain⟨ax,cx,rfl,h1,h2⟩:=ai hinv.own;obtain⟨xl,hxl⟩: ∃xl,xl=ac.length:=⟨_,rfl⟩;rw[<-hxl]at hinv h1 ⊢;have HI:=aa hinv;have HXL:=aa hxl;have HO:=aa (show wr.ownsRow base 5 1 (.slice ax xl cx) xl (ac.map ak) by have:=hinv.own; unfold fZ at this; rw[<-hxl]at this; exact this);have HE:=aa henc;have HMF:=aa hmf
  have hbz:base<=wr.heap.size:=by have:=hinv.grown.size; omega
  have hlen:=congrArg List.length henc;rw[List.length_append,List.length_append]at hlen;have:=bm n;have hxb:xl<1099511627775:=by omega
  clear hinv henc hmf hlen this hxl
  by_cases hlt:127<m
  ·have HV:=aa (Ch m);have HZ:=aa (show ∀u∈[(Value.int .u8 (bits BinOp.or IntKind.u8 ((m:Int)%256) 128))],u.oneCell'=true by simp[Value.oneCell']);obtain⟨f,rfl⟩: ∃g,f=g+1:=⟨f-1,by
    cases f with
    | zero=>have:=HMF.o; simp at this; omega
    | succ g=>rfl⟩
   have HE2:=aa (show(ac++[UInt8.ofNat (m%128+128)])++ik f (m/128)=acc++aw n by rw[<-HE.o,ik,if_pos hlt]; simp);have HMF2:=aa (show m/128<2^(7*f) by
    have h3:=HMF.o;rw[show 7*(f+1)=7*f+7 by omega,Nat.pow_add]at h3;exact Nat.div_lt_of_lt_mul (by omega))
   go_wp2_with (at_builtin; go_loud (refine aA Tryz.appBytes rfl _ _ rfl base (.slice ax xl cx) xl (ac.map ak) rfl wr [Value.int .u8 (bits BinOp.or IntKind.u8 ((m:Int)%256) 128)] _ rfl rfl HZ.o HO.o hxb hbz ?_); intro v' wc hown' hgrow' _ hpl'; go_loud (have HP:=aa (HI.o.next hown' hgrow' hpl' HXL.o HV.o)); obtain⟨ae,ce,rfl,-,-⟩:=ai hown'; clear hown' hgrow' hpl')
   go_roundw
   case rel=>exact⟨f,m/128,_,by simp,by omega,HMF2.o,HE2.o,HP.o⟩
   case measure=>simp[intOf]; omega
  ·have HV:=aa (Cg (n:=m) (by omega));have HZ:=aa (show ∀u∈[(Value.int .u8 (m:Int))],u.oneCell'=true by simp[Value.oneCell']);have HE2:=aa (show ac++[UInt8.ofNat m]=acc++aw n by
    rw[<-HE.o]
    cases f with
    | zero=>rfl
    | succ f=>rw[ik,if_neg hlt])
   go_wp2_with (at_builtin; go_loud (refine aA Tryz.appBytes rfl _ _ rfl base (.slice ax xl cx) xl (ac.map ak) rfl wr [Value.int .u8 (m:Int)] _ rfl rfl HZ.o HO.o hxb hbz ?_); intro v' wc hown' hgrow' _ hpl'; go_loud (have HP:=aa (HI.o.next hown' hgrow' hpl' HXL.o HV.o)); obtain⟨ae,ce,rfl,-,-⟩:=ai hown'; clear hown' hgrow' hpl');go_ret;rw[<-HE2.o];exact⟨_,rfl,HP.o.own,HP.o.grown,HP.o.place⟩
theorem qf (n:Nat) (w:World) (hn:n<18446744073709551616):
  Calls Tryz.prog 176 #[.slice none 0 0, .int .u64 (n:Int)] w fun e w'=> ∃v,e= .returned v/\fZ w' w.heap.size v (aw n)/\Below w.heap.size w w':=by
 obtain⟨ht9,⟨i9,z9,h91,h92,h93,h94,h95⟩,-,-⟩:=Tryz.appBytes;have hb32:i9.bytes*10<=281474976710656:=by rw[h94]; decide
 have H9:=aa (And.intro h91 (And.intro h92 (And.intro h93 hb32)));clear h91 h92 h93 h94 h95 hb32
 go_enter Tryz.func176,Tryz.ntmps176
 go_wp2_with (first | (refine wpList_make_own _ rfl _ _ 29 rfl w.heap.size 5 i9 z9 1 Tryz.underlying29 H9.o.1 H9.o.2.1 H9.o.2.2.1 .i64 .i64 10 10 rfl rfl rfl H9.o.2.2.2 (by decide) (Nat.le_refl _) ?_; intro w4 hown4 hg4; have HO4:=aa hown4; have HG4:=aa hg4; clear hown4 hg4));refine(mF w.heap.size _ [] n w4 HO4.o HG4.o.size (by simp) hn).mono ?_;rintro e w5 ⟨v',rfl,ho5,hg5,-⟩;rw[List.nil_append]at ho5
 have HO5:=aa ho5;have HB5:=aa ((dQ HG4.o).grown hg5 HG4.o.size (fun k hk=>by cases hk; exact Nat.le_refl _));obtain⟨a5,c5,rfl,-,-⟩:=ai ho5;clear ho5 hg5;go_wp2_with fail;go_ret;exact⟨_,rfl,HO5.o,HB5.o⟩
def lenOf (v:Value):Nat:=match v with
 | .slice _ n _=>n
 | _=>0
theorem fz {x:Nat} {y:Int} (h:y=(x:Int)%256):Value.int .u8 y=ak (UInt8.ofNat x):=by
 rw[h];simp[ak]
theorem Ft (S:Nat->Prop) (v:Value) (data:List UInt8) (w:World) (hv:ar S w v data) (hl:data.length<549755813888):
  Calls Tryz.prog 215 #[v] w fun e w'=> ∃a c,e= .returned (.slice a (data++jO data.length).length c)/\fZ w' w.heap.size (.slice a (data++jO data.length).length c) (data++jO data.length)/\Below w.heap.size w w':=by
 obtain⟨hl0,a,cap,rfl,hn,hm,-⟩:=id hv;unfold maxLen at hm;have HV:=aa hv;obtain⟨n,hnd⟩: ∃n,n=data.length:=⟨_,rfl⟩;rw[<-hnd]at hl hn ⊢;have HN:=aa hnd;have HO0:=aa (show(w.alloc (.cells #[] 5)).ownsRow w.heap.size 5 1 (.slice (some ⟨w.heap.size,0,none⟩) 0 0) 0 []from World.ownsRow_lit (e:=5) (size:=1) (base:=w.heap.size) w #[] 0 (Nat.le_refl _) (Nat.zero_le _) (by simp))
 have HB0:=aa ((Below.refl w.heap.size w).alloc (Nat.le_refl _) (.cells #[] 5));have HV0:=aa (show aL S (w.alloc (.cells #[] 5)) 1 (.slice a n cap) n (data.map ak) by rw[hnd]; exact aL.below hv (by omega) ((Below.refl w.heap.size w).alloc (Nat.le_refl _) _));clear hv hl0 hnd
 go_enter Tryz.func215,Tryz.ntmps215
 have hnn:0+n<1099511627775:=by omega
 have hn1:n<1099511627775:=by omega
 have hzz:w.heap.size<=(w.alloc (.cells #[] 5)).heap.size:=by simp
 go_wp2_with (at_builtin; first
  | (refine bD Tryz.appBytes rfl _ _ rfl w.heap.size (.slice (some ⟨w.heap.size,0,none⟩) 0 0) 0 [] rfl HO0.o (.slice a n cap) n (data.map ak) rfl HV0.o (ci data) hnn hzz ?_; intro v1 w1 hown1 hg1; rw[Nat.zero_add,List.nil_append]at hown1; obtain⟨a1,c1,rfl,-,-⟩:=ai hown1; have HO1:=aa hown1; have HB1:=aa (aF HB0.o HO0.o hg1 (Nat.le_refl _) hzz); clear hown1 hg1)
  | (refine aA Tryz.appBytes rfl _ _ rfl w.heap.size (.slice a1 n c1) n (data.map ak) rfl w1 [Value.int .u8 128] _ rfl rfl (ci [128]) HO1.o hn1 HB1.o.size ?_; intro v2 w2 hown2 hg2 _ _; obtain⟨a2,c2,rfl,-,-⟩:=ai hown2))
 have HO2:=aa (show w2.ownsRow w.heap.size 5 1 (.slice a2 (n+1) c2) (n+1) ((data++128::List.replicate 0 0).map ak) by rw[List.map_append]; exact hown2);have HB2:=aa (aF HB1.o HO1.o hg2 (Nat.le_refl _) HB1.o.size);clear hown2 hg2
 go_loopw [3] (fun o wr=> ∃(k:Nat) (a c:_),k<=dl n/\o= .slice a (n+1+k) c/\wr.ownsRow w.heap.size 5 1 (.slice a (n+1+k) c) (n+1+k) ((data++128::List.replicate k 0).map ak)/\Below w.heap.size w wr) (fun o _=>dl n+n+1-lenOf o)
 case atStart=>exact⟨0,_,_,by omega,rfl,HO2.o,HB2.o⟩
 case round=>
  obtain⟨k,a3,c3,hk,rfl,ho,hb⟩:=hrel;obtain⟨m,hm3⟩: ∃m,m=n+1+k:=⟨_,rfl⟩;rw[<-hm3]at ho ⊢;have HM:=aa hm3;have HO:=aa ho;have HB:=aa hb;have hz:=hb.size;clear ho hb hm3;have hzl:dl n<64:=Nat.mod_lt _ (by decide)
  by_cases h56:m%64=56
  ·have e1:((m:Int)%64 != 56)=false:=by rw[bne_eq_false_iff_eq]; omega
   have hkz:k=dl n:=by have:=HM.o; unfold dl at hk hzl ⊢; omega
   subst hkz;clear h56;go_wp2_with fail;obtain⟨w5,hw5⟩: ∃x,x=wr:=⟨_,rfl⟩;subst hw5;obtain⟨pre,hpre⟩: ∃pre,pre=data++128::List.replicate (dl n) 0:=⟨_,rfl⟩;rw[<-hpre]at HO;have HPRE:=aa hpre;have hml:pre.length=m:=by rw[hpre,HM.o,HN.o]; simp; omega
   have HML:=aa hml;have hm40:m+8<1099511627775:=by have:=HM.o; omega
   clear hpre hml e1 hk hzl
   go_loopw [3,5] (fun o i wr=> ∃(j:Nat) (a c:_),j<=8/\i= .int .i64 (7-(j:Int))/\o= .slice a (m+j) c/\wr.ownsRow w.heap.size 5 1 (.slice a (m+j) c) (m+j) ((pre++(iB (n*8)).take j).map ak)/\Below w.heap.size w wr) (fun _ i _=>(intOf i+1).toNat)
   case atStart=>exact⟨0,a3,c3,by omega,rfl,rfl,by simpa using HO.o,HB.o⟩
   case round=>
    obtain⟨j,a5,c5,hj,rfl,rfl,ho,hb⟩:=hrel;have HO5:=aa ho;have HB5:=aa hb;have hz5:=hb.size;clear ho hb hz;have hc:j=0\/j=1\/j=2\/j=3\/j=4\/j=5\/j=6\/j=7\/j=8:=by omega
    rcases hc with rfl | rfl | rfl | rfl | rfl | rfl | rfl | rfl | rfl
    ·skip
     rw[show(7-((0:Nat):Int))=7 from rfl];go_wp2_with (at_builtin; go_must (refine aA Tryz.appBytes rfl _ _ rfl w.heap.size (.slice a5 (m+0) c5) (m+0) ((pre++(iB (n*8)).take 0).map ak) rfl wr [Value.int .u8 ((n:Int)*8/72057594037927936)] _ rfl rfl (by simp[Value.oneCell']) HO5.o (by omega) hz5 ?_); intro v4 w4 hown4 hg4 _ _; obtain⟨a4,c4,rfl,-,-⟩:=ai hown4)
     go_roundw
     case rel=>
      refine⟨0+1,a4,c4,by omega,by simp,rfl, ?_,aF HB5.o HO5.o hg4 (Nat.le_refl _) hz5⟩;rw[show(iB (n*8)).take (0+1)=(iB (n*8)).take 0++[UInt8.ofNat (n*8/2^56)]from rfl,<-List.append_assoc,List.map_append,List.map_singleton,<-fz (x:=n*8/2^56) (y:=((n:Int)*8/72057594037927936)) (by omega)];exact hown4
     case measure=>simp[intOf]
    ·skip
     rw[show(7-((1:Nat):Int))=6 from rfl];go_wp2_with (at_builtin; go_must (refine aA Tryz.appBytes rfl _ _ rfl w.heap.size (.slice a5 (m+1) c5) (m+1) ((pre++(iB (n*8)).take 1).map ak) rfl wr [Value.int .u8 ((n:Int)*8/281474976710656)] _ rfl rfl (by simp[Value.oneCell']) HO5.o (by omega) hz5 ?_); intro v4 w4 hown4 hg4 _ _; obtain⟨a4,c4,rfl,-,-⟩:=ai hown4)
     go_roundw
     case rel=>
      refine⟨1+1,a4,c4,by omega,by simp,rfl, ?_,aF HB5.o HO5.o hg4 (Nat.le_refl _) hz5⟩;rw[show(iB (n*8)).take (1+1)=(iB (n*8)).take 1++[UInt8.ofNat (n*8/2^48)]from rfl,<-List.append_assoc,List.map_append,List.map_singleton,<-fz (x:=n*8/2^48) (y:=((n:Int)*8/281474976710656)) (by omega)];exact hown4
     case measure=>simp[intOf]
    ·skip
     rw[show(7-((2:Nat):Int))=5 from rfl];go_wp2_with (at_builtin; go_must (refine aA Tryz.appBytes rfl _ _ rfl w.heap.size (.slice a5 (m+2) c5) (m+2) ((pre++(iB (n*8)).take 2).map ak) rfl wr [Value.int .u8 ((n:Int)*8/1099511627776)] _ rfl rfl (by simp[Value.oneCell']) HO5.o (by omega) hz5 ?_); intro v4 w4 hown4 hg4 _ _; obtain⟨a4,c4,rfl,-,-⟩:=ai hown4)
     go_roundw
     case rel=>
      refine⟨2+1,a4,c4,by omega,by simp,rfl, ?_,aF HB5.o HO5.o hg4 (Nat.le_refl _) hz5⟩;rw[show(iB (n*8)).take (2+1)=(iB (n*8)).take 2++[UInt8.ofNat (n*8/2^40)]from rfl,<-List.append_assoc,List.map_append,List.map_singleton,<-fz (x:=n*8/2^40) (y:=((n:Int)*8/1099511627776)) (by omega)];exact hown4
     case measure=>simp[intOf]
    ·skip
     rw[show(7-((3:Nat):Int))=4 from rfl];go_wp2_with (at_builtin; go_must (refine aA Tryz.appBytes rfl _ _ rfl w.heap.size (.slice a5 (m+3) c5) (m+3) ((pre++(iB (n*8)).take 3).map ak) rfl wr [Value.int .u8 ((n:Int)*8/4294967296%256)] _ rfl rfl (by simp[Value.oneCell']) HO5.o (by omega) hz5 ?_); intro v4 w4 hown4 hg4 _ _; obtain⟨a4,c4,rfl,-,-⟩:=ai hown4)
     go_roundw
     case rel=>
      refine⟨3+1,a4,c4,by omega,by simp,rfl, ?_,aF HB5.o HO5.o hg4 (Nat.le_refl _) hz5⟩;rw[show(iB (n*8)).take (3+1)=(iB (n*8)).take 3++[UInt8.ofNat (n*8/2^32)]from rfl,<-List.append_assoc,List.map_append,List.map_singleton,<-fz (x:=n*8/2^32) (y:=((n:Int)*8/4294967296%256)) (by omega)];exact hown4
     case measure=>simp[intOf]
    ·skip
     rw[show(7-((4:Nat):Int))=3 from rfl];go_wp2_with (at_builtin; go_must (refine aA Tryz.appBytes rfl _ _ rfl w.heap.size (.slice a5 (m+4) c5) (m+4) ((pre++(iB (n*8)).take 4).map ak) rfl wr [Value.int .u8 ((n:Int)*8/16777216%256)] _ rfl rfl (by simp[Value.oneCell']) HO5.o (by omega) hz5 ?_); intro v4 w4 hown4 hg4 _ _; obtain⟨a4,c4,rfl,-,-⟩:=ai hown4)
     go_roundw
     case rel=>
      refine⟨4+1,a4,c4,by omega,by simp,rfl, ?_,aF HB5.o HO5.o hg4 (Nat.le_refl _) hz5⟩;rw[show(iB (n*8)).take (4+1)=(iB (n*8)).take 4++[UInt8.ofNat (n*8/2^24)]from rfl,<-List.append_assoc,List.map_append,List.map_singleton,<-fz (x:=n*8/2^24) (y:=((n:Int)*8/16777216%256)) (by omega)];exact hown4
     case measure=>simp[intOf]
    ·skip
     rw[show(7-((5:Nat):Int))=2 from rfl];go_wp2_with (at_builtin; go_must (refine aA Tryz.appBytes rfl _ _ rfl w.heap.size (.slice a5 (m+5) c5) (m+5) ((pre++(iB (n*8)).take 5).map ak) rfl wr [Value.int .u8 ((n:Int)*8/65536%256)] _ rfl rfl (by simp[Value.oneCell']) HO5.o (by omega) hz5 ?_); intro v4 w4 hown4 hg4 _ _; obtain⟨a4,c4,rfl,-,-⟩:=ai hown4)
     go_roundw
     case rel=>
      refine⟨5+1,a4,c4,by omega,by simp,rfl, ?_,aF HB5.o HO5.o hg4 (Nat.le_refl _) hz5⟩;rw[show(iB (n*8)).take (5+1)=(iB (n*8)).take 5++[UInt8.ofNat (n*8/2^16)]from rfl,<-List.append_assoc,List.map_append,List.map_singleton,<-fz (x:=n*8/2^16) (y:=((n:Int)*8/65536%256)) (by omega)];exact hown4
     case measure=>simp[intOf]
    ·skip
     rw[show(7-((6:Nat):Int))=1 from rfl];go_wp2_with (at_builtin; go_must (refine aA Tryz.appBytes rfl _ _ rfl w.heap.size (.slice a5 (m+6) c5) (m+6) ((pre++(iB (n*8)).take 6).map ak) rfl wr [Value.int .u8 ((n:Int)*8/256%256)] _ rfl rfl (by simp[Value.oneCell']) HO5.o (by omega) hz5 ?_); intro v4 w4 hown4 hg4 _ _; obtain⟨a4,c4,rfl,-,-⟩:=ai hown4)
     go_roundw
     case rel=>
      refine⟨6+1,a4,c4,by omega,by simp,rfl, ?_,aF HB5.o HO5.o hg4 (Nat.le_refl _) hz5⟩;rw[show(iB (n*8)).take (6+1)=(iB (n*8)).take 6++[UInt8.ofNat (n*8/2^8)]from rfl,<-List.append_assoc,List.map_append,List.map_singleton,<-fz (x:=n*8/2^8) (y:=((n:Int)*8/256%256)) (by omega)];exact hown4
     case measure=>simp[intOf]
    ·skip
     rw[show(7-((7:Nat):Int))=0 from rfl];go_wp2_with (at_builtin; go_must (refine aA Tryz.appBytes rfl _ _ rfl w.heap.size (.slice a5 (m+7) c5) (m+7) ((pre++(iB (n*8)).take 7).map ak) rfl wr [Value.int .u8 ((n:Int)*8%256)] _ rfl rfl (by simp[Value.oneCell']) HO5.o (by omega) hz5 ?_); intro v4 w4 hown4 hg4 _ _; obtain⟨a4,c4,rfl,-,-⟩:=ai hown4)
     go_roundw
     case rel=>
      refine⟨7+1,a4,c4,by omega,by simp,rfl, ?_,aF HB5.o HO5.o hg4 (Nat.le_refl _) hz5⟩;rw[show(iB (n*8)).take (7+1)=(iB (n*8)).take 7++[UInt8.ofNat (n*8)]from rfl,<-List.append_assoc,List.map_append,List.map_singleton,<-fz (x:=n*8) (y:=((n:Int)*8%256)) (by omega)];exact hown4
     case measure=>simp[intOf]
    ·rw[show(7-((8:Nat):Int))= -1 from rfl];have HPP:=aa (show data++jO n=pre++iB (n*8) by
      rw[HPRE.o];unfold jO;rw[Nat.mod_eq_of_lt (by omega)]
      simp)
     have HPL:=aa (show m+8=(data++jO n).length by rw[HPP.o,List.length_append,HML.o]; rfl);go_wp2_with fail;go_ret;refine⟨a5,c5,by rw[HPL.o]; rfl, ?_,HB5.o⟩;have h:=HO5.o;rw[show(iB (n*8)).take 8=iB (n*8)from rfl,<-HPP.o,HPL.o]at h;exact h
  ·have e1:((m:Int)%64 != 56)=true:=by rw[bne_iff_ne]; omega
   have hkz:k+1<=dl n:=by
    have:=HM.o
    rcases Nat.lt_or_ge k (dl n)with h | h
    ·exact h
    ·exfalso
     have:k=dl n:=by omega
     unfold dl at this;omega
   have hm40:m<1099511627775:=by have:=HM.o; omega
   go_wp2_with (at_builtin; go_must (refine aA Tryz.appBytes rfl _ _ rfl w.heap.size (.slice a3 m c3) m ((data++128::List.replicate k 0).map ak) rfl wr [Value.int .u8 0] _ rfl rfl (ci [0]) HO.o hm40 hz ?_); intro v4 w4 hown4 hg4 _ _; obtain⟨a4,c4,rfl,-,-⟩:=ai hown4)
   go_roundw
   case rel=>
    have hmm:m+1=n+1+(k+1):=by rw[HM.o]; omega
    refine⟨k+1,a4,c4,hkz,by rw[hmm], ?_,aF HB.o HO.o hg4 (Nat.le_refl _) hz⟩;rw[<-hmm,List.replicate_succ',<-List.cons_append,<-List.append_assoc,List.map_append];exact hown4
   case measure=>
    have:=HM.o
    show dl n+n+1-(m+1)<dl n+n+1-m
    omega
end Go.Proofs.YtpffpjbkbaleiaaGreatDoor
namespace Go.Proofs.YtpffpjbkbaleiaaGreatDoor
def ez (x k:Nat):Nat:=(x*2^k%18446744073709551616) ||| (x/2^(64-k))
def jQ :Nat->Nat->Nat
 | 0,x=>x
 | n+1,x=>ez (jQ n x) 1
theorem gy {x k:Nat} (_hk:k<=64) (i:Nat):(ez x k).testBit i=((decide (i<64) && decide (k<=i) && x.testBit (i-k)) || x.testBit (64-k+i)):=by
 unfold ez;rw[Nat.testBit_or,show(18446744073709551616:Nat)=2^64 from rfl,Nat.testBit_mod_two_pow,Nat.testBit_mul_two_pow,Nat.testBit_div_two_pow,Nat.add_comm i (64-k),Bool.and_assoc]
theorem iC {x:Nat} (hx:x<18446744073709551616) {i:Nat} (h:64<=i):x.testBit i=false:=
 Nat.testBit_lt_two_pow (Nat.lt_of_lt_of_le hx (Nat.pow_le_pow_right (by decide) h:2^64<=2^i))
theorem jP {x:Nat} (k:Nat) (hx:x<18446744073709551616):ez x k<18446744073709551616:=
 Nat.or_lt_two_pow (n:=64) (Nat.mod_lt _ (by decide)) (Nat.lt_of_le_of_lt (Nat.div_le_self _ _) hx)
theorem pW : ∀(n:Nat) {x:Nat},x<18446744073709551616->jQ n x<18446744073709551616
 | 0,_,h=>h
 | n+1,_,h=>jP 1 (pW n h)
theorem rH {x:Nat} (hx:x<18446744073709551616):ez x 0=x:=by
 unfold ez;rw[show(2:Nat)^(64-0)=18446744073709551616 by decide,Nat.div_eq_of_lt hx,Nat.or_zero,Nat.pow_zero,Nat.mul_one,Nat.mod_eq_of_lt hx]
theorem Ae {x k:Nat} (hx:x<18446744073709551616) (hk:k<64):ez (ez x k) 1=ez x (k+1):=by
 apply Nat.eq_of_testBit_eq
 intro i;rw[gy (by decide),gy (by omega),gy (by omega),gy (by omega)]
 by_cases h64:i<64
 ·by_cases h0:i=0
  ·subst h0;have e1:x.testBit (64-k+(64-1+0))=false:=iC hx (by omega);have e2:64-1+0-k=64-(k+1)+0:=by omega
   have e3:x.testBit (64-0+0-k+64)=false:=iC hx (by omega);simp only[e1,e2];simp;omega
  ·have e1:x.testBit (64-k+(64-1+i))=false:=iC hx (by omega);have e2:(64-1+i<64)=False:=by simp; omega
   have e3:i-1-k=i-(k+1):=by omega
   have e4:64-k+(i-1)=64-(k+1)+i:=by omega
   have e5:(decide (k<=i-1))=decide (k+1<=i):=by rw[decide_eq_decide]; omega
   have e6:decide (1<=i)=true:=by simp; omega
   have e7:decide (i-1<64)=true:=by simp; omega
   have e8:decide (i<64)=true:=by simp; omega
   have e9:decide (64-1+i<64)=false:=by simp; omega
   simp only[e1,e3,e4,e5,e6,e7,e8,e9,Bool.true_and,Bool.false_and,Bool.or_false]
 ·have e1:x.testBit (64-k+(64-1+i))=false:=iC hx (by omega);have e2:x.testBit (64-(k+1)+i)=false:=iC hx (by omega);have e8:decide (i<64)=false:=by simp; omega
  have e9:decide (64-1+i<64)=false:=by simp; omega
  simp only[e1,e2,e8,e9,Bool.false_and,Bool.or_false]
theorem pV {x:Nat} (hx:x<18446744073709551616): ∀ {k:Nat},k<=64->jQ k x=ez x k
 | 0,_=>(rH hx).symm
 | k+1,h=>by rw[jQ,pV hx (k:=k) (by omega),Ae hx (by omega)]
theorem Dz {x:Nat} (hx:x<18446744073709551616):jQ 64 x=x:=by
 rw[pV hx (by decide)];unfold ez;rw[show(2:Nat)^64=18446744073709551616 by decide,Nat.mul_mod_left,Nat.zero_or];simp
theorem Io {x y:Nat} (hx:x<18446744073709551616) (hy:y<18446744073709551616) {k:Nat} (hk:k<=64):ez (x^^^y) k=ez x k^^^ez y k:=by
 apply Nat.eq_of_testBit_eq
 intro i;rw[Nat.testBit_xor,gy hk,gy hk,gy hk,Nat.testBit_xor,Nat.testBit_xor]
 by_cases h:i<64/\k<=i
 ·have e:decide (i<64)=true/\decide (k<=i)=true:=by simpa using h
  rw[e.1,e.2,iC hx (i:=64-k+i) (by omega),iC hy (i:=64-k+i) (by omega)];simp
 ·have e:(decide (i<64) && decide (k<=i))=false:=by simp; omega
  rw[e]; simp
theorem lG {x y:Nat} (hx:x<18446744073709551616) (hy:y<18446744073709551616):x^^^y<18446744073709551616:=Nat.xor_lt_two_pow (n:=64) hx hy
def zJ (z:Nat):Nat:=((z^^^(z/2^30))*13787848793156543929)%18446744073709551616
def CO (z:Nat):Nat:=((z^^^(z/2^27))*10723151780598845931)%18446744073709551616
def Jh (z:Nat):Nat:=z^^^(z/2^31)
def nR (seed i:Nat):Nat:=(seed+(i+1)*11400714819323198485%18446744073709551616)%18446744073709551616
def oB (seed i:Nat):Nat:=Jh (CO (zJ (nR seed i)))
theorem lR (seed i:Nat):oB seed i<18446744073709551616:=by
 unfold oB Jh;have h:CO (zJ (nR seed i))<18446744073709551616:=Nat.mod_lt _ (by decide);exact lG h (Nat.lt_of_le_of_lt (Nat.div_le_self _ _) h)
theorem wW {M:List UInt8->Prop} (h0:M []) (h1: ∀l b,M l->M (l++[b])) (l:List UInt8):M l:=by
 have: ∀r:List UInt8,M r.reverse:=by
  intro r
  induction r with
  | nil=>exact h0
  | cons b r ih=>rw[List.reverse_cons]; exact h1 _ _ ih
 have h:=this l.reverse;rw[List.reverse_reverse]at h; exact h
section
variable (T : Nat → Nat)
def fd (l:List UInt8):Nat:=l.foldl (fun s b=>ez s 1^^^T b.toNat) 0
theorem iI (l:List UInt8) (b:UInt8):fd T (l++[b])=ez (fd T l) 1^^^T b.toNat:=by
 unfold fd; rw[List.foldl_append,List.foldl_cons,List.foldl_nil]
theorem tD :fd T []=0:=rfl
theorem Cw (x:UInt8):fd T [x]=T x.toNat:=by
 unfold fd; rw[List.foldl_cons,List.foldl_nil,show ez 0 1=0 by decide,Nat.zero_xor]
def mK :List UInt8->Nat
 | []=>0
 | b::l=>jQ l.length (T b.toNat)^^^mK l
variable {T}
theorem wV (hT: ∀i,T i<18446744073709551616) (l:List UInt8):fd T l<18446744073709551616:=by
 refine wW (M:=fun l=>fd T l<18446744073709551616) ?_ (fun l b ih=> ?_) l
 ·show fd T []<_
  rw[tD]; decide
 ·show fd T (l++[b])<_
  rw[iI]; exact lG (jP 1 ih) (hT _)
theorem qN (hT: ∀i,T i<18446744073709551616) (x:UInt8) (l:List UInt8):fd T (x::l)=jQ l.length (T x.toNat)^^^fd T l:=by
 refine wW (M:=fun l=>fd T (x::l)=jQ l.length (T x.toNat)^^^fd T l) ?_ (fun l b ih=> ?_) l
 ·show fd T [x]=jQ 0 (T x.toNat)^^^fd T []
  rw[Cw,tD,Nat.xor_zero,jQ]
 ·show fd T (x::(l++[b]))=jQ (l++[b]).length (T x.toNat)^^^fd T (l++[b])
  rw[<-List.cons_append,iI,iI,List.length_append,List.length_singleton,jQ,ih,Io (pW _ (hT _)) (wV hT _) (by decide),Nat.xor_assoc]
theorem zm (hT: ∀i,T i<18446744073709551616) (x b:UInt8) (l:List UInt8) (h:l.length+1<=64):(ez (fd T (x::l)) 1^^^T b.toNat)^^^ez (T x.toNat) (l.length+1)=fd T (l++[b]):=by
 rw[<-iI,List.cons_append,qN hT,List.length_append,List.length_singleton,<-pV (hT _) h,Nat.xor_comm (jQ _ _),Nat.xor_assoc,Nat.xor_self,Nat.xor_zero]
theorem tC (hT: ∀i,T i<18446744073709551616): ∀l,mK T l=fd T l
 | []=>rfl
 | b::l=>by rw[mK,tC hT l,qN hT]
end
def kF (seed:Nat) (l:List UInt8):Nat:=fd (oB seed) l
theorem qM (seed:Nat) (l:List UInt8):kF seed l<18446744073709551616:=wV (lR seed) l
def iT (W:Nat) (d:List UInt8):List UInt8:=d.drop (d.length-W)
theorem iU (W:Nat) (d:List UInt8):(iT W d).length=min W d.length:=by unfold iT; rw[List.length_drop]; omega
theorem uF {W:Nat} {d:List UInt8} (h:d.length<W) (b:UInt8):iT W (d++[b])=iT W d++[b]:=by
 unfold iT;rw[List.length_append,List.length_singleton,show d.length+1-W=0 by omega,show d.length-W=0 by omega]; rfl
theorem uG {W:Nat} {d:List UInt8} (hW:1<=W) (h:W<=d.length) (b:UInt8):iT W (d++[b])=(iT W d).tail++[b]:=by
 unfold iT;rw[List.length_append,List.length_singleton,List.tail_drop,List.drop_append_of_le_length (by omega)]
 congr 2; omega
def Bt (seed W bits:Nat) (d:List UInt8):Bool:=decide (W<=d.length) && decide (bits<=Lib.ctz 64 (kF seed (iT W d)))
section
variable (mk : Nat → Bool) (mn mx len : Nat)
def kH :Nat->Int
 | 0=> -(mn:Int)
 | p+1=>if mk (p+1)then((p+1:Nat):Int)else kH p
def eR :Nat->Bool
 | 0=>false
 | p+1=>mk (p+1) && decide ((mn:Int)<=((p+1:Nat):Int)-kH mk mn p)
def gg (l:List Nat):Nat:=l.getLast?.getD 0
def gK (s q:Nat):Bool:=eR mk mn q || decide (s+mx<=q) || decide (len<=q)
def fj :Nat->List Nat
 | 0=>[]
 | p+1=>if gK mk mn mx len (gg (fj p)) (p+1)then fj p++[p+1]else fj p
def kX :List Nat:=fj mk mn mx len len
end
section
variable {mk : Nat → Bool} {mn mx len : Nat}
theorem gw (l:List Nat) (p:Nat):gg (l++[p])=p:=by simp[gg]
theorem mL (p:Nat):(kH mk mn p= -(mn:Int)/\ ∀q,1<=q->q<=p->mk q=false)\/ ∃L,kH mk mn p=((L:Nat):Int)/\1<=L/\L<=p/\mk L=true/\ ∀q,L<q->q<=p->mk q=false:=by
 induction p with
 | zero=>exact .inl ⟨rfl,fun q h1 h2=>by omega⟩
 | succ p ih=>
  rw[kH]
  by_cases h:mk (p+1)=true
  ·rw[if_pos h];exact .inr ⟨p+1,rfl,by omega,by omega,h,fun q h1 h2=>by omega⟩
  ·rw[if_neg h];have h0:mk (p+1)=false:=by simpa using h
   rcases ih with⟨h1,h2⟩ | ⟨L,h1,h2,h3,h4,h5⟩
   ·exact .inl ⟨h1,fun q hq1 hq2=>by
     by_cases e:q=p+1
     ·rw[e]; exact h0
     ·exact h2 q hq1 (by omega)⟩
   ·exact .inr ⟨L,h1,h2,by omega,h4,fun q hq1 hq2=>by
     by_cases e:q=p+1
     ·rw[e]; exact h0
     ·exact h5 q hq1 (by omega)⟩
theorem Df {p:Nat} :eR mk mn p=true<->1<=p/\mk p=true/\ ∀q,1<=q->q<p->p<q+mn->mk q=false:=by
 cases p with
 | zero=>simp[eR]
 | succ p=>
  rw[eR,Bool.and_eq_true,decide_eq_true_eq]
  constructor
  ·rintro⟨h1,h2⟩;refine⟨by omega,h1,fun q hq1 hq2 hq3=> ?_⟩
   rcases mL (mk:=mk) (mn:=mn) p with⟨h3,h4⟩ | ⟨L,h3,h4,h5,h6,h7⟩
   ·exact h4 q hq1 (by omega)
   ·rw[h3]at h2;exact h7 q (by omega) (by omega)
  ·rintro⟨_,h1,h2⟩;refine⟨h1, ?_⟩
   rcases mL (mk:=mk) (mn:=mn) p with⟨h3,_⟩ | ⟨L,h3,h4,h5,h6,_⟩
   ·rw[h3]; omega
   ·rw[h3]
    by_cases h8:p+1<L+mn
    ·have:=h2 L h4 (by omega) h8;rw[h6]at this; cases this
    ·omega
def uR (mk:Nat->Bool) (mn mx len s q:Nat):Prop:=s<q/\q<=len/\gK mk mn mx len s q=true/\ ∀r,s<r->r<q->gK mk mn mx len s r=false
inductive sr (mk : Nat → Bool) (mn mx len : Nat) : List Nat → Nat → Prop
 | nil:sr mk mn mx len [] 0
 | snoc {l:List Nat} {s q:Nat} :sr mk mn mx len l s->uR mk mn mx len s q->sr mk mn mx len (l++[q]) q
inductive oO (mk : Nat → Bool) (mn mx len : Nat) : Nat → List Nat → Prop
 | nil:oO mk mn mx len len []
 | cons {s q:Nat} {l:List Nat} :uR mk mn mx len s q->oO mk mn mx len q l->oO mk mn mx len s (q::l)
theorem uR.det {s q q':Nat} (h:uR mk mn mx len s q) (h':uR mk mn mx len s q'):q=q':=by
 rcases Nat.lt_trichotomy q q' with e | e | e
 ·have h1:=h'.2.2.2 q h.1 e;rw[h.2.2.1]at h1; cases h1
 ·exact e
 ·have h1:=h.2.2.2 q' h'.1 e;rw[h'.2.2.1]at h1; cases h1
theorem oO.det {s:Nat} {l:List Nat} (h:oO mk mn mx len s l): ∀ {l'},oO mk mn mx len s l'->l=l':=by
 induction h with
 | nil=>
  intro l' h'
  cases h' with
  | nil=>rfl
  | cons h1 _=>exact absurd h1.1 (by have:=h1.2.1; omega)
 | cons h1 _ ih=>
  intro l' h'
  cases h' with
  | nil=>exact absurd h1.1 (by have:=h1.2.1; omega)
  | cons h3 h4=>
   cases h1.det h3
   rw[ih h4]
theorem sr.chain {l:List Nat} {s:Nat} (h:sr mk mn mx len l s): ∀ {m},oO mk mn mx len s m->oO mk mn mx len 0 (l++m):=by
 induction h with
 | nil=>intro m hm; exact hm
 | snoc _ h2 ih=>
  intro m hm;rw[List.append_assoc];exact ih (.cons h2 hm)
theorem sr.det {l l':List Nat} (h:sr mk mn mx len l len) (h':sr mk mn mx len l' len):l=l':=by
 have h1:=h.chain .nil;have h2:=h'.chain .nil;rw[List.append_nil]at h1 h2;exact h1.det h2
theorem sr.last {l:List Nat} {s:Nat} (h:sr mk mn mx len l s):gg l=s:=by
 cases h with
 | nil=>rfl
 | snoc _ _=>exact gw _ _
theorem sr.le {l:List Nat} {s:Nat} (h:sr mk mn mx len l s):s<=len:=by
 cases h with
 | nil=>omega
 | snoc _ h=>exact h.2.1
theorem qE : ∀ {p:Nat},p<=len-> ∃s,sr mk mn mx len (fj mk mn mx len p) s/\s<=p/\ ∀r,s<r->r<=p->gK mk mn mx len s r=false
 | 0,_=>⟨0, .nil,by omega,fun r h1 h2=>by omega⟩
 | p+1,hp=>by
  obtain⟨s,h1,h2,h3⟩:=qE (p:=p) (by omega);rw[fj,h1.last]
  by_cases h:gK mk mn mx len s (p+1)=true
  ·rw[if_pos h];exact⟨p+1,h1.snoc ⟨by omega,hp,h,fun r hr1 hr2=>h3 r hr1 (by omega)⟩,by omega,fun r hr1 hr2=>by omega⟩
  ·rw[if_neg h];exact⟨s,h1,by omega,fun r hr1 hr2=>by
    by_cases e:r=p+1
    ·rw[e]; simpa using h
    ·exact h3 r hr1 (by omega)⟩
theorem jI :sr mk mn mx len (kX mk mn mx len) len:=by
 obtain⟨s,h1,h2,h3⟩:=qE (mk:=mk) (mn:=mn) (mx:=mx) (len:=len) (Nat.le_refl len)
 by_cases e:s=len
 ·rw[e]at h1; exact h1
 ·have:=h3 len (by omega) (by omega);simp[gK]at this
theorem uR.reach {s q:Nat} (hm:1<=mx) (h:uR mk mn mx len s q):q<=s+mx:=by
 by_cases h1:s+mx<q
 ·have h2:=h.2.2.2 (s+mx) (by omega) h1;simp[gK]at h2
 ·omega
theorem FO {s e:Nat} (hm:1<=mx) (hs:s<e) (he:e<=len) (hst:eR mk mn e=true\/e=len) (hno: ∀r,s<r->r<e->eR mk mn r=false):uR mk mn mx len s (min (s+mx) e):=by
 refine⟨by omega,by omega, ?_,fun r h1 h2=> ?_⟩
 ·unfold gK
  by_cases h:s+mx<=e
  ·rw[Nat.min_eq_left h]; simp
  ·rw[Nat.min_eq_right (by omega)]
   rcases hst with h' | h'
   ·rw[h']; rfl
   ·rw[h']; simp
 ·unfold gK;rw[hno r h1 (by omega)]
  simp; omega
def dy (data:List UInt8) (s e:Nat):List UInt8:=(data.drop s).take (e-s)
def dY (data:List UInt8):Nat->List Nat->List (List UInt8)
 | _,[]=>[]
 | s,e::l=>dy data s e::dY data e l
theorem fU (data:List UInt8): ∀(l:List Nat) (s e:Nat),dY data s (l++[e])=dY data s l++[dy data (l.getLast?.getD s) e]
 | [],_,_=>rfl
 | x::l,s,e=>by
  rw[List.cons_append,dY,fU data l x e,dY,List.cons_append]
  congr 3
  rw[List.getLast?_cons]; rfl
theorem xL {data:List UInt8} {l:List Nat} {s:Nat} (h:sr mk mn mx data.length l s):(dY data 0 l).flatten=data.take s:=by
 induction h with
 | nil=>simp[dY]
 | snoc h1 h2 ih=>
  rename_i l s q;rw[fU,List.flatten_append,ih];have:=h1.last;unfold gg at this;rw[this,List.flatten_cons,List.flatten_nil,List.append_nil];unfold dy;have h3:=h2.1;rw[show q=s+(q-s) by omega,List.take_add,show s+(q-s)-s=q-s by omega]
theorem rx {data:List UInt8} :(dY data 0 (kX mk mn mx data.length)).flatten=data:=by
 rw[xL jI,List.take_length]
theorem ug {data:List UInt8} {l:List Nat} {s:Nat} (hm:1<=mx) (h:sr mk mn mx data.length l s): ∀c∈dY data 0 l,1<=c.length/\c.length<=mx:=by
 induction h with
 | nil=>simp[dY]
 | snoc h1 h2 ih=>
  rename_i l s q;rw[fU];intro c hc
  rcases List.mem_append.1 hc with hc | hc
  ·exact ih c hc
  ·rw[List.mem_singleton.1 hc];have:=h1.last;unfold gg at this;rw[this];unfold dy;rw[List.length_take,List.length_drop];have h3:=h2.reach hm;have h4:=h2.1;have h5:=h2.2.1;omega
end
open Go Go.RowKit
theorem un {x s:Nat} (hx:x<18446744073709551616):bits .or .u64 ((x:Int)*2^s%18446744073709551616) ((x:Int)/2^(64-s))=((ez x s:Nat):Int):=by
 have e1:((x:Int)*2^s%18446744073709551616)=((x*2^s%18446744073709551616:Nat):Int):=by simp
 have e2:((x:Int)/2^(64-s))=((x/2^(64-s):Nat):Int):=by simp
 rw[e1,e2,u64_or_nat _ _ (Nat.mod_lt _ (by decide)) (Nat.lt_of_le_of_lt (Nat.div_le_self _ _) hx)]
 rfl
theorem um (x k:Nat) (w:World) (hx:x<18446744073709551616) (hk:k<=64):Calls Tryz.prog 211 #[.int .u64 (x:Int), .int .i64 (k:Int)] w fun e w'=>e= .returned (.int .u64 ((ez x k:Nat):Int))/\w=w':=by
 obtain⟨s,hs⟩: ∃s,s=k%64:=⟨_,rfl⟩;have h1:bits BinOp.and IntKind.u64 (k:Int) 63=(s:Int):=by
  rw[show(63:Int)=((63:Nat):Int)from rfl,u64_and_nat _ _ (by omega) (by decide),nat_mask6,hs]
 have hs64:s<64:=by omega
 have hmin:min s 64=s:=by omega
 have hmin2:min (64-s) 64=64-s:=by omega
 have HR:=aa (show ez x s=ez x k by
  by_cases h:k=64
  ·have e:s=0:=by rw[hs,h]
   rw[e,h,rH hx,<-pV hx (Nat.le_refl 64),Dz hx]
  ·rw[show s=k by omega])
 clear hs
 go_enter Tryz.func211,Tryz.ntmps211
 go_wp2_with fail;go_ret;refine⟨?_,rfl⟩;rw[<-HR.o,<-un hx,IntKind.wrap_u64]
 rfl
theorem Jj (a c:Nat):((a:Int)*(c:Int))%18446744073709551616=((a*c%18446744073709551616:Nat):Int):=by simp
theorem sk (z d:Nat) (hz:z<18446744073709551616):bits BinOp.xor IntKind.u64 (z:Int) ((z:Int)/(d:Int))=((z^^^(z/d):Nat):Int):=by
 rw[show((z:Int)/(d:Int))=((z/d:Nat):Int) by simp,u64_xor_nat _ _ hz (Nat.lt_of_le_of_lt (Nat.div_le_self _ _) hz)]
theorem CN (z:Nat) (hz:z<18446744073709551616):(bits BinOp.xor IntKind.u64 (z:Int) ((z:Int)/1073741824)*13787848793156543929)%18446744073709551616=((zJ z:Nat):Int):=by
 have h:=sk z 1073741824 hz;rw[show((1073741824:Nat):Int)=1073741824 from rfl]at h;rw[h];exact Jj (z^^^(z/1073741824)) 13787848793156543929
theorem CP (z:Nat) (hz:z<18446744073709551616):(bits BinOp.xor IntKind.u64 (z:Int) ((z:Int)/134217728)*10723151780598845931)%18446744073709551616=((CO z:Nat):Int):=by
 have h:=sk z 134217728 hz;rw[show((134217728:Nat):Int)=134217728 from rfl]at h;rw[h];exact Jj (z^^^(z/134217728)) 10723151780598845931
theorem tW (z:Nat) (hz:z<18446744073709551616):bits BinOp.xor IntKind.u64 (z:Int) ((z:Int)/2147483648)=((Jh z:Nat):Int):=by
 have h:=sk z 2147483648 hz;rw[show((2147483648:Nat):Int)=2147483648 from rfl]at h;exact h
theorem ur (s k:Nat):IntKind.u64.wrap ((s:Int)+IntKind.u64.wrap (((k:Int)+1)*11400714819323198485))=((nR s k:Nat):Int):=by
 rw[IntKind.wrap_u64,IntKind.wrap_u64,show((k:Int)+1)=((k+1:Nat):Int) by omega,show(11400714819323198485:Int)=((11400714819323198485:Nat):Int)from rfl,Jj];unfold nR;omega
theorem tU (z:Nat) (hz:z<18446744073709551616):IntKind.u64.wrap (bits BinOp.xor IntKind.u64 (z:Int) ((z:Int)/1073741824)*13787848793156543929)=((zJ z:Nat):Int):=by rw[IntKind.wrap_u64,CN z hz]
theorem tV (z:Nat) (hz:z<18446744073709551616):IntKind.u64.wrap (bits BinOp.xor IntKind.u64 (z:Int) ((z:Int)/134217728)*10723151780598845931)=((CO z:Nat):Int):=by rw[IntKind.wrap_u64,CP z hz]
theorem Bu (z:Nat):zJ z<18446744073709551616:=Nat.mod_lt _ (by decide)
theorem Bv (z:Nat):CO z<18446744073709551616:=Nat.mod_lt _ (by decide)
theorem yf (s i:Nat):nR s i<18446744073709551616:=Nat.mod_lt _ (by decide)
def DR (x:Nat):Value:= .int .u64 (x:Int)
structure ju (w : World) (seed k : Nat) (wr : World) : Prop where
 box:wr.heap[w.heap.size]? =some (.cells ((List.range k).map (fun i=>DR (oB seed i))++List.replicate (256-k) (DR 0)).toArray 43 (0,0))
 below:Below w.heap.size w wr
theorem ju.here {w wr:World} {seed k:Nat} (h:ju w seed k wr) (hk:k<256):wr.cell? ⟨w.heap.size,k,none⟩=some (.int .u64 0):=by
 rw[cell_of_row wr _ _ _ _ _ h.box,List.getElem?_toArray,List.getElem?_append_right (by simp)];rw[List.length_map,List.length_range,Nat.sub_self,show 256-k=(256-(k+1))+1 by omega,List.replicate_succ]
 rfl
theorem ju.put {w wr:World} {seed k:Nat} (h:ju w seed k wr) (hk:k<256):ju w seed (k+1) (wr.setCell ⟨w.heap.size,k,none⟩ (DR (oB seed k))):=by
 refine⟨?_,h.below.trans ⟨rfl,rfl,rfl,by simp[World.setCell],fun j hj=>heap_setCell_other wr _ j _ (by show j≠w.heap.size; omega)⟩⟩;rw[heap_setCell_same wr _ _ _ _ _ h.box]
 congr 2
 rw[List.setIfInBounds_toArray,List.set_append_right _ _ (by simp),List.length_map,List.length_range,Nat.sub_self,show 256-k=(256-(k+1))+1 by omega,List.replicate_succ,List.range_succ,List.map_append];simp
theorem GW (w:World):(Instr.makeSlice 262 (.int .i64 256) (.int .i64 256)).run Tryz.prog w= .ok (.slice (some ⟨w.heap.size,0,none⟩) 256 256) (w.alloc (.cells (List.replicate 256 (DR 0)).toArray 43)):=by kernel_rfl
theorem DP (seed:Nat) (w:World):Calls Tryz.prog 210 #[.int .u64 (seed:Int)] w fun e w'=>e= .returned (.slice (some ⟨w.heap.size,0,none⟩) 256 256)/\ju w seed 256 w':=by
 have hmk:=GW
 go_enter Tryz.func210,Tryz.ntmps210
 go_wp2_with fail;have HT0:=aa (show ju w seed 0 (w.alloc (.cells (List.replicate 256 (DR 0)).toArray 43))from⟨by rw[heap_alloc_new]; rfl,bH⟩);clear hmk
 go_loopw [9] (fun i wr=> ∃k:Nat,k<=256/\i= .int .i64 (k:Int)/\ju w seed k wr) (fun i _=>256-(intOf i).toNat)
 case atStart=>exact⟨0,by omega,rfl,HT0.o⟩
 case round=>
  obtain⟨k,hk,rfl,ht⟩:=hrel;have HT:=aa ht;have hz:=ht.below.size;clear ht
  by_cases h256:k<256
  ·have ch:=HT.o.here h256;have cf:=frozen_of_row wr _ k _ _ HT.o.box;have hki:(k:Int)<256:=by omega
   go_wp2_with fail
   go_roundw
   case rel=>
    rw[ur,tU _ (yf _ _),tV _ (Bu _),tW _ (Bv _)];exact⟨k+1,by omega,by simp,HT.o.put h256⟩
   case measure=>simp[intOf]; omega
  ·obtain rfl:k=256:=by omega
   go_wp2_with fail;go_ret;exact⟨rfl,HT.o⟩
def oK (seed:Nat):List Value:=(List.range 256).map fun i=>DR (oB seed i)
theorem nU (seed:Nat):(oK seed).length=256:=by simp[oK]
def fu (seed:Nat) (ring:List UInt8) (W s n h:Nat):List Value:=oK seed++(ring.map ak++[.int .i64 (W:Int), .int .i64 (s:Int), .int .i64 (n:Int), .int .u64 (h:Int)])
theorem ju.full {w wr:World} {seed:Nat} (h:ju w seed 256 wr):wr.heap[w.heap.size]? =some (.cells (oK seed).toArray 43 (0,0)):=by
 rw[h.box,Nat.sub_self,List.replicate_zero,List.append_nil]; rfl
def lH (W:Nat):List Value:=List.replicate 256 (.int .u64 0)++((List.replicate 64 (0:UInt8)).map ak++[.int .i64 (W:Int), .int .i64 0, .int .i64 0, .int .u64 0])
theorem xX (seed W:Nat) (w:World) (hW:1<=W) (hW2:W<=64):Calls Tryz.prog 199 #[.int .u64 (seed:Int), .int .i64 (W:Int)] w fun e w'=> ∃rb,e= .returned (.pointer (some ⟨rb,0,none⟩))/\w.heap.size<=rb/\
  w'.heap[rb]? =some (.cells (fu seed (List.replicate 64 0) W 0 0 0).toArray 237 (0,0))/\Below w.heap.size w w':=by
 have hmax:max (W:Int) 1=(W:Int):=by omega
 have hmin:min (W:Int) 64=(W:Int):=by omega
 go_enter Tryz.func199,Tryz.ntmps199
 go_wp2_with fail;obtain⟨w1,hw1⟩: ∃w1,w1=w.alloc (.cells (Tryz.zeroCells237.setIfInBounds 320 (.int .i64 (W:Int))) 237):=⟨_,rfl⟩;rw[<-hw1];have HX1:=aa (show w1.heap[w.heap.size]? =some (.cells (lH W).toArray 237 (0,0)) by rw[hw1,heap_alloc_new,show Tryz.zeroCells237.setIfInBounds 320 (.int .i64 (W:Int))=(lH W).toArray by kernel_rfl]);have HB1:=aa (show Below w.heap.size w w1 by rw[hw1]; exact bH)
 clear hw1 hmax hmin;refine bE (fun _=>True) (by kernel_rfl) ?_;obtain⟨V,hV⟩: ∃V:World,V=w1.drew:=⟨_,rfl⟩;rw[<-hV];have HXV:=aa (show V.heap[w.heap.size]? =some (.cells (lH W).toArray 237 (0,0)) by rw[hV]; exact HX1.o);have HBV:=aa (show Below w.heap.size w V by rw[hV]; exact HB1.o.trans (Below.refl _ _).drew);clear hV
 iterate 5 (refine aJ rfl (by kernel_rfl) (fun _ _ _ h=>h) rfl trivial (by intro w' hw1; go_simp; rfl) ?_; simp only[Act.put,aZ,bg,bh])
 refine an 5 rfl (by kernel_rfl) rfl (fun K hK=> ?_);go_wp2_with fail;refine(DP seed V).mono ?_;rintro e w2 ⟨rfl,ht⟩;have HTF:=aa ht.full;have HB2:=aa (ab HBV.o ht.below);have HX2:=aa ((ht.below.block _ (lt_of_block HXV.o)).trans HXV.o);have HLT:=aa (lt_of_block HXV.o);clear ht;go_wp2_with fail
 try refine⟨trivial, ?_⟩
 refine an 6 rfl (by kernel_rfl) rfl (fun K hK=> ?_);have HSRC:=aa (show ∀j v,(oK seed)[j]? =some v->w2.cell? ((⟨V.heap.size,0,none⟩:Addr).add j)=some v from fun j v hj=>by rw[Addr.add_mid,Nat.zero_add,cell_of_row w2 _ _ _ _ _ HTF.o,List.getElem?_toArray]; exact hj);have HFIT:=aa (show 0+(oK seed).length<=(lH W).toArray.size by rw[nU,List.size_toArray]; simp[lH])
 have HONE:=aa (show ∀v∈oK seed,v.oneCell'=true from fun v hv=>by obtain⟨x,_,rfl⟩:=List.mem_map.1 hv; rfl);go_wp2_with (refine wpList_copy_own rfl _ _ 262 262 rfl 43 Tryz.underlying262 (by kernel_rfl) w.heap.size 0 256 256 ⟨V.heap.size,0,none⟩ 256 256 rfl rfl (lH W).toArray 237 HX2.o (oK seed) rfl HSRC.o HFIT.o HONE.o ?_);simp only[Act.put,aZ,bg,bh];obtain⟨w3,hw3⟩: ∃w3,w3=w2.setRow w.heap.size (List.take 0 (lH W)++(oK seed++List.drop (0+(oK seed).length) (lH W))).toArray:=⟨_,rfl⟩
 have HX3:=aa (show w3.heap[w.heap.size]? =some (.cells (fu seed (List.replicate 64 0) W 0 0 0).toArray 237 (0,0)) by
  rw[hw3,setRow_heap w2 _ _ _ _ _ HX2.o,List.take_zero,List.nil_append,Nat.zero_add,nU]
  congr 3)
 have HB3:=aa (show Below w.heap.size w w3 by rw[hw3]; exact below_setRow HB2.o (Nat.le_refl _) _);refine⟨trivial, ?_⟩;refine aM (by kernel_rfl) ?_
 change Exit.then _ _ _ _ (w2.setRow w.heap.size (List.take 0 (lH W)++(oK seed++List.drop (0+(oK seed).length) (lH W))).toArray)
 rw[<-hw3];clear hw3;go_wp2_with fail;go_ret;exact⟨_,rfl,Nat.le_refl _,HX3.o,HB3.o⟩
structure cF where
 mn:Int
 mx:Int
 win:Int
 bits:Int
 seed:Nat
def cG (c:cF):List Value:=[.int .i64 c.mn, .int .i64 c.mx, .int .i64 c.win, .int .i64 c.bits, .int .u64 (c.seed:Int)]
def dB (c:cF):Value:= .agg #[.int .i64 c.mn, .int .i64 c.mx, .int .i64 c.win, .int .i64 c.bits, .int .u64 (c.seed:Int)]
def dV (c:cF):Bool:=decide (1<=c.win) && decide (c.win<=64) && decide (c.win<=c.mn) && decide (c.mn<=c.mx) && decide (c.mx<=32768) && decide (0<=c.bits) && decide (c.bits<=20)
theorem fX {c:cF} :dV c=true<->1<=c.win/\c.win<=64/\c.win<=c.mn/\c.mn<=c.mx/\c.mx<=32768/\0<=c.bits/\c.bits<=20:=by unfold dV; simp[and_assoc]
theorem vj (c:cF) (w:World):Calls Tryz.prog 70 #[dB c] w fun e w'=>e= .returned (.bool (dV c))/\Below w.heap.size w w':=by
 unfold dB
 go_enter Tryz.func70,Tryz.ntmps70
 go_wp2_with fail
 all_goals (go_ret; refine⟨aD ?_,bH⟩; rw[Bool.eq_iff_iff,fX]; simp; try omega)
theorem ES {place:Nat->Option (Nat×Nat)} {cells:Array Value} {i off:Nat} {v:Value} {rest:List (Nat×Value)} (hp:place i=some (off,1)) (hv:v.cells= #[v]) (hf:off<cells.size):
  Instr.fill place cells ((i,v)::rest)=Instr.fill place (cells.setIfInBounds off v) rest:=by
 rw[Instr.fill,hp];simp only[hv];rw[if_neg (by simp; omega)]
 rfl
def Gk :List Value:=lH 0++([.int .i64 0, .int .i64 0, .int .i64 0, .int .i64 0, .int .u64 0]++[.int .i64 0, .int .i64 0])
theorem DY :Gk.length=331:=by kernel_rfl
theorem oG (seed:Nat) {ring:List UInt8} (h:ring.length=64) (W s n x:Nat):(fu seed ring W s n x).length=324:=by unfold fu; rw[List.length_append,nU,List.length_append,List.length_map,h]; rfl
theorem yQ (r:List Value) (c:cF) (l:Int) (hr:r.length=324):Tryz.prog.built 239 [(0, .agg r.toArray),(1,dB c),(3, .int .i64 l)]=some (r++(cG c++[Value.int .i64 0,Value.int .i64 l])).toArray:=by
 have h: ∀parts,Tryz.prog.built 239 parts=Instr.fill (fun i=>(#[(0,324),(324,5),(329,1),(330,1)]:Array (Nat×Nat))[i]?) Gk.toArray parts:=fun parts=>by kernel_rfl
 have e0:splice Gk 0 r=r++([.int .i64 0, .int .i64 0, .int .i64 0, .int .i64 0, .int .u64 0]++[.int .i64 0, .int .i64 0]):=by
  unfold splice;rw[List.take_zero,List.nil_append,Nat.zero_add,hr]
  congr 1
 rw[h,jJ (off:=0) (size:=324) rfl (by simpa using hr) (by rw[List.size_toArray,DY]; decide)];simp only;rw[e0];unfold dB;rw[jJ (off:=324) (size:=5) rfl rfl (by rw[List.size_toArray,List.length_append,hr]; decide),ES (off:=330) rfl rfl (by rw[List.size_toArray,length_splice _ _ _ (by rw[List.length_append,hr]; show 324+5<=324+7; decide),List.length_append,hr]; show 330<324+7; decide)]
 simp only[Instr.fill]
 congr 1
 unfold splice;rw[List.setIfInBounds_toArray]
 congr 1
 rw[List.take_append_of_le_length (by omega),List.take_of_length_le (by omega),List.drop_append,List.drop_eq_nil_of_le (by rw[hr]; show 324<=324+5; decide),List.set_append_right _ _ (by omega),hr]
 rfl
def ms (c:cF) (roll:List Value) (pos last:Int):List Value:=roll++(cG c++[Value.int .i64 pos,Value.int .i64 last])
theorem oz (c:cF) {roll:List Value} (h:roll.length=324) (p l:Int):(ms c roll p l).length=331:=by unfold ms; rw[List.length_append,h]; rfl
theorem Do (seed:Nat) (ring:List UInt8) (W s n x:Nat): ∀v∈fu seed ring W s n x,v.oneCell'=true:=by
 intro v hv;unfold fu at hv
 rcases List.mem_append.1 hv with hv | hv
 ·obtain⟨y,_,rfl⟩:=List.mem_map.1 hv; rfl
 ·rcases List.mem_append.1 hv with hv | hv
  ·obtain⟨y,_,rfl⟩:=List.mem_map.1 hv; rfl
  ·simp only[List.mem_cons,List.not_mem_nil,or_false]at hv
   rcases hv with rfl | rfl | rfl | rfl<;> rfl
theorem tT (c:cF) (seed:Nat) (W:Nat) (l:Int): ∀v∈fu seed (List.replicate 64 0) W 0 0 0++(cG c++[Value.int .i64 0,Value.int .i64 l]),v.oneCell'=true:=by
 intro v hv
 rcases List.mem_append.1 hv with hv | hv
 ·exact Do _ _ _ _ _ _ v hv
 ·simp only[cG,List.mem_append,List.mem_cons,List.not_mem_nil,or_false]at hv
  rcases hv with(rfl | rfl | rfl | rfl | rfl) | rfl | rfl<;> rfl
theorem Ad (seed W:Nat) (wi:Int) (w:World) (hwi:wi=(W:Int)) (hW:1<=W) (hW2:W<=64):Calls Tryz.prog 199 #[.int .u64 (seed:Int), .int .i64 wi] w fun e w'=> ∃rb,e= .returned (.pointer (some ⟨rb,0,none⟩))/\w.heap.size<=rb/\
  w'.heap[rb]? =some (.cells (fu seed (List.replicate 64 0) W 0 0 0).toArray 237 (0,0))/\Below w.heap.size w w':=by
 subst hwi; exact xX seed W w hW hW2
theorem sG (c:cF) (W:Nat) (w:World) (_hs:c.seed<18446744073709551616) (hW:c.win=(W:Int)) (h1:1<=W) (h2:W<=64) (hm:0<=c.mn/\c.mn<=32768):
  Calls Tryz.prog 187 #[dB c] w fun e w'=>e= .returned (.agg (ms c (fu c.seed (List.replicate 64 0) W 0 0 0) 0 (-c.mn)).toArray)/\Below w.heap.size w w':=by
 have HW:=aa hW;have hneg:IntKind.i64.wrap (-c.mn)= -c.mn:=by rw[IntKind.wrap_i64]; omega
 clear hW;unfold dB
 go_enter Tryz.func187,Tryz.ntmps187
 go_wp2_with fail;obtain⟨w1,hw1⟩: ∃w1,w1=(w.alloc (.cells #[.int .i64 c.mn, .int .i64 c.mx, .int .i64 c.win, .int .i64 c.bits, .int .u64 (c.seed:Int)] 45)).alloc (.cells Tryz.zeroCells239 239):=⟨_,rfl⟩;rw[<-hw1];have HX1:=aa (show w1.heap[w.heap.size]? =some (.cells (cG c).toArray 45 (0,0)) by rw[hw1]; exact heap_alloc2_old w _ _);have HZ1:=aa (show w1.heap[w.heap.size+1]? =some (.cells Tryz.zeroCells239 239 (0,0)) by rw[hw1]; exact heap_alloc2_new w _ _)
 have HB1:=aa (show Below w.heap.size w w1 by rw[hw1]; exact(bH).alloc (by simp) _);clear hw1;refine bE (fun w'=>w'.cell? ⟨w.heap.size,0,none⟩=some (.int .i64 c.mn)/\w'.cell? ⟨w.heap.size,1,none⟩=some (.int .i64 c.mx)/\w'.cell? ⟨w.heap.size,2,none⟩=some (.int .i64 c.win)/\w'.cell? ⟨w.heap.size,3,none⟩=some (.int .i64 c.bits)/\w'.cell? ⟨w.heap.size,4,none⟩=some (.int .u64 (c.seed:Int))) (by kernel_rfl) ?_
 obtain⟨V,hV⟩: ∃V:World,V=w1.drew:=⟨_,rfl⟩;rw[<-hV];have HXV:=aa (show V.heap[w.heap.size]? =some (.cells (cG c).toArray 45 (0,0)) by rw[hV]; exact HX1.o);have HZV:=aa (show V.heap[w.heap.size+1]? =some (.cells Tryz.zeroCells239 239 (0,0)) by rw[hV]; exact HZ1.o);have HBV:=aa (show Below w.heap.size w V by rw[hV]; exact HB1.o.trans (Below.refl _ _).drew);clear hV;have c0:V.cell? ⟨w.heap.size,0,none⟩=some (.int .i64 c.mn):=(cell_of_row V _ _ _ _ _ HXV.o).trans rfl
 have c1:V.cell? ⟨w.heap.size,1,none⟩=some (.int .i64 c.mx):=(cell_of_row V _ _ _ _ _ HXV.o).trans rfl;have c2:V.cell? ⟨w.heap.size,2,none⟩=some (.int .i64 c.win):=(cell_of_row V _ _ _ _ _ HXV.o).trans rfl;have c3:V.cell? ⟨w.heap.size,3,none⟩=some (.int .i64 c.bits):=(cell_of_row V _ _ _ _ _ HXV.o).trans rfl;have c4:V.cell? ⟨w.heap.size,4,none⟩=some (.int .u64 (c.seed:Int)):=(cell_of_row V _ _ _ _ _ HXV.o).trans rfl
 iterate 4 (refine aJ rfl (by kernel_rfl) (fun _ _ _ h=>h) rfl ⟨c0,c1,c2,c3,c4⟩ (by rintro w' ⟨hw1,hw2,hw3,hw4,hw5⟩; go_simp; rfl) ?_; simp only[Act.put,aZ,bg,bh])
 refine ay 7 rfl (by kernel_rfl) (by kernel_rfl) (by kernel_rfl) (fun _ _ _ h=>h) rfl ⟨c0,c1,c2,c3,c4⟩ (by rintro w' ⟨hw1,hw2,hw3,hw4,hw5⟩; go_simp; rfl) ?_;simp only[Act.put,aZ,bg,bh];refine ay 8 rfl (by kernel_rfl) (by kernel_rfl) (by kernel_rfl) (fun _ _ _ h=>h) rfl ⟨c0,c1,c2,c3,c4⟩ (by rintro w' ⟨hw1,hw2,hw3,hw4,hw5⟩; go_simp; rfl) ?_;simp only[Act.put,aZ,bg,bh]
 refine ay 9 rfl (by kernel_rfl) (by kernel_rfl) (by kernel_rfl) (fun _ _ _ h=>h) rfl ⟨c0,c1,c2,c3,c4⟩ (by rintro w' ⟨hw1,hw2,hw3,hw4,hw5⟩; go_simp; rfl) ?_;simp only[Act.put,aZ,bg,bh];refine ay 10 rfl (by kernel_rfl) (by kernel_rfl) (by kernel_rfl) (fun _ _ _ h=>h) rfl ⟨c0,c1,c2,c3,c4⟩ (by rintro w' ⟨hw1,hw2,hw3,hw4,hw5⟩; go_simp; rfl) ?_;simp only[Act.put,aZ,bg,bh]
 refine an 4 rfl (by kernel_rfl) rfl (fun K hK=> ?_);go_wp2_with fail;refine(Ad c.seed W c.win V HW.o h1 h2).mono ?_;rintro e w2 ⟨rb,rfl,hrb,hbx,hb2⟩;have HB2:=aa (ab HBV.o hb2);have HX2:=aa (br hb2 HXV.o);have HZ2:=aa (br hb2 HZV.o);have HRB:=aa hbx;clear c0 c1 c2 c3 c4 hb2 hbx;have c0:w2.cell? ⟨w.heap.size,0,none⟩=some (.int .i64 c.mn):=(cell_of_row w2 _ _ _ _ _ HX2.o).trans rfl
 have c1:w2.cell? ⟨w.heap.size,1,none⟩=some (.int .i64 c.mx):=(cell_of_row w2 _ _ _ _ _ HX2.o).trans rfl;have c2:w2.cell? ⟨w.heap.size,2,none⟩=some (.int .i64 c.win):=(cell_of_row w2 _ _ _ _ _ HX2.o).trans rfl;have c3:w2.cell? ⟨w.heap.size,3,none⟩=some (.int .i64 c.bits):=(cell_of_row w2 _ _ _ _ _ HX2.o).trans rfl;have c4:w2.cell? ⟨w.heap.size,4,none⟩=some (.int .u64 (c.seed:Int)):=(cell_of_row w2 _ _ _ _ _ HX2.o).trans rfl
 go_wp2_with fail;refine⟨⟨c0,c1,c2,c3,c4⟩, ?_⟩;refine ay 5 rfl (by kernel_rfl) (by kernel_rfl) (by kernel_rfl) (fun _ _ _ h=>h) rfl ⟨c0,c1,c2,c3,c4⟩ (by rintro w' ⟨hw1,hw2,hw3,hw4,hw5⟩; go_simp; rfl) ?_;simp only[Act.put,aZ,bg,bh];obtain⟨rc,hrc⟩: ∃rc,rc=fu c.seed (List.replicate 64 0) W 0 0 0:=⟨_,rfl⟩;have hrl:rc.length=324:=by rw[hrc]; exact oG _ (by simp) _ _ _ _
 rw[<-hrc]at HRB;have HRC:=aa hrc;clear hrc;have HI324:=aa (show(Tryz.prog.info? 237).map (·.size)=some rc.length by rw[hrl]; kernel_rfl);have HRG:=aa (gz HRB.o);have HBM:=aa (yQ rc c (-c.mn) hrl);have HRL:=aa hrl;clear hrl;refine an 6 rfl (by kernel_rfl) rfl (fun K hK=> ?_);go_wp2_with (refine wpList_load_mid rfl 237 _ rfl rb 0 rfl rc _ HRG.o Tryz.underlying237 rfl HI324.o ?_)
 refine⟨⟨c0,c1,c2,c3,c4⟩, ?_⟩;simp only[Act.put,aZ,bg,bh];refine an 11 rfl (by kernel_rfl) rfl (fun K hK=> ?_);go_wp2_with (go_loud (refine dk rfl 239 _ rfl [(0, .agg rc.toArray),(1,dB c),(3, .int .i64 (-c.mn))] (by kernel_rfl) _ HBM.o ?_));refine⟨⟨c0,c1,c2,c3,c4⟩, ?_⟩;simp only[Act.put,aZ,bg,bh];refine an 12 rfl (by kernel_rfl) rfl (fun K hK=> ?_)
 obtain⟨mc,hmc⟩: ∃mc,mc=rc++(cG c++[Value.int .i64 0,Value.int .i64 (-c.mn)]):=⟨_,rfl⟩;have hml:mc.length=331:=by rw[hmc]; exact oz c HRL.o 0 (-c.mn)
 rw[<-hmc];have HMC:=aa hmc;have HI331:=aa (show(Tryz.prog.info? 239).map (·.size)=some mc.toArray.size by rw[List.size_toArray,hml]; kernel_rfl);have HOLD:=aa (show Tryz.zeroCells239.size=mc.toArray.size by rw[show mc.toArray.size=331 from by rw[List.size_toArray]; exact hml]; kernel_rfl);have HONE:=aa (show mc.toArray.all (·.oneCell')=true from all_oneCell_toArray (by
  rw[hmc,HRC.o];exact tT c _ _ _))
 clear hml hmc;go_wp2_with (go_loud (refine wpList_store_row rfl 239 _ _ rfl (w.heap.size+1) _ rfl rfl _ _ HZ2.o HI331.o HOLD.o HONE.o ?_));simp only[Act.put];obtain⟨w3,hw3⟩: ∃w3,w3=w2.setRow (w.heap.size+1) mc.toArray:=⟨_,rfl⟩;rw[<-hw3];have hX3:w3.heap[w.heap.size]? =some (.cells (cG c).toArray 45 (0,0)):=by rw[hw3,setRow_other w2 _ _ _ (by omega)]; exact HX2.o
 have HM3:=aa (show w3.heap[w.heap.size+1]? =some (.cells mc.toArray 239 (0,0)) by rw[hw3]; exact setRow_heap w2 _ _ _ _ _ HZ2.o);have HB3:=aa (show Below w.heap.size w w3 by rw[hw3]; exact below_setRow HB2.o (by omega) _);clear hw3;refine⟨⟨(cell_of_row w3 _ _ _ _ _ hX3).trans rfl,(cell_of_row w3 _ _ _ _ _ hX3).trans rfl,(cell_of_row w3 _ _ _ _ _ hX3).trans rfl,(cell_of_row w3 _ _ _ _ _ hX3).trans rfl,(cell_of_row w3 _ _ _ _ _ hX3).trans rfl⟩, ?_⟩
 refine aM (by kernel_rfl) ?_;clear c0 c1 c2 c3 c4 hX3;have HFIN:=aa (show Ending.returned (.agg mc.toArray)=Ending.returned (.agg (ms c (fu c.seed (List.replicate 64 0) W 0 0 0) 0 (-c.mn)).toArray) by rw[HMC.o,HRC.o]; rfl);go_wp2_with fail;refine bodyPost_ret (results_cell_row rfl _ _ (w.heap.size+1) _ _ _ _ rfl HM3.o Tryz.underlying239 rfl HI331.o) rfl ?_;exact⟨HFIN.o,HB3.o⟩
structure mi (seed W : Nat) (d : List UInt8) (cs : List Value) : Prop where
 tab: ∀i,i<256->cs[i]? =some (.int .u64 ((oB seed i:Nat):Int))
 rng: ∀j,j<64-> ∃b,cs[256+j]? =some (ak b)
 win:cs[320]? =some (.int .i64 (W:Int))
 st: ∃s,s<64/\cs[321]? =some (.int .i64 (s:Int))/\ ∀j b,(iT W d)[j]? =some b->cs[256+(s+j)%64]? =some (ak b)
 len:cs[322]? =some (.int .i64 ((min W d.length:Nat):Int))
 sum:cs[323]? =some (.int .u64 ((kF seed (iT W d):Nat):Int))
theorem mi.lt {seed W:Nat} {d:List UInt8} {cs:List Value} (h:mi seed W d cs):323<cs.length:=(List.getElem?_eq_some_iff.1 h.sum).1
theorem BS {x y:Nat} (hx:x<18446744073709551616) (hy:y<18446744073709551616):bits BinOp.xor IntKind.u64 (x:Int) (y:Int)=((x^^^y:Nat):Int):=u64_xor_nat x y hx hy
theorem bM {w:World} {b k:Nat} {cs:List Value} {ty:TypeId} (h:w.heap[b]? =some (.cells cs.toArray ty (0,0))):w.cell? ⟨b,k,none⟩=cs[k]? :=by rw[cell_of_row w _ _ _ _ _ h,List.getElem?_toArray]
theorem gA {w:World} {b k:Nat} {cs:List Value} {ty:TypeId} (h:w.heap[b]? =some (.cells cs.toArray ty (0,0))) (v:Value):(w.setCell ⟨b,k,none⟩ v).heap[b]? =some (.cells (cs.set k v).toArray ty (0,0)):=by
 rw[heap_setCell_same w _ _ _ _ _ h,List.setIfInBounds_toArray]
theorem cu {w V:World} {rb:Nat} (h:w.grownBy V (some rb)) (k:Nat) (v:Value):w.grownBy (V.setCell ⟨rb,k,none⟩ v) (some rb):=h.trans (aN _ _ _ _)
theorem mJ {w V:World} {rb:Nat} (h:w.grownBy V (some rb)):w.grownBy V.drew (some rb):=h.trans ⟨rfl,rfl,rfl,Nat.le_refl _,fun _ _ _=>rfl⟩
theorem jd {w V:World} {rb:Nat} (h:w.grownBy V (some rb)) (n:Nat):w.grownBy (V.drewN n) (some rb):=h.trans ⟨rfl,rfl,rfl,Nat.le_refl _,fun _ _ _=>rfl⟩
theorem mi.push {seed W:Nat} {d:List UInt8} {cs cs2:List Value} (h:mi seed W d cs) {b:UInt8} {q:List UInt8} {s2 n2:Nat} (heq: ∀i,i<321->cs2[i]? =cs[i]?) (hs:cs2[321]? =some (.int .i64 (s2:Int))) (hs2:s2<64) (hl:323<cs2.length)
  (hsum:cs2[323]? =some (.int .u64 ((kF seed (iT W (d++[b])):Nat):Int))) (hq:iT W (d++[b])=q++[b]) (hqn:q.length=n2) (hn:n2<W) (hW:W<=64) (hring: ∀(j:Nat) (c:UInt8),q[j]? =some c->cs2[256+(s2+j)%64]? =some (ak c)):
  mi seed W (d++[b]) ((cs2.set (256+(s2+n2)%64) (ak b)).set 322 (.int .i64 ((n2+1:Nat):Int))) where
 tab i hi:=by rw[List.getElem?_set_ne (by omega),List.getElem?_set_ne (by omega),heq i (by omega)]; exact h.tab i hi
 rng j hj:=by
  rw[List.getElem?_set_ne (by omega)]
  by_cases e:(s2+n2)%64=j
  ·rw[e,List.getElem?_set_self (by omega)]; exact⟨b,rfl⟩
  ·rw[List.getElem?_set_ne (by omega),heq _ (by omega)]; exact h.rng j hj
 win:=by rw[List.getElem?_set_ne (by omega),List.getElem?_set_ne (by omega),heq _ (by omega)]; exact h.win
 st:=by
  refine⟨s2,hs2,by rw[List.getElem?_set_ne (by omega),List.getElem?_set_ne (by omega)]; exact hs,fun j c hc=> ?_⟩;rw[hq]at hc;rw[List.getElem?_set_ne (by omega)]
  rcases Nat.lt_trichotomy j n2 with hj | hj | hj
  ·rw[List.getElem?_append_left (by omega)]at hc;rw[List.getElem?_set_ne (by omega)];exact hring j c hc
  ·subst hj;rw[List.getElem?_append_right (by omega),hqn,Nat.sub_self,List.getElem?_cons_zero]at hc
   cases hc
   rw[List.getElem?_set_self (by omega)]
  ·rw[List.getElem?_eq_none (by simp; omega)]at hc; cases hc
 len:=by
  rw[List.getElem?_set_self (by simpa using by omega)];have:=iU W (d++[b]);rw[hq]at this;simp only[List.length_append,List.length_cons,List.length_nil]at this ⊢;rw[<-this,hqn]
 sum:=by rw[List.getElem?_set_ne (by omega),List.getElem?_set_ne (by omega)]; exact hsum
theorem FA (rb:Nat) (ty:TypeId) (seed W:Nat) (d:List UInt8) (b:UInt8) (cs:List Value) (w:World) (hb:w.heap[rb]? =some (.cells cs.toArray ty (0,0))) (hr:mi seed W d cs) (hW:1<=W) (hW2:W<=64):
  Calls Tryz.prog 200 #[.pointer (some ⟨rb,0,none⟩), .int .u8 (b.toNat:Int)] w fun e w'=>e= .returned (.tuple #[])/\(∃cs',w'.heap[rb]? =some (.cells cs'.toArray ty (0,0))/\mi seed W (d++[b]) cs'/\cs'.length=cs.length/\ ∀i,324<=i->cs'[i]? =cs[i]?)/\w.grownBy w' (some rb):=by
 have HB:=aa hb;have HR:=aa hr;clear hb hr;have hbt:=b.toNat_lt;have hbti:(b.toNat:Int)<256:=by omega
 obtain⟨t,ht⟩: ∃t,t=oB seed b.toNat:=⟨_,rfl⟩;obtain⟨h,hh⟩: ∃h,h=kF seed (iT W d):=⟨_,rfl⟩;have htl:t<18446744073709551616:=by rw[ht]; exact lR _ _
 have hhl:h<18446744073709551616:=by rw[hh]; exact qM _ _
 have c323:w.cell? ⟨rb,323,none⟩=some (.int .u64 (h:Int)):=by rw[bM HB.o,HR.o.sum,hh]
 have ct:w.cell? ⟨rb,b.toNat,none⟩=some (.int .u64 (t:Int)):=by rw[bM HB.o,HR.o.tab _ hbt,ht]
 have HT:=aa (And.intro ht hh);clear ht hh
 go_enter Tryz.func200,Tryz.ntmps200
 go_wp2_with fail;refine bN (fun w'=>w'.cell? ⟨rb,323,none⟩=some (.int .u64 (h:Int))/\w'.cell? ⟨rb,b.toNat,none⟩=some (.int .u64 (t:Int))) (by kernel_rfl) (by kernel_rfl) ?_;simp only[List.dropLast_cons_cons,List.dropLast_singleton,List.length_cons,List.length_nil,Nat.reduceAdd,Nat.reduceSub];obtain⟨V,hV⟩: ∃V:World,V=w.drew:=⟨_,rfl⟩;rw[<-hV];have HBV:=aa (show V.heap[rb]? =some (.cells cs.toArray ty (0,0)) by rw[hV]; exact HB.o)
 have HGV:=aa (show w.grownBy V (some rb) by rw[hV]; exact⟨rfl,rfl,rfl,Nat.le_refl _,fun _ _ _=>rfl⟩);clear c323 ct;have c323:V.cell? ⟨rb,323,none⟩=some (.int .u64 (h:Int)):=by rw[bM HBV.o,HR.o.sum,HT.o.2]
 have ct:V.cell? ⟨rb,b.toNat,none⟩=some (.int .u64 (t:Int)):=by rw[bM HBV.o,HR.o.tab _ hbt,HT.o.1]
 clear hV
 iterate 5 (refine aJ rfl (by kernel_rfl) (fun _ _ _ h=>h) rfl ⟨c323,ct⟩ (by rintro w' ⟨hw1,hw2⟩; go_simp; rfl) ?_; simp only[Act.put,aZ,bg,bh])
 refine ay 6 rfl (by kernel_rfl) (by kernel_rfl) (by kernel_rfl) (fun _ _ _ h=>h) rfl ⟨c323,ct⟩ (by rintro w' ⟨hw1,hw2⟩; go_simp; rfl) ?_;simp only[Act.put,aZ,bg,bh];refine ay 7 rfl (by kernel_rfl) (by kernel_rfl) (by kernel_rfl) (fun _ _ _ h=>h) rfl ⟨c323,ct⟩ (by rintro w' ⟨hw1,hw2⟩; go_simp; rfl) ?_;simp only[Act.put,aZ,bg,bh];refine ay 8 rfl (by kernel_rfl) (by kernel_rfl) (by kernel_rfl) (fun _ _ _ h=>h) rfl ⟨c323,ct⟩ (by rintro w' ⟨hw1,hw2⟩; go_simp; rfl) ?_
 simp only[Act.put,aZ,bg,bh];refine ay 9 rfl (by kernel_rfl) (by kernel_rfl) (by kernel_rfl) (fun _ _ _ h=>h) rfl ⟨c323,ct⟩ (by rintro w' ⟨hw1,hw2⟩; go_simp; rfl) ?_;simp only[Act.put,aZ,bg,bh];refine ay 10 rfl (by kernel_rfl) (by kernel_rfl) (by kernel_rfl) (fun _ _ _ h=>h) rfl ⟨c323,ct⟩ (by rintro w' ⟨hw1,hw2⟩; go_simp; rfl) ?_;simp only[Act.put,aZ,bg,bh]
 refine ay 11 rfl (by kernel_rfl) (by kernel_rfl) (by kernel_rfl) (fun _ _ _ h=>h) rfl ⟨c323,ct⟩ (by rintro w' ⟨hw1,hw2⟩; go_simp; rfl) ?_;simp only[Act.put,aZ,bg,bh];refine an 5 rfl (by kernel_rfl) rfl (fun K hK=> ?_);go_wp2_with fail;refine(um h 1 V hhl (by decide)).mono ?_;rintro e w1 ⟨rfl,rfl⟩;go_wp2_with fail;refine⟨⟨c323,ct⟩, ?_⟩
 iterate 3 (refine aJ rfl (by kernel_rfl) (fun _ _ _ h=>h) rfl ⟨c323,ct⟩ (by rintro w' ⟨hw1,hw2⟩; go_simp; rfl) ?_; simp only[Act.put,aZ,bg,bh])
 rw[BS (jP 1 hhl) htl];obtain⟨h1,hh1⟩: ∃h1,h1=ez h 1^^^t:=⟨_,rfl⟩;rw[<-hh1];have hh1l:h1<18446744073709551616:=by rw[hh1]; exact lG (jP 1 hhl) htl
 have HH1:=aa hh1;clear hh1;have cf:V.frozen? ⟨rb,323,none⟩=false:=frozen_of_row V _ _ _ _ HBV.o;refine aM (by kernel_rfl) ?_;refine bX rfl rfl (fun K hK=> ?_);go_wp2_with fail;obtain⟨U,hU⟩: ∃U:World,U=V.setCell ⟨rb,323,none⟩ (.int .u64 (h1:Int)):=⟨_,rfl⟩;rw[<-hU];obtain⟨cs1,hc1⟩: ∃cs1,cs1=cs.set 323 (.int .u64 (h1:Int)):=⟨_,rfl⟩;have HBU:=aa (show U.heap[rb]? =some (.cells cs1.toArray ty (0,0)) by rw[hU,hc1]; exact gA HBV.o _)
 have HGU:=aa (show w.grownBy U (some rb) by rw[hU]; exact cu HGV.o _ _);have HC1:=aa hc1;clear hU c323 ct cf hc1;obtain⟨n,hn⟩: ∃n,n=min W d.length:=⟨_,rfl⟩;obtain⟨s,hs,hsc,hsw⟩:=HR.o.st;have hl:=HR.o.lt;have c322:U.cell? ⟨rb,322,none⟩=some (.int .i64 (n:Int)):=by rw[bM HBU.o,HC1.o,List.getElem?_set_ne (by decide),HR.o.len,hn]
 have c320:U.cell? ⟨rb,320,none⟩=some (.int .i64 (W:Int)):=by rw[bM HBU.o,HC1.o,List.getElem?_set_ne (by decide),HR.o.win]
 have c321:U.cell? ⟨rb,321,none⟩=some (.int .i64 (s:Int)):=by rw[bM HBU.o,HC1.o,List.getElem?_set_ne (by decide),hsc]
 have HLN:=aa (show cs[322]? =some (.int .i64 (n:Int)) by rw[HR.o.len,hn]);have HN:=aa hn;have HSC:=aa hsc;clear hn hsc;have HSW:=aa hsw;clear hsw
 go_quiet (fail)
 have HBU1:=aa (show(U.drewN nq).heap[rb]? =some (.cells cs1.toArray ty (0,0))from HBU.o);have HGU1:=aa (show w.grownBy (U.drewN nq) (some rb)from jd HGU.o _);clear HBU HGU c322 c320 c321
 generalize U.drewN nq=U1 at *
 by_cases hf:n=W
 ·obtain⟨x,l,hxl⟩: ∃x l,iT W d=x::l:=by
   cases hw:iT W d with
   | nil=>have:=iU W d; rw[hw,<-HN.o,hf]at this; simp at this; omega
   | cons x l=>exact⟨x,l,rfl⟩
  have hll:l.length+1=W:=by have:=iU W d; rw[hxl,<-HN.o,hf]at this; simpa using this
  have hx:=HSW.o 0 x (by rw[hxl]; rfl);rw[Nat.add_zero,Nat.mod_eq_of_lt hs]at hx;have hxt:=x.toNat_lt;have hxti:(x.toNat:Int)<256:=by omega
  have hsi:(s:Int)<64:=by omega
  obtain⟨tx,htx⟩: ∃tx,tx=oB seed x.toNat:=⟨_,rfl⟩;have htxl:tx<18446744073709551616:=by rw[htx]; exact lR _ _
  have cx:=HR.o.tab _ hxt;rw[<-htx]at cx;have HX:=aa (And.intro hxl (And.intro hx (And.intro htx cx)));clear hxl hx htx cx;subst hf;go_wp2_with fail;refine bN (fun w'=>w'.cell? ⟨rb,323,none⟩=some (.int .u64 (h1:Int))/\w'.cell? ⟨rb,321,none⟩=some (.int .i64 (s:Int))/\w'.cell? ⟨rb,256+s,none⟩=some (.int .u8 (x.toNat:Int))/\w'.cell? ⟨rb,x.toNat,none⟩=some (.int .u64 (tx:Int))/\w'.cell? ⟨rb,320,none⟩=some (.int .i64 (n:Int))) (by kernel_rfl) (by kernel_rfl) ?_
  simp only[List.dropLast_cons_cons,List.dropLast_singleton,List.length_cons,List.length_nil,Nat.reduceAdd,Nat.reduceSub];obtain⟨V2,hV2⟩: ∃V2:World,V2=U1.drew:=⟨_,rfl⟩;rw[<-hV2];have HBV2:=aa (show V2.heap[rb]? =some (.cells cs1.toArray ty (0,0)) by rw[hV2]; exact HBU1.o);have HGV2:=aa (show w.grownBy V2 (some rb) by rw[hV2]; exact mJ HGU1.o);clear hV2;have c323:V2.cell? ⟨rb,323,none⟩=some (.int .u64 (h1:Int)):=by rw[bM HBV2.o,HC1.o,List.getElem?_set_self (by omega)]
  have c320:V2.cell? ⟨rb,320,none⟩=some (.int .i64 (n:Int)):=by rw[bM HBV2.o,HC1.o,List.getElem?_set_ne (by decide),HR.o.win]
  have c321:V2.cell? ⟨rb,321,none⟩=some (.int .i64 (s:Int)):=by rw[bM HBV2.o,HC1.o,List.getElem?_set_ne (by decide),HSC.o]
  have cx1:V2.cell? ⟨rb,256+s,none⟩=some (.int .u8 (x.toNat:Int)):=by rw[bM HBV2.o,HC1.o,List.getElem?_set_ne (by omega),HX.o.2.1]; rfl
  have ct1:V2.cell? ⟨rb,x.toNat,none⟩=some (.int .u64 (tx:Int)):=by rw[bM HBV2.o,HC1.o,List.getElem?_set_ne (by omega),HX.o.2.2.2]
  iterate 22 (refine aJ rfl (by kernel_rfl) (fun _ _ _ h=>h) rfl ⟨c323,c321,cx1,ct1,c320⟩ (by rintro w' ⟨hw1,hw2,hw3,hw4,hw5⟩; go_simp; rfl) ?_; simp only[Act.put,aZ,bg,bh])
  refine an 22 rfl (by kernel_rfl) rfl (fun K hK=> ?_);go_wp2_with fail;refine(um tx n V2 htxl hW2).mono ?_;rintro e w1 ⟨rfl,rfl⟩;go_wp2_with fail;refine⟨⟨c323,c321,cx1,ct1,c320⟩, ?_⟩
  iterate 3 (refine aJ rfl (by kernel_rfl) (fun _ _ _ h=>h) rfl ⟨c323,c321,cx1,ct1,c320⟩ (by rintro w' ⟨hw1,hw2,hw3,hw4,hw5⟩; go_simp; rfl) ?_; simp only[Act.put,aZ,bg,bh])
  rw[BS hh1l (jP n htxl)];obtain⟨h2,hh2⟩: ∃h2,h2=h1^^^ez tx n:=⟨_,rfl⟩;rw[<-hh2];have hh2l:h2<18446744073709551616:=by rw[hh2]; exact lG hh1l (jP n htxl)
  have HH2:=aa hh2;have cf:V2.frozen? ⟨rb,323,none⟩=false:=frozen_of_row V2 _ _ _ _ HBV2.o;have cf1:V2.frozen? ⟨rb,321,none⟩=false:=frozen_of_row V2 _ _ _ _ HBV2.o;have cf2:V2.frozen? ⟨rb,322,none⟩=false:=frozen_of_row V2 _ _ _ _ HBV2.o;have c322:V2.cell? ⟨rb,322,none⟩=some (.int .i64 (n:Int)):=by rw[bM HBV2.o,HC1.o,List.getElem?_set_ne (by decide),HLN.o]
  obtain⟨s2,hs2⟩: ∃s2,s2=(s+1)%64:=⟨_,rfl⟩;obtain⟨n2,hn2⟩: ∃n2,n2=n-1:=⟨_,rfl⟩;have hsa:IntKind.i64.wrap ((s:Int)+1)=((s+1:Nat):Int):=by rw[IntKind.wrap_i64]; omega
  have hsb:((s:Int)+1)%64=(s2:Int):=by omega
  have hna:IntKind.i64.wrap ((n:Int)-1)=(n2:Int):=by rw[IntKind.wrap_i64]; omega
  have hs264:s2<64:=by omega
  have hn264:n2<64:=by omega
  have HS2:=aa hs2;have HN2:=aa hn2;clear hh2 hs2 hn2;refine aM (by kernel_rfl) ?_;refine bX rfl rfl (fun K hK=> ?_);go_wp2_with fail;obtain⟨X,hX⟩: ∃X:World,X=((V2.setCell ⟨rb,323,none⟩ (.int .u64 (h2:Int))).setCell ⟨rb,321,none⟩ (.int .i64 (s2:Int))).setCell ⟨rb,322,none⟩ (.int .i64 (n2:Int)):=⟨_,rfl⟩;rw[<-hX];have HBX:=aa (show X.heap[rb]? =some (.cells (((cs1.set 323 (.int .u64 (h2:Int))).set 321 (.int .i64 (s2:Int))).set 322 (.int .i64 (n2:Int))).toArray ty (0,0)) by rw[hX]; exact gA (gA (gA HBV2.o _) _) _)
  have HGX:=aa (show w.grownBy X (some rb) by rw[hX]; exact cu (cu (cu HGV2.o _ _) _ _) _ _);have HCX:=aa (show(((cs1.set 323 (.int .u64 (h2:Int))).set 321 (.int .i64 (s2:Int))).set 322 (.int .i64 (n2:Int)))[321]? =some (.int .i64 (s2:Int))/\(((cs1.set 323 (.int .u64 (h2:Int))).set 321 (.int .i64 (s2:Int))).set 322 (.int .i64 (n2:Int)))[322]? =some (.int .i64 (n2:Int))from⟨by rw[List.getElem?_set_ne (by decide),List.getElem?_set_self (by rw[HC1.o]; simp; omega)],by rw[List.getElem?_set_self (by rw[HC1.o]; simp; omega)]⟩)
  have HRX:=aa (show ∀j,j<64-> ∃c,(((cs1.set 323 (.int .u64 (h2:Int))).set 321 (.int .i64 (s2:Int))).set 322 (.int .i64 (n2:Int)))[256+j]? =some (ak c)from fun j hj=>by
   rw[List.getElem?_set_ne (by omega),List.getElem?_set_ne (by omega),List.getElem?_set_ne (by omega),HC1.o,List.getElem?_set_ne (by omega)];exact HR.o.rng j hj)
  clear hX c323 c320 c321 cx1 ct1 cf cf1 cf2 c322;have hbt2:=hbt;obtain⟨j2,hj2⟩: ∃j2,j2=(s2+n2)%64:=⟨_,rfl⟩;have hj64:j2<64:=by omega
  have hj64i:(j2:Int)<64:=by omega
  have hadd:IntKind.i64.wrap ((s2:Int)+(n2:Int))=(s2:Int)+(n2:Int):=by rw[IntKind.wrap_i64]; omega
  have hmod:((s2:Int)+(n2:Int))%64=(j2:Int):=by omega
  have hmod2:Int.tmod ((s2:Int)+(n2:Int)) 64=(j2:Int):=by rw[Int.tmod_eq_emod_of_nonneg (by omega)]; omega
  have hmod3:IntKind.i64.wrap (j2:Int)=(j2:Int):=by rw[IntKind.wrap_i64]; omega
  have hinc:IntKind.i64.wrap ((n2:Int)+1)=((n2+1:Nat):Int):=by rw[IntKind.wrap_i64]; omega
  have c321:X.cell? ⟨rb,321,none⟩=some (.int .i64 (s2:Int)):=by rw[bM HBX.o,HCX.o.1]
  have c322:X.cell? ⟨rb,322,none⟩=some (.int .i64 (n2:Int)):=by rw[bM HBX.o,HCX.o.2]
  have cf1:X.frozen? ⟨rb,256+j2,none⟩=false:=frozen_of_row X _ _ _ _ HBX.o;have cf2:X.frozen? ⟨rb,322,none⟩=false:=frozen_of_row X _ _ _ _ HBX.o;obtain⟨bj,hbj⟩:=HRX.o j2 hj64;have cbj:X.cell? ⟨rb,256+j2,none⟩=some (ak bj):=by rw[bM HBX.o,hbj]
  clear hbj;have hne1: ¬(256+j2=322):=by omega
  have hne2: ¬(322=256+j2):=by omega
  have HJ2:=aa hj2;clear hj2;refine az [some 15,none] (by kernel_rfl) (by kernel_rfl) (by kernel_rfl) ?_;simp only[bC,List.take_succ_cons,List.take_zero,List.drop_succ_cons,List.drop_zero]
  repeat (first | (refine aK rfl ?_; simp only[Act.put,aZ,bg,bh]) | (refine aS rfl (fun K hK=> ?_); go_simp; refine hK _ ?_; clear hK K))
  refine aR ?_;refine bJ rfl (fun K hK=> ?_);go_wp2_with fail
  go_end0
  refine⟨rfl,⟨_,gA (gA (show X.drew.heap[rb]? =_ from HBX.o) _) _, ?_, ?_, ?_⟩,cu (cu (mJ HGX.o) _ _) _ _⟩
  ·rw[HJ2.o];have hlen:=(iU n d).symm;refine HR.o.push (b:=b) (q:=l) (s2:=s2) (n2:=n2) ?_ ?_ hs264 ?_ ?_ ?_ ?_ ?_ hW2 ?_
   ·intro i hi;rw[List.getElem?_set_ne (by omega),List.getElem?_set_ne (by omega),List.getElem?_set_ne (by omega),HC1.o,List.getElem?_set_ne (by omega)]
   ·exact HCX.o.1
   ·rw[HC1.o]; simp; omega
   ·rw[List.getElem?_set_ne (by omega),List.getElem?_set_ne (by omega),List.getElem?_set_self (by rw[HC1.o]; simp; omega),HH2.o,HH1.o,HT.o.1,HT.o.2,HX.o.2.2.1,uG hW (by have:=HN.o; omega),HX.o.1];have:=zm (lR seed) x b l (by omega);rw[hll]at this;unfold kF;rw[this]
    rfl
   ·rw[uG hW (by have:=HN.o; omega),HX.o.1]; rfl
   ·have:=HN2.o; omega
   ·have:=HN2.o; omega
   ·intro j c hc;have hjl:=(List.getElem?_eq_some_iff.1 hc).1;rw[List.getElem?_set_ne (by omega),List.getElem?_set_ne (by omega),List.getElem?_set_ne (by omega),HC1.o,List.getElem?_set_ne (by omega)];have:=HSW.o (j+1) c (by rw[HX.o.1]; exact hc);rw[show(s2+j)%64=(s+(j+1))%64 by have:=HS2.o; omega];exact this
  ·rw[HC1.o]; simp
  ·intro i hi;have:=HJ2.o;rw[List.getElem?_set_ne (by omega),List.getElem?_set_ne (by omega),List.getElem?_set_ne (by omega),List.getElem?_set_ne (by omega),List.getElem?_set_ne (by omega),HC1.o,List.getElem?_set_ne (by omega)]
 ·go_wp2_with fail;obtain⟨X,hX⟩: ∃X:World,X=U1:=⟨_,rfl⟩;rw[<-hX];obtain⟨s2,hs2⟩: ∃s2,s2=s:=⟨_,rfl⟩;obtain⟨n2,hn2⟩: ∃n2,n2=n:=⟨_,rfl⟩;have HBX:=aa (show X.heap[rb]? =some (.cells cs1.toArray ty (0,0)) by rw[hX]; exact HBU1.o);have HGX:=aa (show w.grownBy X (some rb) by rw[hX]; exact HGU1.o);have HCX:=aa (show cs1[321]? =some (.int .i64 (s2:Int))/\cs1[322]? =some (.int .i64 (n2:Int))from⟨by rw[HC1.o,List.getElem?_set_ne (by decide),HSC.o,hs2],by rw[HC1.o,List.getElem?_set_ne (by decide),HLN.o,hn2]⟩)
  have HRX:=aa (show ∀j,j<64-> ∃c,cs1[256+j]? =some (ak c)from fun j hj=>by
   rw[HC1.o,List.getElem?_set_ne (by omega)];exact HR.o.rng j hj)
  have hs264:s2<64:=by omega
  have hn264:n2<64:=by have:=HN.o; omega
  have HS2:=aa hs2;have HN2:=aa hn2;clear hX hs2 hn2;have hbt2:=hbt;obtain⟨j2,hj2⟩: ∃j2,j2=(s2+n2)%64:=⟨_,rfl⟩;have hj64:j2<64:=by omega
  have hj64i:(j2:Int)<64:=by omega
  have hadd:IntKind.i64.wrap ((s2:Int)+(n2:Int))=(s2:Int)+(n2:Int):=by rw[IntKind.wrap_i64]; omega
  have hmod:((s2:Int)+(n2:Int))%64=(j2:Int):=by omega
  have hmod2:Int.tmod ((s2:Int)+(n2:Int)) 64=(j2:Int):=by rw[Int.tmod_eq_emod_of_nonneg (by omega)]; omega
  have hmod3:IntKind.i64.wrap (j2:Int)=(j2:Int):=by rw[IntKind.wrap_i64]; omega
  have hinc:IntKind.i64.wrap ((n2:Int)+1)=((n2+1:Nat):Int):=by rw[IntKind.wrap_i64]; omega
  have c321:X.cell? ⟨rb,321,none⟩=some (.int .i64 (s2:Int)):=by rw[bM HBX.o,HCX.o.1]
  have c322:X.cell? ⟨rb,322,none⟩=some (.int .i64 (n2:Int)):=by rw[bM HBX.o,HCX.o.2]
  have cf1:X.frozen? ⟨rb,256+j2,none⟩=false:=frozen_of_row X _ _ _ _ HBX.o;have cf2:X.frozen? ⟨rb,322,none⟩=false:=frozen_of_row X _ _ _ _ HBX.o;obtain⟨bj,hbj⟩:=HRX.o j2 hj64;have cbj:X.cell? ⟨rb,256+j2,none⟩=some (ak bj):=by rw[bM HBX.o,hbj]
  clear hbj;have hne1: ¬(256+j2=322):=by omega
  have hne2: ¬(322=256+j2):=by omega
  have HJ2:=aa hj2;clear hj2;refine az [some 15,none] (by kernel_rfl) (by kernel_rfl) (by kernel_rfl) ?_;simp only[bC,List.take_succ_cons,List.take_zero,List.drop_succ_cons,List.drop_zero]
  repeat (first | (refine aK rfl ?_; simp only[Act.put,aZ,bg,bh]) | (refine aS rfl (fun K hK=> ?_); go_simp; refine hK _ ?_; clear hK K))
  refine aR ?_;refine bJ rfl (fun K hK=> ?_);go_wp2_with fail
  go_end0
  have hdl:d.length<W:=by have:=HN.o; omega
  refine⟨rfl,⟨_,gA (gA (show X.drew.heap[rb]? =_ from HBX.o) _) _, ?_, ?_, ?_⟩,cu (cu (mJ HGX.o) _ _) _ _⟩
  ·rw[HJ2.o];refine HR.o.push (b:=b) (q:=iT W d) (s2:=s2) (n2:=n2) ?_ ?_ hs264 ?_ ?_ (uF hdl b) ?_ ?_ hW2 ?_
   ·intro i hi;rw[HC1.o,List.getElem?_set_ne (by omega)]
   ·exact HCX.o.1
   ·rw[HC1.o]; simp; omega
   ·rw[HC1.o,List.getElem?_set_self (by omega),HH1.o,HT.o.1,HT.o.2,uF hdl];unfold kF;rw[iI]
   ·rw[iU,<-HN.o,HN2.o]
   ·have:=HN2.o; have:=HN.o; omega
   ·intro j c hc;rw[HC1.o,List.getElem?_set_ne (by omega),HS2.o];exact HSW.o j c hc
  ·rw[HC1.o]; simp
  ·intro i hi;have:=HJ2.o;rw[List.getElem?_set_ne (by omega),List.getElem?_set_ne (by omega),HC1.o,List.getElem?_set_ne (by omega)]
structure vQ (w : World) : Prop where
 tab:TabAt 6 Lib.deBruijn64tab w
 lt:6<w.heap.size
theorem vQ.block {w w':World} (h:vQ w) (hb:w'.heap[6]? =w.heap[6]?) (hs:w.heap.size<=w'.heap.size):vQ w':=
 ⟨fun j hj=>by rw[<-h.tab j hj]; exact World.cell?_of_block hb,Nat.lt_of_lt_of_le h.lt hs⟩
theorem vQ.below {w0 w w':World} (h:vQ w) (hb:Below w0.heap.size w w') (hlt:6<w0.heap.size):vQ w':=h.block (hb.block _ hlt) hb.size
theorem vQ.grown {w w':World} {r:Option Nat} (h:vQ w) (hg:w.grownBy w' r) (hr:r≠some 6):vQ w':=h.block (hg.block _ h.lt (fun e=>hr e.symm)) hg.size
theorem lx (rb n:Nat) (w:World) (h:w.cell? ⟨rb,322,none⟩=some (.int .i64 (n:Int))):Calls Tryz.prog 201 #[.pointer (some ⟨rb,0,none⟩)] w fun e w'=>e= .returned (.int .i64 (n:Int))/\w=w':=by
 go_enter Tryz.func201,Tryz.ntmps201
 go_wp2_with fail;go_ret;exact⟨rfl,rfl⟩
theorem ly (rb n:Nat) (w:World) (h:w.cell? ⟨rb,323,none⟩=some (.int .u64 (n:Int))):Calls Tryz.prog 203 #[.pointer (some ⟨rb,0,none⟩)] w fun e w'=>e= .returned (.int .u64 (n:Int))/\w=w':=by
 go_enter Tryz.func203,Tryz.ntmps203
 go_wp2_with fail;go_ret;exact⟨rfl,rfl⟩
theorem DZ (x:Nat) (w:World) (hx:x<18446744073709551616) (hT:vQ w):Calls Tryz.prog 202 #[.int .u64 (x:Int)] w fun e w'=>e= .returned (.int .i64 ((Lib.ctz 64 x:Nat):Int))/\w=w':=by
 go_enter Tryz.func202,Tryz.ntmps202
 go_wp2_with fail;refine(Tryz.bits_TrailingZeros64 x hx w (fun _=>hT.tab)).mono ?_;rintro e w' ⟨rfl,rfl⟩;go_wp2_with fail;go_ret;exact⟨rfl,rfl⟩
def kI (c:cF) (data:List UInt8) (p:Nat):Bool:=Bt c.seed c.win.toNat c.bits.toNat (data.take p)
structure oQ (c : cF) (data : List UInt8) (p : Nat) (cs : List Value) : Prop where
 roll:mi c.seed c.win.toNat (data.take p) cs
 len:cs.length=331
 cut: ∀i,i<5->cs[324+i]? =(cG c)[i]?
 pos:cs[329]? =some (.int .i64 (p:Int))
 last:cs[330]? =some (.int .i64 (kH (kI c data) c.mn.toNat p))
theorem xr (mk:Nat->Bool) (mn p:Nat): -(mn:Int)<=kH mk mn p/\kH mk mn p<=(p:Int):=by
 rcases mL (mk:=mk) (mn:=mn) p with⟨h,_⟩ | ⟨L,h,h1,h2,_⟩<;> rw[h]<;> omega
theorem FN (c:cF) (data:List UInt8) (p:Nat) (b:UInt8) (mb:Nat) (ty:TypeId) (cs:List Value) (w:World) (hc:dV c=true) (hb:data[p]? =some b) (hp:data.length<=1048576) (hbox:w.heap[mb]? =some (.cells cs.toArray ty (0,0))) (hm:oQ c data p cs) (hT:vQ w) (hmb:mb≠6):
  Calls Tryz.prog 188 #[.pointer (some ⟨mb,0,none⟩), .int .u8 (b.toNat:Int)] w fun e w'=>e= .returned (.bool (eR (kI c data) c.mn.toNat (p+1)))/\(∃cs',w'.heap[mb]? =some (.cells cs'.toArray ty (0,0))/\oQ c data (p+1) cs')/\w.grownBy w' (some mb):=by
 have hv:=fX.1 hc;have HV:=aa hv;have HM:=aa hm;have HBX:=aa hbox;have HT:=aa hT;have hpl:=(List.getElem?_eq_some_iff.1 hb).1;have htk:data.take (p+1)=data.take p++[b]:=by rw[List.take_add_one,hb]; rfl
 have HTK:=aa htk;obtain⟨W,hW⟩: ∃W,W=c.win.toNat:=⟨_,rfl⟩;obtain⟨B,hB⟩: ∃B,B=c.bits.toNat:=⟨_,rfl⟩;obtain⟨mn,hmn⟩: ∃mn,mn=c.mn.toNat:=⟨_,rfl⟩;have hWi:c.win=(W:Int):=by omega
 have hBi:c.bits=(B:Int):=by omega
 have hmi:c.mn=(mn:Int):=by omega
 have hW1:1<=W:=by omega
 have hW2:W<=64:=by omega
 have HI:=aa (And.intro hW (And.intro hB (And.intro hmn (And.intro hWi (And.intro hBi hmi)))));clear hc hm hbox hT hb htk hv hW hB hmn hWi hBi hmi
 go_enter Tryz.func188,Tryz.ntmps188
 go_wp2_with fail;refine(FA mb ty c.seed W (data.take p) b cs w HBX.o (by have:=HM.o.roll; rw[<-HI.o.1]at this; exact this) hW1 hW2).mono ?_;rintro e w1 ⟨rfl,⟨cs1,hb1,hr1,hl1,hk1⟩,hg1⟩;have HB1:=aa hb1;have HR1:=aa hr1;have HK1:=aa hk1;have HL1:=aa (hl1.trans HM.o.len);have HG1:=aa hg1;have HT1:=aa (HT.o.grown hg1 (fun e=>hmb (Option.some.inj e)));clear hb1 hr1 hk1 hl1 hg1
 have c329:w1.cell? ⟨mb,329,none⟩=some (.int .i64 (p:Int)):=by rw[bM HB1.o,HK1.o _ (by decide),HM.o.pos]
 have cf:w1.frozen? ⟨mb,329,none⟩=false:=frozen_of_row w1 _ _ _ _ HB1.o;have hinc:IntKind.i64.wrap ((p:Int)+1)=((p+1:Nat):Int):=by rw[IntKind.wrap_i64]; omega
 go_wp2_with fail;obtain⟨cs2,hcs2⟩: ∃cs2,cs2=cs1.set 329 (.int .i64 (((p:Nat):Int)+1)):=⟨_,rfl⟩;obtain⟨U,hU⟩: ∃U:World,U=w1.setCell ⟨mb,329,none⟩ (.int .i64 (((p:Nat):Int)+1)):=⟨_,rfl⟩;rw[<-hU];have HBU:=aa (show U.heap[mb]? =some (.cells cs2.toArray ty (0,0)) by rw[hU,hcs2]; exact gA HB1.o _);have HGU:=aa (show w.grownBy U (some mb) by rw[hU]; exact cu HG1.o _ _)
 have HTU:=aa (show vQ U by rw[hU]; exact HT1.o.grown (aN _ _ _ _) (fun e=>hmb (Option.some.inj e)));have HC2:=aa hcs2;have HL2:=aa (show cs2.length=331 by rw[hcs2,List.length_set]; exact HL1.o);clear hU hcs2 c329 cf hinc;obtain⟨n,hn⟩: ∃n,n=min W (p+1):=⟨_,rfl⟩;obtain⟨h,hh⟩: ∃h,h=kF c.seed (iT W (data.take (p+1))):=⟨_,rfl⟩;have hhl:h<18446744073709551616:=by rw[hh]; exact qM _ _
 obtain⟨z,hz⟩: ∃z,z=Lib.ctz 64 h:=⟨_,rfl⟩;obtain⟨la,hla⟩: ∃la,la=kH (kI c data) mn p:=⟨_,rfl⟩;have hlr: -(mn:Int)<=la/\la<=(p:Int):=by rw[hla]; exact xr _ _ _
 have c322:U.cell? ⟨mb,322,none⟩=some (.int .i64 (n:Int)):=by
  rw[bM HBU.o,HC2.o,List.getElem?_set_ne (by decide),HR1.o.len,hn,List.length_append,List.length_take,List.length_cons,List.length_nil,Nat.min_eq_left (by omega:p<=data.length)]
 have c323:U.cell? ⟨mb,323,none⟩=some (.int .u64 (h:Int)):=by
  rw[bM HBU.o,HC2.o,List.getElem?_set_ne (by decide),HR1.o.sum,hh,HTK.o]
 have c324:U.cell? ⟨mb,324,none⟩=some (.int .i64 (mn:Int)):=by
  rw[bM HBU.o,HC2.o,List.getElem?_set_ne (by decide),HK1.o _ (by decide),HM.o.cut 0 (by decide),<-HI.o.2.2.2.2.2]; rfl
 have c326:U.cell? ⟨mb,326,none⟩=some (.int .i64 (W:Int)):=by
  rw[bM HBU.o,HC2.o,List.getElem?_set_ne (by decide),HK1.o _ (by decide),HM.o.cut 2 (by decide),<-HI.o.2.2.2.1]; rfl
 have c327:U.cell? ⟨mb,327,none⟩=some (.int .i64 (B:Int)):=by
  rw[bM HBU.o,HC2.o,List.getElem?_set_ne (by decide),HK1.o _ (by decide),HM.o.cut 3 (by decide),<-HI.o.2.2.2.2.1]; rfl
 have c329:U.cell? ⟨mb,329,none⟩=some (.int .i64 ((p:Int)+1)):=by
  rw[bM HBU.o,HC2.o,List.getElem?_set_self (by rw[HL1.o]; decide)]
 have c330:U.cell? ⟨mb,330,none⟩=some (.int .i64 la):=by
  rw[bM HBU.o,HC2.o,List.getElem?_set_ne (by decide),HK1.o _ (by decide),HM.o.last,hla,HI.o.2.2.1]
 have hmk:kI c data (p+1)=(decide (W<=n) && decide (B<=z)):=by
  unfold kI Bt;rw[<-HI.o.1,<-HI.o.2.1,hz,hh]
  congr 1
  rw[decide_eq_decide,List.length_take]; omega
 have HMK:=aa hmk;have HH:=aa (And.intro hn (And.intro hh (And.intro hz hla)));have HDQ:=aa (show ∀n,vQ (U.drewN n)from fun n=>HTU.o.block rfl (Nat.le_refl _));clear hn hh hz hla hmk;have HZ:=aa (show ∀m,Calls Tryz.prog 202 #[.int .u64 (h:Int)] (U.drewN m) fun e w'=>e= .returned (.int .i64 (z:Int))/\U.drewN m=w' from fun m=>by rw[HH.o.2.2.1]; exact DZ h (U.drewN m) hhl (HDQ.o m))
 have HRO:=aa (show mi c.seed c.win.toNat (data.take (p+1)) cs2 by
  rw[<-HI.o.1,HTK.o,HC2.o];have h:=HR1.o;refine⟨fun i hi=> ?_,fun j hj=> ?_, ?_, ?_, ?_, ?_⟩
  ·rw[List.getElem?_set_ne (by omega)]; exact h.tab i hi
  ·rw[List.getElem?_set_ne (by omega)]; exact h.rng j hj
  ·rw[List.getElem?_set_ne (by omega)]; exact h.win
  ·obtain⟨s,h1,h2,h3⟩:=h.st;refine⟨s,h1,by rw[List.getElem?_set_ne (by omega)]; exact h2,fun j b hb=>by rw[List.getElem?_set_ne (by omega)]; exact h3 j b hb⟩
  ·rw[List.getElem?_set_ne (by omega)]; exact h.len
  ·rw[List.getElem?_set_ne (by omega)]; exact h.sum)
 have HCU:=aa (show ∀i,i<5->cs2[324+i]? =(cG c)[i]? from fun i hi=>by
  rw[HC2.o,List.getElem?_set_ne (by omega),HK1.o _ (by omega)]; exact HM.o.cut i hi)
 have HPO:=aa (show cs2[329]? =some (.int .i64 ((p+1:Nat):Int)) by rw[HC2.o,List.getElem?_set_self (by rw[HL1.o]; decide)]; rfl);have HLA:=aa (show cs2[330]? =some (.int .i64 la) by rw[HC2.o,List.getElem?_set_ne (by decide),HK1.o _ (by decide),HM.o.last,HH.o.2.2.2,HI.o.2.2.1]);have HNO:=aa (show kI c data (p+1)=false->(eR (kI c data) c.mn.toNat (p+1)=false/\oQ c data (p+1) cs2)from fun h0=>⟨by rw[eR,h0]; rfl,{
  roll:=HRO.o
  len:=HL2.o
  cut:=HCU.o
  pos:=HPO.o
  last:=by rw[kH,if_neg (by rw[h0]; decide),<-HI.o.2.2.1,<-HH.o.2.2.2]; exact HLA.o}⟩)
 by_cases h1:n<W
 ·have h1i:(n:Int)<(W:Int):=by omega
  go_quiet ((first | (go_at_call 201; refine fm (lx mb n _ c322)) | (go_at_call 203; refine fm (ly mb h _ c323)) | (go_at_call 202; refine fm (HZ.o _))))
  go_wp2_with fail;go_ret;have hno:=HNO.o (by rw[HMK.o,decide_eq_false (by omega)]; rfl);exact⟨aD hno.1.symm,⟨cs2,HBU.o,hno.2⟩,jd HGU.o _⟩
 ·have h1i:(W:Int)<=(n:Int):=by omega
  have h1j: ¬(n:Int)<(W:Int):=by omega
  by_cases h2:z<B
  ·have h2i:(z:Int)<(B:Int):=by omega
   go_quiet ((first | (go_at_call 201; refine fm (lx mb n _ c322)) | (go_at_call 203; refine fm (ly mb h _ c323)) | (go_at_call 202; refine fm (HZ.o _))))
   go_wp2_with fail;go_ret;have hno:=HNO.o (by rw[HMK.o,decide_eq_false (by omega: ¬B<=z),Bool.and_false]);exact⟨aD hno.1.symm,⟨cs2,HBU.o,hno.2⟩,jd HGU.o _⟩
  ·have h2i:(B:Int)<=(z:Int):=by omega
   have h2j: ¬(z:Int)<(B:Int):=by omega
   go_quiet ((first | (go_at_call 201; refine fm (lx mb n _ c322)) | (go_at_call 203; refine fm (ly mb h _ c323)) | (go_at_call 202; refine fm (HZ.o _))))
   go_wp2_with fail;have cf:U.frozen? ⟨mb,330,none⟩=false:=frozen_of_row U _ _ _ _ HBU.o;have hsub:IntKind.i64.wrap ((p:Int)+1-la)=(p:Int)+1-la:=by have:=HV.o; have:=HI.o; rw[IntKind.wrap_i64]; omega
   go_quiet (fail)
   go_wp2_with fail;go_ret;have hyes:kI c data (p+1)=true:=by rw[HMK.o,decide_eq_true (by omega:W<=n),decide_eq_true (by omega:B<=z)]; rfl
   refine⟨aD ?_,⟨cs2.set 330 (.int .i64 ((p:Int)+1)),gA (show(U.drewN _).heap[mb]? =_ from HBU.o) _, ?_⟩,cu (jd HGU.o _) _ _⟩
   ·rw[eR,hyes,Bool.true_and,<-HI.o.2.2.1,<-HH.o.2.2.2,decide_eq_decide]; simp
   ·have h:=HRO.o;have hcu:=HCU.o;refine⟨⟨fun i hi=> ?_,fun j hj=> ?_, ?_, ?_, ?_, ?_⟩,by rw[List.length_set]; exact HL2.o,fun i hi=> ?_, ?_, ?_⟩
    ·rw[List.getElem?_set_ne (by omega)]; exact h.tab i hi
    ·rw[List.getElem?_set_ne (by omega)]; exact h.rng j hj
    ·rw[List.getElem?_set_ne (by omega)]; exact h.win
    ·obtain⟨s,h1,h2,h3⟩:=h.st;refine⟨s,h1,by rw[List.getElem?_set_ne (by omega)]; exact h2,fun j b hb=>by rw[List.getElem?_set_ne (by omega)]; exact h3 j b hb⟩
    ·rw[List.getElem?_set_ne (by omega)]; exact h.len
    ·rw[List.getElem?_set_ne (by omega)]; exact h.sum
    ·rw[List.getElem?_set_ne (by omega)]; exact hcu i hi
    ·rw[List.getElem?_set_ne (by omega)]; exact HPO.o
    ·rw[List.getElem?_set_self (by rw[HL2.o]; decide),kH,if_pos hyes]; rfl
def FH {α:Type} (Kp:World->World->Prop) (I:List α->World->Prop) (Ix:Code->List α->World->Prop) (xs:List α) (W:World):Exit->Act->World->Prop
 | .normal,_,B=>KeepsOthers W B/\Kp W B/\I xs B
 | .ret,_,B=>KeepsOthers W B/\Ix .ret xs B
 | .exit id,_,B=>KeepsOthers W B/\Ix (.exit id) xs B
 | .goto t,_,B=>KeepsOthers W B/\Ix (.goto t) xs B
 | .panic _,_,_=>False
 | .outgrown,_,_=>False
section
variable {P : Program} {α : Type}
theorem yN {W W':World} (h:Below W.heap.size W W'):W.grownBy W' none:=⟨h.os,h.tape,h.output,h.size,fun k hk _=>h.block k hk⟩
theorem qk {W:World} {l:Nat} {r:Loop} (h:W.heap[l]? =some (.loop r)) (o:Obj):(W.putObj l o).heap[l]? =some o:=World.putObj_heap_same (Array.getElem?_eq_some_iff.1 h).1
end
end Go.Proofs.YtpffpjbkbaleiaaGreatDoor
