/- Texts of this proof, one after the other: RbC, RbD, SmP, AwS, NodB, LawNod, RdP, RfA, RfD, RfE, RfF, RcT, RfG, R14, R16A, R16B, R16C, R16D. -/
import Derived.Test.YtpffpjbkbaleiaaGreatDoorCBuildsG
set_option maxRecDepth 100000
set_option maxHeartbeats 8000000
namespace Go.Proofs.YtpffpjbkbaleiaaGreatDoor
open Go Go.RowKit Go.Maps
def cX (bb:Nat) (k:bn) (c:cF) (tv gv v:Value) (lg cl:Bool) (w:World):Prop:=w.heap[bb]? =some (.cells (oF k c tv gv v lg cl).toArray 130 (0,0))
theorem cX.below {bb:Nat} {k:bn} {c:cF} {tv gv v:Value} {lg cl:Bool} {w w':World} (h:cX bb k c tv gv v lg cl w) (hb:Below w.heap.size w w'):cX bb k c tv gv v lg cl w':=br hb h
theorem lp (w:World) (n:Nat):Below w.heap.size w (w.drewN n):=⟨rfl,rfl,rfl,Nat.le_refl _,fun _ _=>rfl⟩
theorem Bj {α:Type} {p:α->Bool} : ∀ {l:List α} {j:Nat} {b:α},l[j]? =some b->p b=true->(∀y∈l.take j,p y=false)->l.find? p=some b
 | [],_,_,h,_,_=>by simp at h
 | a::l,0,b,h,hp,_=>by
  obtain rfl:a=b:=by simpa using h
  simp[hp]
 | a::l,j+1,b,h,hp,hn=>by
  have h1:p a=false:=hn a (by simp);rw[List.find?_cons,h1];exact Bj (l:=l) (j:=j) (by simpa using h) hp (fun y hy=>hn y (by simp[hy]))
theorem fC.other {w w':World} {base bb b:Nat} {k:bn} {c:cF} {tv gv v:Value} {lg:Bool} {s:List bu×Bool} {cs:Array Value} {t:TypeId} {z:Nat×Nat} (h:fC w base bb k c tv gv v lg s) (hb:w.heap[b]? =some (.cells cs t z)) (h1:t≠130) (h2:t≠53) (h3:t≠5) (hs: ∀i,i≠b->i<w.heap.size->w'.heap[i]? =w.heap[i]?):fC w' base bb k c tv gv v lg s:=by
 obtain⟨zs,hz,hr,hd⟩:=h.own;refine⟨(hs bb (fun e=> ?_) (lt_of_block h.box)).trans h.box,zs,hz,bZ hr (fun i hi hu=>hs i (fun e=> ?_) hi),fun y hy=>bZ (hd y hy) (fun i hi hu=>hs i (fun e=> ?_) hi)⟩
 ·subst e; exact h1 (aC hb h.box)
 ·subst e;obtain⟨cs2,hc2⟩:=au hr hu;exact h2 (aC hb hc2)
 ·subst e;obtain⟨cs2,hc2⟩:=au (hd y hy) hu;exact h3 (aC hb hc2)
theorem dF.setNew {base bb b j:Nat} {v v' u:Value} {w w':World} (h:dF base bb v v' w w') (hb:w.heap.size<=b) (hbz:base<=w.heap.size):dF base bb v v' w (w'.setCell ⟨b,j,none⟩ u):=
 ⟨Below.setCell h.below (show base<=b by omega) u,fun i h1 h2 h3=>(Below.heap_setCell _ _ _ _ (show i≠b by omega)).trans (h.same i h1 h2 h3),h.place⟩
theorem ui (base bb:Nat) (k:bn) (c:cF) (tv gv v cv:Value) (gs:List (ByteArray×Int)) (lg cl:Bool) (bs:List bu) (x:List UInt8) (w:World) (h:fC w base bb k c tv gv v lg (bs,cl)) (hk:dX k=true) (hG:dO (· <base) w gv gs) (hgs:eL gs) (hx:w.ownsRow base 5 1 cv x.length (x.map ak)) (hl:x.length<=32768) (hbs:bs.length<=1000000) (hbe:base<=bb):
  Calls Tryz.prog 126 #[.pointer (some ⟨bb,0,none⟩),cv] w fun e w'=>e= .returned (bU (aE k gs x))/\ ∃v',fC w' base bb k c tv gv v' lg (nK k gs (bs,cl) x)/\dF base bb v v' w w':=by
 have hbb:=lt_of_block h.box;have hbz:base<=w.heap.size:=by omega
 obtain⟨zs,hzs,ho⟩:=h.own;obtain⟨av,cvv,hv,hv1,hv2⟩:=ai ho.row;obtain⟨n,hn⟩: ∃n,n=zs.length:=⟨_,rfl⟩;rw[<-hn]at hv hv1;subst hv;unfold maxLen at hv2;have HZN:=aa hn;have HZS:=aa hzs;have HO:=aa ho;have hn1:n<=1000000:=by rw[hn,<-List.length_map (f:=Prod.snd),hzs]; exact hbs
 clear hbs hzs ho hn;obtain⟨W1,hW1⟩: ∃W1,W1=w.alloc (.cells #[.string ⟨#[]⟩, .int .i64 0, .int .i64 0] 26):=⟨_,rfl⟩;have HB1:=aa (show Below w.heap.size w W1 by rw[hW1]; exact bH);have HR1:=aa (show W1.heap[w.heap.size]? =some (.cells #[.string ⟨#[]⟩, .int .i64 0, .int .i64 0] 26 (0,0)) by rw[hW1]; exact heap_alloc_new w _);have HH:=aa h;have HK:=aa hk;have HG:=aa hG;have HGO:=aa hgs
 have HXR:=aa hx;obtain⟨ax,cx,rfl,hx1,hx2⟩:=ai hx;obtain⟨xl,hxl⟩: ∃l,l=x.length:=⟨_,rfl⟩;rw[<-hxl]at hl HXR ⊢;have HXL:=aa hxl;clear h hk hG hgs hx hx1 hx2 hxl
 go_enter Tryz.func126,Tryz.ntmps126
 go_upto_region 1 with fail
 rw[<-hW1];clear hW1;refine bE (cX bb k c tv gv (.slice av n cvv) lg cl) (by kernel_rfl) ?_;obtain⟨V,hV⟩: ∃V:World,V=W1.drew:=⟨_,rfl⟩;rw[<-hV];have hb:Below W1.heap.size W1 V:=by rw[hV]; exact(Below.refl _ _).drew
 have HBV:=aa (ab HB1.o hb);have HRV:=aa (br hb HR1.o);have SV:=aa (show cX bb k c tv gv (.slice av n cvv) lg cl V from cX.below HH.o.box HBV.o);clear hV hb
 iterate 9 (refine aJ rfl (by kernel_rfl) (fun _ _ _ h=>h) rfl SV.o (by rintro w' hx; have hx0:=hx; unfold cX at hx0; have k0:=ag (k:=0) hx0; have k1:=ag (k:=1) hx0; have k2:=ag (k:=2) hx0; have k3:=ag (k:=3) hx0; have k4:=ag (k:=4) hx0; have k11:=ag (k:=11) hx0; simp only[oF,bT,cG,List.cons_append,List.nil_append,cr]at k0 k1 k2 k3 k4 k11; clear hx hx0; go_simp; rfl) ?_; simp only[Act.put,aZ,bg,bh])
 obtain⟨rf,hrf⟩: ∃r,r=aE k gs x:=⟨_,rfl⟩;have HRF:=aa hrf;clear hrf;have hTT: ∀i,(· <base) i->i<V.heap.size:=fun i hi=>Nat.lt_of_lt_of_le hi (Nat.le_trans hbz HBV.o.size)
 refine qP 9 10 rfl rfl (by kernel_rfl) rfl rfl (fun K hK=> ?ca) (fun K hK=> ?al)
 case' ca=>
  have hbx:Below V.heap.size V V:=Below.refl _ _;go_wp2_with fail;refine(qJ _ _ k gs gv x _ _ HK.o (HG.o.keep (w':=V) (fun i hi _=>HBV.o.block i (Nat.lt_of_lt_of_le hi hbz))) hTT HGO.o (show ar (fun _=>True) V (.slice ax xl cx) x by
   have h1:=aO (aQ HXR.o HBV.o)
   show aL _ V 1 _ x.length (x.map ak)
   rw[<-HXL.o];exact h1.weak fun _ _=>trivial) (by rw[<-HXL.o]; exact hl)).mono ?_
  rintro e w2 ⟨rfl,hb2⟩;rw[<-HRF.o];have HB2:=aa (ab HBV.o hb2);have HR2:=aa (br hb2 HRV.o);have S2:=aa (cX.below SV.o hb2);clear hb2 hbx;unfold bU;go_wp2_with fail;refine⟨S2.o, ?_⟩;refine an 10 rfl (by kernel_rfl) rfl (fun K hK=> ?_);go_wp2_with fail;obtain⟨Z,hZ⟩: ∃Z,Z=w2.alloc (.cells #[.string ⟨#[]⟩, .int .i64 0, .int .i64 0] 26):=⟨_,rfl⟩;rw[<-hZ];have hbz2:Below w2.heap.size w2 Z:=by rw[hZ]; exact bH
  have HBZ:=aa (ab HB2.o hbz2);have HRZ:=aa (br hbz2 HR2.o);have SZ:=aa (cX.below S2.o hbz2);obtain⟨xb,hxb⟩: ∃b,b=w2.heap.size:=⟨_,rfl⟩;have HXB:=aa (show Z.heap[xb]? =some (.cells #[.string ⟨#[]⟩, .int .i64 0, .int .i64 0] 26 (0,0)) by rw[hZ,hxb]; exact heap_alloc_new w2 _);have hxb1:w.heap.size<xb:=by rw[hxb]; exact lt_of_block HR2.o
  rw[<-hxb];clear hZ hbz2 hxb;refine⟨SZ.o, ?_⟩
 case' al=>
  go_wp2_with fail;obtain⟨w2,hw2⟩: ∃Z,Z=V.alloc (.cells #[.string ⟨#[]⟩, .int .i64 0, .int .i64 0] 26):=⟨_,rfl⟩;rw[<-hw2];have hb2:Below V.heap.size V w2:=by rw[hw2]; exact bH
  have HB2:=aa (ab HBV.o hb2);have HR2:=aa (br hb2 HRV.o);have S2:=aa (cX.below SV.o hb2);obtain⟨xb,hxb⟩: ∃b,b=V.heap.size:=⟨_,rfl⟩;have HX2:=aa (show w2.heap[xb]? =some (.cells #[.string ⟨#[]⟩, .int .i64 0, .int .i64 0] 26 (0,0)) by rw[hw2,hxb]; exact heap_alloc_new V _);have hxb1:w.heap.size<xb:=by rw[hxb]; exact lt_of_block HRV.o
  rw[<-hxb];have hTT2: ∀i,(· <base) i->i<w2.heap.size:=fun i hi=>Nat.lt_of_lt_of_le hi (Nat.le_trans hbz HB2.o.size)
  clear hw2 hb2 hxb;refine⟨S2.o, ?_⟩;refine an 9 rfl (by kernel_rfl) rfl (fun K hK=> ?_);go_wp2_with fail;refine(qJ _ _ k gs gv x _ _ HK.o (HG.o.keep (w':=w2) (fun i hi _=>HB2.o.block i (Nat.lt_of_lt_of_le hi hbz))) hTT2 HGO.o (show ar (fun _=>True) w2 (.slice ax xl cx) x by
   have h1:=aO (aQ HXR.o HB2.o)
   show aL _ w2 1 _ x.length (x.map ak)
   rw[<-HXL.o];exact h1.weak fun _ _=>trivial) (by rw[<-HXL.o]; exact hl)).mono ?_
  rintro e Z ⟨rfl,hbz2⟩;rw[<-HRF.o];have HBZ:=aa (ab HB2.o hbz2);have HRZ:=aa (br hbz2 HR2.o);have SZ:=aa (cX.below S2.o hbz2);have HXB:=aa (br hbz2 HX2.o);clear hbz2;unfold bU;go_wp2_with fail;refine⟨SZ.o, ?_⟩
 all_goals
  obtain⟨z0,z1,z2,_⟩:=aj HXB.o;simp only[Nat.zero_add,Nat.reduceAdd]at z1 z2;have y0:=ah (k:=0) HXB.o;have y1:=ah (k:=1) HXB.o;have y2:=ah (k:=2) HXB.o;refine an 11 rfl (by kernel_rfl) rfl (fun K hK=> ?_);go_wp2_with fail;obtain⟨Y,hY⟩: ∃Y,Y=(((Z.setCell ⟨xb,0,none⟩ (.string rf.name)).setCell ⟨xb,1,none⟩ (.int .i64 rf.gen)).setCell ⟨xb,2,none⟩ (.int .i64 rf.size)):=⟨_,rfl⟩
  have HBY:=aa (show Below w.heap.size w Y by rw[hY]; exact bL HBZ.o (by omega));have HXY:=aa (show Y.heap[xb]? =some (.cells #[.string rf.name, .int .i64 rf.gen, .int .i64 rf.size] 26 (0,0)) by rw[hY]; exact pA HXB.o);have HRY:=aa (show Y.heap[w.heap.size]? =some (.cells #[.string ⟨#[]⟩, .int .i64 0, .int .i64 0] 26 (0,0)) by rw[hY]; exact(aY (by omega)).trans HRZ.o)
  have SY:=aa (show cX bb k c tv gv (.slice av n cvv) lg cl Y by rw[hY]; exact(aY (by omega)).trans SZ.o);rw[<-hY];clear hY z0 z1 z2 y0 y1 y2 SZ HXB HRZ HBZ;refine⟨SY.o, ?_⟩;refine aM (by kernel_rfl) ?_;go_wp2_with fail
  go_loopw [6] (fun i wr=> ∃j:Nat,j<=n/\i= .int .i64 (j:Int)/\(∀b∈bs.take j,¬b.ref=rf)/\Below Y.heap.size Y wr) (fun i _=>n-(intOf i).toNat)
  case atStart=>exact⟨0,Nat.zero_le _,rfl,by simp,Below.refl _ _⟩
  case round=>
   obtain⟨j,hj,rfl,hno,hb⟩:=hrel;have HNO:=aa hno;have HB:=aa hb;have HBW:=aa (ab HBY.o hb);have HXW:=aa (br hb HXY.o);have HRW:=aa (br hb HRY.o);have SW:=aa (cX.below SY.o hb);clear hno hb
   by_cases hlt:j<n
   ·obtain⟨z,hz⟩: ∃z,zs[j]? =some z:=⟨zs[j]'(by rw[<-HZN.o]; exact hlt),by simp⟩;have HZD:=aa (HO.o.dat z (List.mem_of_getElem? hz));have HZJ:=aa (show bs[j]? =some z.2 by rw[<-HZS.o,List.getElem?_map,hz]; rfl);have hrow:=aO (aQ HO.o.row HBW.o);rw[<-HZN.o]at hrow;obtain⟨gb,go,rfl,-,hgl,hcl⟩:=nj (by rw[<-HZN.o]; exact hrow) hz;have q0:=hcl 0 (by omega)
    have q1:=hcl 1 (by omega);have q2:=hcl 2 (by omega);have q3:=hcl 3 (by omega);simp only[iD,vN,Nat.add_zero]at q0 q1 q2 q3;obtain⟨za,zc,hzv,-,-⟩:=ai HZD.o;rw[hzv]at q3;have HZV:=aa hzv;obtain⟨zl,hzl⟩: ∃zl,zl=z.2.con.length:=⟨_,rfl⟩;rw[<-hzl]at q3;have HZL:=aa hzl;have hQ3:=aa q3;obtain⟨r,hr⟩: ∃r,r=z.2.ref:=⟨_,rfl⟩;rw[<-hr]at q0 q1 q2
    have HR:=aa hr;have heq:=Bi r rf;have hx0:=SW.o;unfold cX at hx0;have k0:=ag (k:=0) hx0;have k1:=ag (k:=1) hx0;have k2:=ag (k:=2) hx0;have k3:=ag (k:=3) hx0;have k4:=ag (k:=4) hx0;have k11:=ag (k:=11) hx0;have k12:=ag (k:=12) hx0;have k14:=ag (k:=14) hx0;simp only[oF,bT,cG,List.cons_append,List.nil_append,cr]at k0 k1 k2 k3 k4 k11 k12 k14
    obtain⟨p0,p1,p2,_⟩:=aj HXW.o;simp only[Nat.zero_add,Nat.reduceAdd]at p1 p2;unfold bU at heq;clear hx0 hrow hz hcl q3 hzv hzl hr k0 k1 k2 k3 k4 k11 k14
    by_cases hm:r=rf
    ·have e1:decide (r=rf)=true:=by simp[hm]
     rw[e1]at heq;clear e1;go_wp2_with fail
     go_quiet (fail)
     obtain⟨W2,hW2⟩: ∃W,W=wr.drewN nq:=⟨_,rfl⟩;rw[<-hW2];have hb2:Below wr.heap.size wr W2:=by rw[hW2]; exact lp wr nq
     have HPX:=aa (show nK k gs (bs,cl) x=(bs,cl || !decide (z.2.con=x)) by
      unfold nK;rw[Bj (b:=z.2) HZJ.o (by rw[<-HR.o,<-HRF.o]; simp[hm]) (fun y hy=>by rw[<-HRF.o]; simpa using HNO.o y hy)])
     have HB3:=aa (ab HBW.o hb2);have HX3:=aa (br hb2 HXW.o);have HR3:=aa (br hb2 HRW.o);have S3:=aa (cX.below SW.o hb2);have HQ:=aa ((hb2.cell (p:=⟨gb,go+j*4+3,none⟩) (aP hQ3.o)).trans hQ3.o);clear hW2 hb2 k12 q0 q1 q2 p0 p1 p2 heq;go_wp2_with fail;obtain⟨W3,hW3⟩: ∃W,W=W2.drew:=⟨_,rfl⟩;refine bN (fun w'=>cX bb k c tv gv (.slice (some ⟨gb,go,none⟩) n cvv) lg cl w'/\w'.cell? ⟨gb,go+j*4+3,none⟩=some (.slice za zl zc)/\ar (fun _=>True) w' (.slice za zl zc) z.2.con/\ar (fun _=>True) w' (.slice ax xl cx) x) (by kernel_rfl) (by kernel_rfl) ?_
     simp only[List.dropLast_cons_cons,List.dropLast_singleton,List.length_cons,List.length_nil,Nat.reduceAdd,Nat.reduceSub];rw[<-hW3];have hb3:Below W2.heap.size W2 W3:=by rw[hW3]; exact(Below.refl _ _).drew
     have HB4:=aa (ab HB3.o hb3);have HX4:=aa (br hb3 HX3.o);have HR4:=aa (br hb3 HR3.o);have S4:=aa (cX.below S3.o hb3);have SM:=aa (show cX bb k c tv gv (.slice (some ⟨gb,go,none⟩) n cvv) lg cl W3/\W3.cell? ⟨gb,go+j*4+3,none⟩=some (.slice za zl zc)/\ar (fun _=>True) W3 (.slice za zl zc) z.2.con/\ar (fun _=>True) W3 (.slice ax xl cx) x from
      ⟨S4.o,(hb3.cell (p:=⟨gb,go+j*4+3,none⟩) (aP HQ.o)).trans HQ.o,by
       have h1:=aO (aQ HZD.o HB4.o);rw[HZV.o,<-HZL.o]at h1
       show aL _ W3 1 _ z.2.con.length (z.2.con.map ak)
       rw[<-HZL.o];exact h1.weak fun _ _=>trivial,by
       have h1:=aO (aQ HXR.o HB4.o)
       show aL _ W3 1 _ x.length (x.map ak)
       rw[<-HXL.o];exact h1.weak fun _ _=>trivial⟩)
     clear hb3 hW3 S3 HX3 HR3 HQ
     cases cl with
     | true=>
      iterate 6 (refine aJ rfl (by kernel_rfl) (fun _ _ _ h=>h) rfl SM.o (by rintro w' ⟨hx0,hq,hv1,hv2⟩; unfold cX at hx0; have k12:=ag (k:=12) hx0; have k14:=ag (k:=14) hx0; have hc1:=dg hv1; have hc2:=dg hv2; simp only[oF,bT,cG,List.cons_append,List.nil_append,cr]at k12 k14; clear hx0 hv1 hv2; go_simp; rfl) ?_; simp only[Act.put,aZ,bg,bh])
      iterate 12 (refine Ja rfl (by kernel_rfl) (fun _ _ _ h=>h) rfl SM.o ?_; simp only[Act.put,aZ,bg,bh])
      iterate 3 (refine aJ rfl (by kernel_rfl) (fun _ _ _ h=>h) rfl SM.o (by rintro w' ⟨hx0,hq,hv1,hv2⟩; unfold cX at hx0; have k12:=ag (k:=12) hx0; have k14:=ag (k:=14) hx0; have hc1:=dg hv1; have hc2:=dg hv2; simp only[oF,bT,cG,List.cons_append,List.nil_append,cr]at k12 k14; clear hx0 hv1 hv2; go_simp; rfl) ?_; simp only[Act.put,aZ,bg,bh])
      refine aM (by kernel_rfl) ?_;refine bX rfl rfl (fun K hK=> ?_);have hx0:=S4.o;unfold cX at hx0;have k0:=ag (k:=0) hx0;have k1:=ag (k:=1) hx0;have k2:=ag (k:=2) hx0;have k3:=ag (k:=3) hx0;have k4:=ag (k:=4) hx0;have k11:=ag (k:=11) hx0;have k12:=ag (k:=12) hx0;have k14:=ag (k:=14) hx0;simp only[oF,bT,cG,List.cons_append,List.nil_append,cr]at k0 k1 k2 k3 k4 k11 k12 k14
      have kz14:=ah (k:=14) hx0;clear hx0
      go_upto_region 7 with(fail)
      have hcl:=fC.clash (HH.o.below HB4.o) (true) hbe;have HPE:=aa (show nK k gs (bs,_) x=(bs,true) by rw[HPX.o]; by_cases he:z.2.con=x<;> simp[he]);obtain⟨W5,hW5⟩: ∃W,W=W3.setCell ⟨bb,14,none⟩ (.bool (true)):=⟨_,rfl⟩;have HX5:=aa (show W5.heap[xb]? =some (.cells #[.string rf.name, .int .i64 rf.gen, .int .i64 rf.size] 26 (0,0)) by rw[hW5]; exact(Below.heap_setCell _ _ _ _ (show xb≠bb by omega)).trans HX4.o)
      have HR5:=aa (show W5.heap[w.heap.size]? =some (.cells #[.string ⟨#[]⟩, .int .i64 0, .int .i64 0] 26 (0,0)) by rw[hW5]; exact(Below.heap_setCell _ _ _ _ (show w.heap.size≠bb by omega)).trans HR4.o);rw[<-hW5]at hcl ⊢;have HCL:=aa hcl;clear hcl hW5 k0 k1 k2 k3 k4 k11 k12 k14 kz14 SM S4 HX4 HR4;obtain⟨p0,p1,p2,_⟩:=aj HX5.o;simp only[Nat.zero_add,Nat.reduceAdd]at p1 p2
      obtain⟨z0,z1,z2,_⟩:=aj HR5.o;simp only[Nat.zero_add,Nat.reduceAdd]at z1 z2;have y0:=ah (k:=0) HR5.o;have y1:=ah (k:=1) HR5.o;have y2:=ah (k:=2) HR5.o;go_wp2_with fail;refine vB HR5.o rfl rfl ?_;refine⟨by rw[<-HRF.o]; rfl, .slice (some ⟨gb,go,none⟩) n cvv, ?_, ?_⟩
      ·rw[HPE.o];exact HCL.o.1.other HR5.o (by decide) (by decide) (by decide) (fun i hi _=>aY hi)
      ·exact((((dF.ofBelow HB4.o hbz).trans HCL.o.2).setNew (Nat.le_refl _) hbz).setNew (Nat.le_refl _) hbz).setNew (Nat.le_refl _) hbz
     | false=>
      iterate 21 (refine aJ rfl (by kernel_rfl) (fun _ _ _ h=>h) rfl SM.o (by rintro w' ⟨hx0,hq,hv1,hv2⟩; unfold cX at hx0; have k12:=ag (k:=12) hx0; have k14:=ag (k:=14) hx0; have hc1:=dg hv1; have hc2:=dg hv2; simp only[oF,bT,cG,List.cons_append,List.nil_append,cr]at k12 k14; clear hx0 hv1 hv2; go_simp; rfl) ?_; simp only[Act.put,aZ,bg,bh])
      refine aM (by kernel_rfl) ?_;refine bX rfl rfl (fun K hK=> ?_);have hx0:=S4.o;unfold cX at hx0;have k0:=ag (k:=0) hx0;have k1:=ag (k:=1) hx0;have k2:=ag (k:=2) hx0;have k3:=ag (k:=3) hx0;have k4:=ag (k:=4) hx0;have k11:=ag (k:=11) hx0;have k12:=ag (k:=12) hx0;have k14:=ag (k:=14) hx0;simp only[oF,bT,cG,List.cons_append,List.nil_append,cr]at k0 k1 k2 k3 k4 k11 k12 k14
      have kz14:=ah (k:=14) hx0;clear hx0
      go_upto_region 7 with(fail)
      have hcl:=fC.clash (HH.o.below HB4.o) ((!(z.2.con == x))) hbe;have HPE:=aa (show nK k gs (bs,_) x=(bs,(!(z.2.con == x))) by rw[HPX.o]; by_cases he:z.2.con=x<;> simp[he]);obtain⟨W5,hW5⟩: ∃W,W=W3.setCell ⟨bb,14,none⟩ (.bool ((!(z.2.con == x)))):=⟨_,rfl⟩;have HX5:=aa (show W5.heap[xb]? =some (.cells #[.string rf.name, .int .i64 rf.gen, .int .i64 rf.size] 26 (0,0)) by rw[hW5]; exact(Below.heap_setCell _ _ _ _ (show xb≠bb by omega)).trans HX4.o)
      have HR5:=aa (show W5.heap[w.heap.size]? =some (.cells #[.string ⟨#[]⟩, .int .i64 0, .int .i64 0] 26 (0,0)) by rw[hW5]; exact(Below.heap_setCell _ _ _ _ (show w.heap.size≠bb by omega)).trans HR4.o);rw[<-hW5]at hcl ⊢;have HCL:=aa hcl;clear hcl hW5 k0 k1 k2 k3 k4 k11 k12 k14 kz14 SM S4 HX4 HR4;obtain⟨p0,p1,p2,_⟩:=aj HX5.o;simp only[Nat.zero_add,Nat.reduceAdd]at p1 p2
      obtain⟨z0,z1,z2,_⟩:=aj HR5.o;simp only[Nat.zero_add,Nat.reduceAdd]at z1 z2;have y0:=ah (k:=0) HR5.o;have y1:=ah (k:=1) HR5.o;have y2:=ah (k:=2) HR5.o;go_wp2_with fail;refine vB HR5.o rfl rfl ?_;refine⟨by rw[<-HRF.o]; rfl, .slice (some ⟨gb,go,none⟩) n cvv, ?_, ?_⟩
      ·rw[HPE.o];exact HCL.o.1.other HR5.o (by decide) (by decide) (by decide) (fun i hi _=>aY hi)
      ·exact((((dF.ofBelow HB4.o hbz).trans HCL.o.2).setNew (Nat.le_refl _) hbz).setNew (Nat.le_refl _) hbz).setNew (Nat.le_refl _) hbz
    ·have e1:decide (r=rf)=false:=by simp[hm]
     rw[e1]at heq;have HT:=aa (show ∀b∈bs.take (j+1),¬b.ref=rf by
      rw[bS HZJ.o];intro b hb
      rcases List.mem_append.1 hb with hb | hb
      ·exact HNO.o b hb
      ·rw[List.mem_singleton]at hb; subst hb; rw[<-HR.o]; exact hm)
     clear e1 hm;go_wp2_with fail
     go_quiet (fail)
     obtain⟨W2,hW2⟩: ∃W,W=wr.drewN nq:=⟨_,rfl⟩;rw[<-hW2];have hb2:Below wr.heap.size wr W2:=by rw[hW2]; exact lp wr nq
     clear hW2;go_wp2_with fail
     go_roundw
     case rel=>exact⟨j+1,by omega,by go_num,HT.o,HB.o.trans (hb2.mono HB.o.size)⟩
     case measure=>simp[intOf]; omega
   ·have hjn:j=n:=by omega
    subst hjn;have HPX:=aa (show nK k gs (bs,cl) x=(bs++[⟨rf,x⟩],cl) by
     unfold nK;rw[<-HRF.o];rw[List.find?_eq_none.2 (fun y hy=>by
      have:=HNO.o y (by rw[List.take_of_length_le (by rw[<-HZS.o,List.length_map,<-HZN.o]; exact Nat.le_refl _)]; exact hy)
      simpa using this)])
    have hx0:=SW.o;unfold cX at hx0;have k0:=ag (k:=0) hx0;have k1:=ag (k:=1) hx0;have k2:=ag (k:=2) hx0;have k3:=ag (k:=3) hx0;have k4:=ag (k:=4) hx0;have k11:=ag (k:=11) hx0;have k12:=ag (k:=12) hx0;have k14:=ag (k:=14) hx0;simp only[oF,bT,cG,List.cons_append,List.nil_append,cr]at k0 k1 k2 k3 k4 k11 k12 k14;clear hx0 k0 k1 k2 k3 k4 k11 k14
    go_wp2_with fail;clear k12;obtain⟨W3,hW3⟩: ∃W,W=wr.drew:=⟨_,rfl⟩;refine bN (fun w'=>cX bb k c tv gv (.slice av j cvv) lg cl w'/\w'.heap[xb]? =some (.cells #[.string rf.name, .int .i64 rf.gen, .int .i64 rf.size] 26 (0,0))) (by kernel_rfl) (by kernel_rfl) ?_;simp only[List.dropLast_cons_cons,List.dropLast_singleton,List.length_cons,List.length_nil,Nat.reduceAdd,Nat.reduceSub]
    rw[<-hW3];have hb3:Below wr.heap.size wr W3:=by rw[hW3]; exact(Below.refl _ _).drew
    have HB4:=aa (ab HBW.o hb3);have HX4:=aa (br hb3 HXW.o);have HR4:=aa (br hb3 HRW.o);have S4:=aa (cX.below SW.o hb3);have SM:=aa (And.intro S4.o HX4.o);clear hb3 hW3
    iterate 8 (refine aJ rfl (by kernel_rfl) (fun _ _ _ h=>h) rfl SM.o (by rintro w' ⟨hx0,hx1⟩; unfold cX at hx0; have k12:=ag (k:=12) hx0; have p0:=aB (k:=0) hx1; have p1:=aB (k:=1) hx1; have p2:=aB (k:=2) hx1; simp only[oF,bT,cG,List.cons_append,List.nil_append,cr]at k12 p0 p1 p2; clear hx0 hx1; go_simp; rfl) ?_; simp only[Act.put,aZ,bg,bh])
    refine an 8 rfl (by kernel_rfl) rfl (fun K hK=> ?_);go_wp2_with fail;have hal:=(Below.refl W3.heap.size W3).alloc (Nat.le_refl _) (.cells #[.string rf.name, .int .i64 rf.gen, .int .i64 rf.size, .slice ax xl cx] 53);have SM5:=aa (And.intro (cX.below S4.o hal) (br hal HX4.o));have HRO:=aa (HO.o.below HB4.o);have HXO:=aa (aQ HXR.o HB4.o);clear hal SM;refine⟨SM5.o, ?_⟩
    refine an 9 rfl (by kernel_rfl) rfl (fun K hK=> ?_);go_wp2_with (at_builtin; go_must (refine aA Tryz.appBlobs rfl _ _ rfl base (.slice av j cvv) j (eE zs) rfl W3 [.string rf.name, .int .i64 rf.gen, .int .i64 rf.size, .slice ax xl cx] _ rfl rfl (ob (b:=⟨rf,x⟩)) (by have h1:=HRO.o.row; rw[<-HZN.o]at h1; exact h1) (by omega) (Nat.le_trans hbz HB4.o.size) ?_); intro v' wc hown' hgrow' _ hpl; obtain⟨ae,ce,rfl,-,-⟩:=ai hown')
    have hrw:=HRO.o.row;rw[<-HZN.o]at hrw;have hne: ∀(i:Nat) (cs:Array Value) (t:TypeId) (z:Nat×Nat),W3.heap[i]? =some (.cells cs t z)->t≠53->i<W3.heap.size/\some i≠(Value.slice av j cvv).ownBlock:=fun i cs t z hi ht=>⟨lt_of_block hi,fun e=>by
     obtain⟨cs2,hc2⟩:=au hrw e.symm;exact ht (aC hi hc2)⟩
    have keepC: ∀(i:Nat) (cs:Array Value) (t:TypeId) (z:Nat×Nat),W3.heap[i]? =some (.cells cs t z)->t≠53->wc.heap[i]? =some (.cells cs t z):=fun i cs t z hi ht=>(hgrow'.block i (hne i cs t z hi ht).1 (fun e=>(hne i cs t z hi ht).2 e)).trans hi
    have SC:=aa (show cX bb k c tv gv (.slice av j cvv) lg cl wc from keepC _ _ _ _ S4.o (by decide));have HXC:=aa (keepC _ _ _ _ HX4.o (by decide));have HRC:=aa (keepC _ _ _ _ HR4.o (by decide));have SM:=aa (And.intro SC.o HXC.o);have hpush:=fC.push (c:=c) (k:=k) (tv:=tv) (gv:=gv) (lg:=lg) (cl:=cl) (b:=⟨rf,x⟩) HZS.o HRO.o S4.o (by have h1:=HXO.o; rw[HXL.o]at h1; exact h1) (by rw[<-HZN.o]; exact(by rw[<-HXL.o]; exact hown')) hgrow' hpl hbe
    have HPU:=aa hpush;have kb:bb<wc.heap.size:=lt_of_block SC.o;have HX6:=aa ((Below.heap_setCell wc ⟨bb,12,none⟩ (.slice ae (j+1) ce) xb (show xb≠bb by omega)).trans HXC.o);have HR6:=aa ((Below.heap_setCell wc ⟨bb,12,none⟩ (.slice ae (j+1) ce) w.heap.size (show w.heap.size≠bb by omega)).trans HRC.o);clear hown' hgrow' hpl hrw hne keepC hpush;refine⟨SM.o, ?_⟩
    iterate 2 (refine aJ rfl (by kernel_rfl) (fun _ _ _ h=>h) rfl SM.o (by rintro w' ⟨hx0,hx1⟩; unfold cX at hx0; have k12:=ag (k:=12) hx0; have p0:=aB (k:=0) hx1; have p1:=aB (k:=1) hx1; have p2:=aB (k:=2) hx1; simp only[oF,bT,cG,List.cons_append,List.nil_append,cr]at k12 p0 p1 p2; clear hx0 hx1; go_simp; rfl) ?_; simp only[Act.put,aZ,bg,bh])
    refine aM (by kernel_rfl) ?_;refine bX rfl rfl (fun K hK=> ?_);have hx0:=SC.o;unfold cX at hx0;have k12:=ag (k:=12) hx0;have kz12:=ah (k:=12) hx0;simp only[oF,bT,cG,List.cons_append,List.nil_append,cr]at k12;clear hx0
    go_upto_region 9 with(fail)
    obtain⟨W5,hW5⟩: ∃W,W=wc.setCell ⟨bb,12,none⟩ (.slice ae (j+1) ce):=⟨_,rfl⟩;rw[<-hW5]at HPU HX6 HR6 ⊢;clear hW5 k12 kz12 SM SC HXC HRC kb;obtain⟨p0,p1,p2,_⟩:=aj HX6.o;simp only[Nat.zero_add,Nat.reduceAdd]at p1 p2;obtain⟨z0,z1,z2,_⟩:=aj HR6.o;simp only[Nat.zero_add,Nat.reduceAdd]at z1 z2;have y0:=ah (k:=0) HR6.o;have y1:=ah (k:=1) HR6.o
    have y2:=ah (k:=2) HR6.o;go_wp2_with fail;refine vB HR6.o rfl rfl ?_;refine⟨by rw[<-HRF.o]; rfl, .slice ae (j+1) ce, ?_, ?_⟩
    ·rw[HPX.o];exact HPU.o.1.other HR6.o (by decide) (by decide) (by decide) (fun i hi _=>aY hi)
    ·exact((((dF.ofBelow HB4.o hbz).trans HPU.o.2).setNew (Nat.le_refl _) hbz).setNew (Nat.le_refl _) hbz).setNew (Nat.le_refl _) hbz
theorem fC.otherRow {w w':World} {base bb B sz n:Nat} {k:bn} {c:cF} {tv gv v r:Value} {lg:Bool} {s:List bu×Bool} {t:TypeId} {xs:List Value} (h:fC w base bb k c tv gv v lg s) (hr:w.ownsRow B t sz r n xs) (hg:w.grownBy w' r.ownBlock) (h1:t≠130) (h2:t≠53) (h3:t≠5):fC w' base bb k c tv gv v lg s:=by
 obtain⟨zs,hz,ho,hd⟩:=h.own;refine⟨(hg.block bb (lt_of_block h.box) (fun e=> ?_)).trans h.box,zs,hz,cS ho hr hg (fun e=>h2 e.symm),fun z hz=>cS (hd z hz) hr hg (fun e=>h3 e.symm)⟩;obtain⟨cs,hc⟩:=au hr e.symm;exact h1 (aC hc h.box)
theorem dF.otherRow {w0 w w':World} {base bb B sz n:Nat} {v v' r:Value} {t:TypeId} {xs:List Value} (h:dF base bb v v' w0 w) (hr:w.ownsRow B t sz r n xs) (hg:w.grownBy w' r.ownBlock) (hB:w0.heap.size<=B) (hbz:base<=w0.heap.size):dF base bb v v' w0 w':=
 ⟨h.below.grown hg (Nat.le_trans hbz h.below.size) (fun i hi=>Nat.le_trans (Nat.le_trans hbz hB) (hr.lt i hi).1),fun i h1 h2 h3=>(hg.block i (Nat.lt_of_lt_of_le h1 h.below.size) (fun e=>by have:=(hr.lt i e.symm).1; omega)).trans (h.same i h1 h2 h3),h.place⟩
structure mh (w : World) (B M : Nat) (iv : Value) (its : List aI) : Prop where
 row: ∃zs:List oS,zs.map Prod.snd=its/\w.ownsRow B 28 10 iv zs.length (kg zs)/\(∀i,iv.ownBlock=some i->i<M)/\ ∀z∈zs,(w.ownsRow B 26 3 z.1 z.2.chunks.length (z.2.chunks.flatMap dC)/\df z.2/\ ∀r∈z.2.chunks,bK r)/\ ∀i,z.1.ownBlock=some i->i<M
theorem fN.lt {w:World} {B:Nat} {iv:Value} {its:List aI} (h:fN w B iv its):mh w B w.heap.size iv its:=by
 obtain⟨zs,h1,h2,h3⟩:=h.row;exact⟨zs,h1,h2,fun i hi=>(h2.lt i hi).2,fun z hz=>⟨h3 z hz,fun i hi=>((h3 z hz).1.lt i hi).2⟩⟩
theorem mh.own {w:World} {B M:Nat} {iv:Value} {its:List aI} (h:mh w B M iv its):fN w B iv its:=by
 obtain⟨zs,h1,h2,_,h3⟩:=h.row;exact⟨zs,h1,h2,fun z hz=>(h3 z hz).1⟩
theorem mh.same {w w':World} {B M:Nat} {iv:Value} {its:List aI} (h:mh w B M iv its) (hs: ∀i,i<M->w'.heap[i]? =w.heap[i]?):mh w' B M iv its:=by
 obtain⟨zs,h1,h2,h4,h3⟩:=h.row;exact⟨zs,h1,bZ h2 (fun i _ hi=>hs i (h4 i hi)),h4,fun z hz=>⟨⟨bZ (h3 z hz).1.1 (fun i _ hi=>hs i ((h3 z hz).2 i hi)),(h3 z hz).1.2⟩,(h3 z hz).2⟩⟩
theorem mh.keep {w w':World} {base bb B M:Nat} {k:bn} {c:cF} {tv gv v v' iv:Value} {lg:Bool} {s:List bu×Bool} {its:List aI} (hi:mh w B M iv its) (h:fC w base bb k c tv gv v lg s) (hk:dF base bb v v' w w'):mh w' B M iv its:=by
 obtain⟨zs,h1,h2,h4,h3⟩:=hi.row;exact⟨zs,h1,dF.row h hk h2 (by decide) (by decide),h4,fun z hz=>⟨⟨dF.row h hk (h3 z hz).1.1 (by decide) (by decide),(h3 z hz).1.2⟩,(h3 z hz).2⟩⟩
structure Ei (w : World) (base bb : Nat) (k : bn) (c : cF) (tv gv v : Value) (lg : Bool) (wr : World) (v2 iv : Value) (s2 : List bu × Bool) (its : List aI) : Prop where
 bd:fC wr base bb k c tv gv v2 lg s2
 kp:dF base bb v v2 w wr
 its:fN wr w.heap.size iv its
 res:wr.heap[w.heap.size]? =some (.cells #[.string ⟨#[]⟩, .int .i64 0, .int .i64 0] 26 (0,0))
structure sW (w : World) (base bb : Nat) (k : bn) (c : cF) (tv gv v : Value) (lg : Bool) (M xb : Nat) (wr : World) (v2 iv : Value) (s2 : List bu × Bool) (its : List aI) (rv : Value) (it : aI) (rs : List aV) : Prop where
 bd:fC wr base bb k c tv gv v2 lg s2
 kp:dF base bb v v2 w wr
 its:mh wr w.heap.size M iv its
 res:wr.heap[w.heap.size]? =some (.cells #[.string ⟨#[]⟩, .int .i64 0, .int .i64 0] 26 (0,0))
 box:wr.heap[xb]? =some (.cells (cg rv it).toArray 28 (0,0))
 row:wr.ownsRow M 26 3 rv rs.length (rs.flatMap dC)
 mark:w.heap.size<M/\M<=xb
section
variable {w wr w' : World} {base bb M xb : Nat} {k : bn} {c : cF} {tv gv v v2 v3 iv rv : Value} {lg : Bool} {s2 s3 : List bu × Bool} {its : List aI} {it : aI} {rs : List aV}
theorem Ei.step (h:Ei w base bb k c tv gv v lg wr v2 iv s2 its) (h1:fC w' base bb k c tv gv v3 lg s3) (h2:dF base bb v2 v3 wr w'):Ei w base bb k c tv gv v lg w' v3 iv s3 its:=
 ⟨h1,h.kp.trans h2,(h.its.lt.keep h.bd h2).own,dF.blk h.bd h2 h.res (by decide) (by decide)⟩
theorem Ei.below (h:Ei w base bb k c tv gv v lg wr v2 iv s2 its) (hb:Below wr.heap.size wr w') (hbz:base<=wr.heap.size):Ei w base bb k c tv gv v lg w' v2 iv s2 its:=
 h.step (h.bd.below hb) (dF.ofBelow hb hbz)
theorem sW.step (h:sW w base bb k c tv gv v lg M xb wr v2 iv s2 its rv it rs) (h1:fC w' base bb k c tv gv v3 lg s3) (h2:dF base bb v2 v3 wr w'):sW w base bb k c tv gv v lg M xb w' v3 iv s3 its rv it rs:=
 ⟨h1,h.kp.trans h2,h.its.keep h.bd h2,dF.blk h.bd h2 h.res (by decide) (by decide),dF.blk h.bd h2 h.box (by decide) (by decide),dF.row h.bd h2 h.row (by decide) (by decide),h.mark⟩
theorem sW.below (h:sW w base bb k c tv gv v lg M xb wr v2 iv s2 its rv it rs) (hb:Below wr.heap.size wr w') (hbz:base<=wr.heap.size):sW w base bb k c tv gv v lg M xb w' v2 iv s2 its rv it rs:=
 h.step (h.bd.below hb) (dF.ofBelow hb hbz)
theorem Ei.item {W:World} (h:Ei w base bb k c tv gv v lg wr v2 iv s2 its) (hb:Below wr.heap.size wr W) (hbx:W.heap[xb]? =some (.cells (cg (.slice none 0 0) it).toArray 28 (0,0))) (hx:wr.heap.size<=xb) (hbz:base<=wr.heap.size):sW w base bb k c tv gv v lg wr.heap.size xb W v2 iv s2 its (.slice none 0 0) it []:=by
 have h2:=h.below hb hbz;exact⟨h2.bd,h2.kp,h.its.lt.same (fun i hi=>hb.block i hi),h2.res,hbx,World.ownsRow_nil _ _ _ _,lt_of_block h.res,hx⟩
theorem sW.set (h:sW w base bb k c tv gv v lg M xb wr v2 iv s2 its rv it rs) {q:Nat} {u:Value} {it':aI} (hc:(cg rv it).toArray.setIfInBounds q u=(cg rv it').toArray) (hbz:base<=w.heap.size):sW w base bb k c tv gv v lg M xb (wr.setCell ⟨xb,q,none⟩ u) v2 iv s2 its rv it' rs:=by
 have hm:=h.mark;have hs: ∀j,j≠xb->(wr.setCell ⟨xb,q,none⟩ u).heap[j]? =wr.heap[j]? :=fun j hj=>Below.heap_setCell _ _ _ _ hj
 refine⟨h.bd.other h.box (by decide) (by decide) (by decide) (fun j hj _=>hs j hj),h.kp.setNew (by omega) hbz,h.its.same (fun i hi=>hs i (by omega)),(hs _ (by omega)).trans h.res,by rw[<-hc]; exact dD h.box u,bZ h.row (fun j hj hu=>hs j (fun e=> ?_)),hm⟩;obtain⟨cs2,hc2⟩:=au h.row hu;exact absurd (aC h.box (e▸hc2)) (by decide)
theorem sW.push {wc:World} {rv':Value} {r:aV} (h:sW w base bb k c tv gv v lg M xb wr v2 iv s2 its rv it rs) (hown:wc.ownsRow M 26 3 rv' (rs.length+1) (rs.flatMap dC++dC r)) (hg:wr.grownBy wc rv.ownBlock) (hbz:base<=w.heap.size):sW w base bb k c tv gv v lg M xb (wc.setCell ⟨xb,6,none⟩ rv') v2 iv s2 its rv' it (rs++[r]):=by
 have hm:=h.mark;have hxb:=lt_of_block h.box;have hs: ∀j,j≠xb->(wc.setCell ⟨xb,6,none⟩ rv').heap[j]? =wc.heap[j]? :=fun j hj=>Below.heap_setCell _ _ _ _ hj
 have hbx:wc.heap[xb]? =some (.cells (cg rv it).toArray 28 (0,0)):=(hg.block xb hxb (fun e=>by
  obtain⟨cs2,hc2⟩:=au h.row e.symm;exact absurd (aC h.box hc2) (by decide))).trans h.box
 have hbd:=h.bd.otherRow h.row hg (by decide) (by decide) (by decide);have hM: ∀i,i<M->(wc.setCell ⟨xb,6,none⟩ rv').heap[i]? =wr.heap[i]? :=fun i hi=>(hs i (by omega)).trans (hg.block i (by omega) (fun e=>by have:=(h.row.lt i e.symm).1; omega))
 refine⟨hbd.other hbx (by decide) (by decide) (by decide) (fun j hj _=>hs j hj),(h.kp.otherRow h.row hg (by omega) hbz).setNew (by omega) hbz,h.its.same hM,(hM _ hm.1).trans h.res, ?_, ?_,hm⟩
 ·have:=dD (k:=6) hbx rv'
  simpa [cg]using this
 ·rw[List.length_append,List.flatMap_append];have h1:wc.ownsRow M 26 3 rv' (rs.length+[r].length) (rs.flatMap dC++[r].flatMap dC):=by simpa using hown
  refine bZ h1 (fun j hj hu=>hs j (fun e=> ?_));obtain⟨cs2,hc2⟩:=au h1 hu;exact absurd (aC hbx (e▸hc2)) (by decide)
theorem sW.done {wd:World} {iv':Value} {zs:List oS} (h:sW w base bb k c tv gv v lg M xb wr v2 iv s2 its rv it it.chunks) (hz:zs.map Prod.snd=its) (hrow:wr.ownsRow w.heap.size 28 10 iv zs.length (kg zs)) (hdat: ∀z∈zs,wr.ownsRow w.heap.size 26 3 z.1 z.2.chunks.length (z.2.chunks.flatMap dC)/\df z.2/\ ∀r∈z.2.chunks,bK r)
  (hown:wd.ownsRow w.heap.size 28 10 iv' (zs.length+1) (kg zs++cg rv it)) (hg:wr.grownBy wd iv.ownBlock) (hok:df it) (hrs: ∀r∈it.chunks,bK r) (hbz:base<=w.heap.size):Ei w base bb k c tv gv v lg wd v2 iv' s2 (its++[it]):=by
 have hm:=h.mark;refine⟨h.bd.otherRow hrow hg (by decide) (by decide) (by decide),h.kp.otherRow hrow hg (Nat.le_refl _) hbz,⟨zs++[(rv,it)],by simp[hz],by rw[List.length_append,List.length_singleton,tN]; exact hown,fun z hzm=> ?_⟩, ?_⟩
 ·rcases List.mem_append.1 hzm with hzm | hzm
  ·exact⟨cS (hdat z hzm).1 hrow hg (by decide),(hdat z hzm).2⟩
  ·rw[List.mem_singleton]at hzm;subst hzm;exact⟨cS (cK h.row (by omega)) hrow hg (by decide),hok,hrs⟩
 ·refine(hg.block _ (lt_of_block h.res) (fun e=> ?_)).trans h.res;obtain⟨cs2,hc2⟩:=au hrow e.symm;exact absurd (aC h.res hc2) (by decide)
end
theorem FE {a:Act} {w:World} {b:Nat} {x0 x1 x2:Value} (h:w.heap[b]? =some (.cells #[x0,x1,x2] 26 (0,0)))
  (h4:a.tmps[4]? =some (.pointer (some ⟨b,0,none⟩))):(results Tryz.f76 a.tmps).run Tryz.prog w= .ok (.agg #[x0,x1,x2]) w:=by
 obtain⟨m0,m1,m2,_⟩:=aj h;simp only[Nat.zero_add,Nat.reduceAdd]at m1 m2;simp[results,Tryz.results76,go_sem,h4,m0,m1,m2]
theorem FD {a:Act} {w:World} {b:Nat} {a0 a1 a2 x0 x1 x2:Value} {Q:Ending->World->Prop} (h:w.heap[b]? =some (.cells #[a0,a1,a2] 26 (0,0)))
  (h4:a.tmps[4]? =some (.pointer (some ⟨b,0,none⟩))) (hd:a.defers=[])
  (hQ:Q (.returned (.agg #[x0,x1,x2])) (((w.setCell ⟨b,0,none⟩ x0).setCell ⟨b,1,none⟩ x1).setCell ⟨b,2,none⟩ x2)):
  bodyPost Tryz.prog Tryz.f76 Q Exit.ret a (((w.setCell ⟨b,0,none⟩ x0).setCell ⟨b,1,none⟩ x1).setCell ⟨b,2,none⟩ x2):=bodyPost_ret (FE (pA h) h4) hd hQ
end Go.Proofs.YtpffpjbkbaleiaaGreatDoor
namespace Go.Proofs.YtpffpjbkbaleiaaGreatDoor
open Go.RowKit
theorem zd {n:Nat} (h:n<=127):(aw n).length=1:=by
 unfold aw ik; rw[if_neg (by omega)]; rfl
structure jt (tree : List bo) : Prop where
 len:tree.length<=12
 data: ∀e∈tree,e.data.length<=60
theorem pQ {c:cF} (hc:dV c=true) (x:List UInt8):(cN c x).length<=x.length:=by
 have h: ∀(l:List (List UInt8)),(∀y∈l,1<=y.length)->l.length<=l.flatten.length:=by
  intro l
  induction l with
  | nil=>simp
  | cons y l ih=>
   intro h;have h1:=h y (by simp);have h2:=ih fun z hz=>h z (by simp[hz])
   rw[List.flatten_cons,List.length_append,List.length_cons]; omega
 have:=h (cN c x) fun y hy=>(nr hc x y hy).1
 rw[vl]at this;exact this
theorem EK {c:cF} {x y:List UInt8} (h:y∈cN c x):y.length<=x.length:=by
 obtain⟨s,t,e⟩:=List.append_of_mem h;have h1:=vl c x;rw[e,List.flatten_append,List.flatten_cons]at h1;rw[<-h1];simp only[List.length_append];omega
theorem Cq (r:aV) (h:r.name.size=32):(cT r).length<=54:=by
 have h1:=bm r.gen.toNat
 have h2:=bm r.size.toNat
 unfold cT;simp only[List.length_append,<-am];omega
section
variable {k : bn} {gs : List (ByteArray × Int)} {c : cF} {tree : List bo}
theorem zf (hg:eL gs) {y:List UInt8} (h:y.length<=60):(cT (aE k gs y)).length<=43:=by
 unfold cT;have h1:(aE k gs y).name.size=32:=fG _ _ _;have h2:=vo hg (gh k 0 y);have h3:(aE k gs y).size=(y.length:Int):=rfl;have h4:=dI (n:=(aE k gs y).gen.toNat) (by
  show(gF gs (gh k 0 y)).toNat<_
  omega)
 rw[List.length_append,List.length_append,<-am,h1,h3,zd (n:=(y.length:Int).toNat) (by omega)];omega
theorem rG (hg:eL gs): ∀(l:List (List UInt8)),(∀y∈l,y.length<=60)->((l.map (aE k gs)).flatMap cT).length<=43*l.length
 | [],_=>by simp
 | y::l,h=>by
  have h1:=zf (k:=k) hg (h y (by simp));have h2:=rG hg l fun z hz=>h z (by simp[hz])
  rw[List.map_cons,List.flatMap_cons,List.length_append,List.length_cons];omega
theorem Fa (hg:eL gs) (hc:dV c=true) {d:ByteArray} {e:bo} {nd:aV} (hv:dd e=true) (hp:aH (bl e.path)=bl d) (hd:e.data.length<=60) (hn:nd.name.size=32):(cY (aT k gs c d e nd)).length<=2720:=by
 have hk:=ny (bi hv) hp;have hl:(pk (bl d) (bl e.path)).length<=64:=by
  have h:=hk.comp;unfold dm at h;simp only[Bool.and_eq_true,decide_eq_true_eq]at h;exact h.1.1.1.1.2
 have hnm:(bl (aT k gs c d e nd).name).length<=64:=by
  show(bl ⟨(gH (bl d) (bl e.path)).toArray⟩).length<=64
  rw[ed]; exact hl
 have k1:=bm (aT k gs c d e nd).name.size;have k2:=bm (aT k gs c d e nd).kind.toNat
 have k3:=bm (aT k gs c d e nd).mode.toNat
 have k4:=bm (aT k gs c d e nd).time.toNat
 have ht:(ii (aT k gs c d e nd)).length<=2600:=by
  unfold ii
  show(if e.kind=1 then aw (if e.kind=1 then(cN c e.data).map (aE k gs)else []).length++(if e.kind=1 then(cN c e.data).map (aE k gs)else []).flatMap cT else if e.kind=2 then cT (if e.kind=2 then nd else bG)else aw e.link.size++bl e.link).length<=_
  by_cases h1:e.kind=1
  ·rw[if_pos h1,if_pos h1,List.length_append];have h6:=rG (k:=k) hg (cN c e.data) fun y hy=>by have:=EK hy; omega
   have h2:=pQ hc e.data;have h3:=bm ((cN c e.data).map (aE k gs)).length;omega
  ·rw[if_neg h1]
   by_cases h2:e.kind=2
   ·rw[if_pos h2,if_pos h2];have:=Cq nd hn;omega
   ·rw[if_neg h2];have h3:=bm e.link.size
    rcases qG hv with h4 | h4 | h4
    ·exact absurd h4.1 h1
    ·exact absurd h4.1 h2
    ·have:=h4.2.2.2.1;rw[List.length_append,<-am];omega
 unfold cY;simp only[List.length_append];omega
theorem nH (hg:eL gs) (hc:dV c=true) (h:yG tree) (hs:jt tree) (f:Nat) (d:ByteArray):(ew k gs c tree f d).1.length<=32768:=by
 cases f with
 | zero=>simp[ew]
 | succ f=>
  rw[eh]
  show(cQ (kh k gs c tree f d)).length<=32768
  have hl:(bA tree d).length<=tree.length:=List.length_filter_le _ _;have h12:=hs.len;have hf: ∀(L:List bo),(∀e∈L,e∈bA tree d)->((L.map fun e=>aT k gs c d e (aE k gs (ew k gs c tree f e.path).1)).flatMap cY).length<=2720*L.length:=by
   intro L
   induction L with
   | nil=>simp
   | cons e L ih=>
    intro hL;have h1:=ih fun x hx=>hL x (by simp[hx])
    obtain⟨he1,he2⟩:=cJ.1 (hL e (by simp));have h2:=Fa (k:=k) (gs:=gs) (nd:=aE k gs (ew k gs c tree f e.path).1) hg hc (h.val e he1) he2 (hs.data e he1) (fG _ _ _);rw[List.map_cons,List.flatMap_cons,List.length_append,List.length_cons];omega
  have h3:=hf (bA tree d) fun _ he=>he
  have h4:=bm (kh k gs c tree f d).length;unfold cQ;rw[List.length_append];have h5:((kh k gs c tree f d).flatMap cY).length<=2720*(bA tree d).length:=h3;omega
theorem uw (hg:eL gs) (hc:dV c=true) (h:yG tree) (hs:jt tree): ∀(f:Nat) (d:ByteArray),kQ k gs c tree f d=false
 | 0,_=>rfl
 | f+1,d=>by
  unfold kQ;rw[Bool.or_eq_false_iff,List.any_eq_false,decide_eq_false_iff_not];refine⟨fun e _=>by rw[uw hg hc h hs f e.path]; simp, ?_⟩;have:=nH (k:=k) hg hc h hs (f+1) d;omega
theorem oU (hk:dX k=true) (hc:dV c=true) (hg:eL gs) (h:yG tree) (hs:jt tree):cj k c tree gs= .ok (aE k gs (ew k gs c tree 514 ⟨#[]⟩).1,bP k gs (ew k gs c tree 514 ⟨#[]⟩).2 []):=by
 have h0:(bl (⟨#[]⟩:ByteArray)).length=0:=rfl;unfold cj;rw[if_pos ⟨hk,hc⟩,if_pos (by
  rw[List.all_eq_true];intro p hp;have:=hg p hp;simp only[Bool.and_eq_true,decide_eq_true_eq];exact this),if_pos (iE.2 h),Bg h hc hg 514 ⟨#[]⟩ (by omega) (by omega),uw hg hc h hs]
 rfl
end
open Go Go.RowKit Go.Maps
theorem vZ {k:bn} {c:cF} {tree:List bo} {gs:List (ByteArray×Int)} {r:aV} {bs:List bu} {w w':World} {e:Ending} (h:kO (cj k c tree gs) w e w') (hb:cj k c tree gs= .ok (r,bs)) (hr: ∀b∈bs,bK b.ref):
  Below w.heap.size w w'/\ ∃a cap,e= .returned (.tuple #[bU r, .slice a bs.length cap, .int .i64 0])/\bs.length<=cap/\cap<=maxLen/\iX (fun i=>w.heap.size<=i) w' (.slice a bs.length cap) bs:=by
 rw[hb]at h;obtain⟨h1,v,zs,h2,h3',h4⟩:=h;have h3:zs.map Prod.snd=bs:=h3';have hlen:bs.length=zs.length:=by rw[<-h3,List.length_map]
 obtain⟨a,cap,rfl,h5,h6⟩:=ai h4.row;refine⟨h1,a,cap,by rw[hlen]; exact h2,by omega,h6,zs,h3, ?_,fun z hz=>⟨aL.weak (aO (h4.dat z hz)) (fun i hi=>hi.1),hr _ (by rw[<-h3]; exact List.mem_map.2 ⟨z,hz,rfl⟩)⟩⟩;rw[hlen];exact aL.weak (aO h4.row) (fun i hi=>hi.1)
theorem mB {S:Nat->Prop} {w w':World} {a:Option Addr} {n cap:Nat} {bs:List bu} (h:iX S w (.slice a n cap) bs) (hb:Below w.heap.size w w') {k:Nat} {b:bu} (hk:bs[k]? =some b):
  ∃bk o za zc,a=some ⟨bk,o,none⟩/\bk<w.heap.size/\ar S w' (.slice za b.con.length zc) b.con/\w'.cell? ⟨bk,o+k*4,none⟩=some (.string b.ref.name)/\w'.cell? ⟨bk,o+k*4+1,none⟩=some (.int .i64 b.ref.gen)/\w'.cell? ⟨bk,o+k*4+2,none⟩=some (.int .i64 b.ref.size)/\w'.cell? ⟨bk,o+k*4+3,none⟩=some (.slice za b.con.length zc):=by
 obtain⟨zs,h1,h2,h3⟩:=h;rw[<-h1,List.getElem?_map,Option.map_eq_some_iff]at hk;obtain⟨z,hz,rfl⟩:=hk;obtain⟨bk,o,rfl,-,hlt,hc⟩:=nj h2 hz;have hd:=(h3 z (List.mem_of_getElem? hz)).1;obtain⟨_,za,zc,hzv,-,-,-⟩:=id hd;have g:=fun i (hi:i<4)=>(hb.cell (p:=⟨bk,o+k*4+i,none⟩) hlt).trans (hc i hi)
 have q0:=g 0 (by omega);have q1:=g 1 (by omega);have q2:=g 2 (by omega);have q3:=g 3 (by omega);simp only[iD,vN,Nat.add_zero]at q0 q1 q2 q3;rw[hzv]at q3;exact⟨bk,o,za,zc,rfl,hlt,by rw[<-hzv]; exact aL.below hd (by omega) hb,q0,q1,q2,q3⟩
def Gb :List Value:=[.string ⟨#[97]⟩, .int .i64 1, .int .i64 0, .int .i64 0, .slice none 0 0, .string ⟨#[]⟩, .string ⟨#[100]⟩, .int .i64 2, .int .i64 0, .int .i64 0, .slice none 0 0, .string ⟨#[]⟩, .string ⟨#[100,47,108]⟩, .int .i64 3, .int .i64 5, .int .i64 6, .slice none 0 0, .string ⟨#[97]⟩]
theorem Av (S:Nat->Prop) (w:World):bR (jr S w) Gb jo:=by
 refine⟨[.string ⟨#[97]⟩, .int .i64 1, .int .i64 0, .int .i64 0, .slice none 0 0, .string ⟨#[]⟩],_,rfl,⟨.slice none 0 0,rfl,bO.nil _ _,⟨by decide,by decide,by decide,by decide,by decide⟩⟩, ?_⟩;refine⟨[.string ⟨#[100]⟩, .int .i64 2, .int .i64 0, .int .i64 0, .slice none 0 0, .string ⟨#[]⟩],_,rfl,⟨.slice none 0 0,rfl,bO.nil _ _,⟨by decide,by decide,by decide,by decide,by decide⟩⟩, ?_⟩
 exact⟨[.string ⟨#[100,47,108]⟩, .int .i64 3, .int .i64 5, .int .i64 6, .slice none 0 0, .string ⟨#[97]⟩],[],rfl,⟨.slice none 0 0,rfl,bO.nil _ _,⟨by decide,by decide,by decide,by decide,by decide⟩⟩,rfl⟩
theorem yO {S:Nat->Prop} {w:World} {b o n c:Nat} {x:bu} {bs:List bu} (h:iX S w (.slice (some ⟨b,o,none⟩) (n+1) c) (x::bs)):iX S w (.slice (some ⟨b,o+4,none⟩) n (c-1)) bs:=by
 obtain⟨zs,h1,h2,h3⟩:=h
 cases zs with
 | nil=>simp at h1
 | cons z zs=>
  simp only[List.map_cons,List.cons.injEq]at h1;refine⟨zs,h1.2, ?_,fun y hy=>h3 y (by simp[hy])⟩;obtain⟨h4,a',c',he,h5,h6,h7⟩:=h2;simp only[Value.slice.injEq,List.length_cons]at he;obtain⟨rfl,hn,rfl⟩:=he;have hzl:(eE (z::zs)).length=4+(eE zs).length:=by unfold eE; rw[List.flatMap_cons,List.length_append]; rfl
  simp only[List.length_cons]at h4 h5 h7;refine⟨by omega,some ⟨b,o+4,none⟩,c-1,by rw[show n=zs.length by omega],by omega,by omega, ?_⟩
  rcases h7 with h7 | ⟨b9,o9,he9,hS,hc⟩
  ·omega
  ·cases he9
   refine .inr ⟨b,o+4,rfl,hS,fun j u hj=> ?_⟩;have:=hc (4+j) u (by
    unfold eE at hj ⊢;rw[List.flatMap_cons,List.getElem?_append_right (by show 4<=_; omega)];rw[show 4+j-(iD z.1 z.2).length=j by show 4+j-4=j; omega];exact hj)
   rwa [<-Nat.add_assoc]at this
theorem Il :bK (aE dL [] [0]):=eT (by simp) (by decide)
theorem Ik :bK lu:=eT (by simp) (by decide)
theorem BI :bK gP:=eT (by simp) (by decide+kernel)
theorem vW (w:World) (hE:my w):Calls Tryz.prog 14 #[] w fun e w'=>e= .returned (.bool true)/\Below w.heap.size w w':=by
 have HE:=aa hE;obtain⟨W0,hW0⟩: ∃W0,W0=w.alloc (.cells #[.int .u8 0] 5):=⟨_,rfl⟩;have hb0:Below w.heap.size w W0:=by rw[hW0]; exact bH
 have HB0:=aa hb0;have hby:ar (fun i=>i=w.heap.size) W0 (.slice (some ⟨w.heap.size,0,none⟩) 1 1) [0]:=pX (cells:=[ak 0]) (by rw[hW0]; exact bz w _) rfl (by decide);have hit:=tL _ [0] _ W0 hby (hE.below hb0).env;unfold vS at hit;rw[Jb]at hit;have HIT:=aa hit;clear hE hb0 hby hit
 go_enter Tryz.func14,Tryz.ntmps14
 go_wp2_with fail;rw[<-hW0];clear hW0;refine HIT.o.mono ?_;rintro e w1 ⟨hb1,iv,rfl,hiv⟩;obtain⟨ia,ic,rfl,-,-,-⟩:=aU.shape hiv fH.len;have HB1:=aa (ab HB0.o hb1);clear hb1 hiv HIT;go_wp2_with fail;refine(xk w1).mono ?_;rintro e w2 ⟨rfl,hb2⟩;have HB2:=aa (ab HB1.o hb2);clear hb2;go_wp2_with fail;refine(oZ w2).mono ?_;rintro e w3 ⟨rfl,hb3⟩;have HB3:=aa (ab HB2.o hb3)
 clear hb3;go_wp2_with fail;refine(og (fun _=>True) (fun _=>True) dL kU [] [] (.slice none 0 0) (.map none) w3 (by decide) (bV.nil _ _) (.inl ⟨rfl,rfl⟩) (HE.o.below HB3.o)).mono ?_;rintro e w4 hres;obtain⟨hb4,a4,c4,rfl,hc4,hm4,hbl4⟩:=vZ hres IU (by intro b hb; simp only[List.mem_singleton]at hb; subst hb; exact Il);obtain⟨r,hr⟩: ∃r,r=aE dL [] [0]:=⟨_,rfl⟩
 rw[<-hr]at hbl4 ⊢;have HB4:=aa (ab HB3.o hb4);have HBL4:=aa hbl4;unfold maxLen at hm4;simp only[List.length_singleton]at hc4 ⊢;clear hres hb4 hbl4 hr;unfold bU;go_wp2_with fail;obtain⟨W5,hW5⟩: ∃W5:World,W5=(w4.alloc (.cells #[.string r.name, .int .i64 r.gen, .int .i64 r.size] 26)).drew:=⟨_,rfl⟩;have hb5:Below w4.heap.size w4 W5:=by rw[hW5]; exact(bH).drew
 have HF5:=aa (show W5.heap[w4.heap.size]? =some (.cells #[.string r.name, .int .i64 r.gen, .int .i64 r.size] 26 (0,0)) by rw[hW5]; exact bz w4 _);obtain⟨bk,o,za,zc,rfl,hbk,hcon,q0,q1,q2,q3⟩:=mB HBL4.o hb5 (k:=0) (b:=⟨r,[0]⟩) rfl;simp only[List.length_singleton,Nat.zero_mul,Nat.add_zero]at hcon q0 q1 q2 q3;have hcv:=dg hcon;obtain⟨r0,r1,r2,_⟩:=aj HF5.o
 simp only[Nat.zero_add,Nat.reduceAdd]at r1 r2;have HB5:=aa (ab HB4.o hb5);clear hb5 hcon;refine az [some 32] (by kernel_rfl) (by kernel_rfl) (by kernel_rfl) ?_;simp only[bC,List.take_succ_cons,List.take_zero];rw[<-hW5];clear hW5
 repeat (first | (refine aK rfl ?_; simp only[Act.put,aZ,bg,bh]) | (refine aS rfl (fun K hK=> ?_); go_simp; refine hK _ ?_; clear hK K))
 refine aR ?_;go_wp2_with fail;obtain⟨W6,hW6⟩: ∃W6:World,W6=W5.alloc (.cells Gb.toArray 79):=⟨_,rfl⟩;have hb6:Below W5.heap.size W5 W6:=by rw[hW6]; exact bH
 have HB6:=aa (ab HB5.o hb6);have HTR:=aa (show bV (fun i=>i=W5.heap.size) W6 (.slice (some ⟨W5.heap.size,0,none⟩) 3 3) jo from⟨Gb,pX (by rw[hW6]; exact bz W5 _) rfl (by decide),Av _ _⟩);have hW6':W6=W5.alloc (.cells #[.string ⟨#[97]⟩, .int .i64 1, .int .i64 0, .int .i64 0, .slice none 0 0, .string ⟨#[]⟩, .string ⟨#[100]⟩, .int .i64 2, .int .i64 0, .int .i64 0, .slice none 0 0, .string ⟨#[]⟩, .string ⟨#[100,47,108]⟩, .int .i64 3, .int .i64 5, .int .i64 6, .slice none 0 0, .string ⟨#[97]⟩] 79):=hW6
 rw[<-hW6'];clear hW6 hW6' hb6 q0 q1 q2 q3 r0 r1 r2 hcv;refine(xk W6).mono ?_;rintro e w7 ⟨rfl,hb7⟩;have HB7:=aa (ab HB6.o hb7);have HT7:=aa (bV.below HTR.o hb7);clear hb7;go_wp2_with fail;refine(oZ w7).mono ?_;rintro e w8 ⟨rfl,hb8⟩;have HB8:=aa (ab HB7.o hb8);have HT8:=aa (bV.below HT7.o hb8);clear hb8;go_wp2_with fail;refine(og _ (fun _=>True) dL kU jo [] _ (.map none) w8 (by decide) HT8.o (.inl ⟨rfl,rfl⟩) (HE.o.below HB8.o)).mono ?_
 rintro e w9 hres;obtain⟨hb9,a9,c9,rfl,hc9,hm9,hbl9⟩:=vZ hres IV (by intro b hb; simp only[List.mem_cons,List.not_mem_nil,or_false]at hb; rcases hb with rfl | rfl; exact Ik; exact BI);have HB9:=aa (ab HB8.o hb9);have HBL9:=aa hbl9;unfold maxLen at hm9;simp only[List.length_cons,List.length_nil,Nat.reduceAdd]at hc9 HBL9 ⊢;clear hres hb9 hbl9;unfold bU
 obtain⟨rt,hrt⟩: ∃rt,rt=gP:=⟨_,rfl⟩;have HRT:=aa hrt;rw[<-hrt]at HBL9 ⊢;clear hrt
 go_upto_region 7 with(fail)
 obtain⟨W10,hW10⟩: ∃W10:World,W10=w9.alloc (.cells #[.string rt.name, .int .i64 rt.gen, .int .i64 rt.size] 26):=⟨_,rfl⟩;rw[<-hW10];have hb10:Below w9.heap.size w9 W10:=by rw[hW10]; exact bH
 have HB10:=aa (ab HB9.o hb10);have HF10:=aa (show W10.heap[w9.heap.size]? =some (.cells #[.string rt.name, .int .i64 rt.gen, .int .i64 rt.size] 26 (0,0)) by rw[hW10]; exact bz w9 _);obtain⟨bb,oo,ya,yc,rfl,hbb,hcon,q0,q1,q2,q3⟩:=mB HBL9.o hb10 (k:=0) (b:=⟨lu,me⟩) rfl;have hcv:(convert 29 9 (.slice ya 8 yc)).run Tryz.prog W10= .ok (.string ⟨#[1,1,108,3,5,6,1,97]⟩) W10:=dg hcon
 replace q3:W10.cell? ⟨bb,oo+0*4+3,none⟩=some (.slice ya 8 yc):=q3
 simp only[Nat.zero_mul,Nat.add_zero]at q0 q1 q2 q3;have HBL10:=aa (HBL9.o.below hb10);clear hW10 hb10 hcon
 go_upto_region 9 with(fail)
 clear q0 q1 q2 q3 hcv;go_wp2_with fail;refine(vg _ _ _ _ (yO (n:=1) HBL10.o) (by simp)).mono ?_;rintro e w11 ⟨mb,mm,rfl,hmb,hms,hen,hb11⟩;have HB11:=aa (ab HB10.o hb11);have HC11:=aa (show cM (fun _=>True) w11 (.map (some mb)) qv from by
  rw[HRT.o]at hen;exact .inr ⟨mb,mm,rfl,trivial,hms.is,bW.wide hen⟩)
 have HF11:=aa (br hb11 HF10.o);have HBL11:=aa (HBL10.o.below hb11);clear hb11 hmb hms hen HBL10 HF10;obtain⟨r0,r1,r2,_⟩:=aj HF11.o;simp only[Nat.zero_add,Nat.reduceAdd]at r1 r2;go_wp2_with fail;have HRO:=aa (show bK rt by rw[HRT.o]; exact BI);have HLA:=aa (show pp qv rt= .error 10 by rw[HRT.o]; exact JA);have HMI:=aa (show Fi qv rt= .ok [lu] by rw[HRT.o]; exact JE)
 have HL1:=aa (show fq qv rt ⟨#[97]⟩= .ok nw by rw[HRT.o]; exact JD);have HL2:=aa (show fq qv rt ⟨#[100,47,108]⟩= .error 10 by rw[HRT.o]; exact Jg);refine(xz _ (.map (some mb)) qv rt w11 HC11.o (HE.o.below HB11.o).env HRO.o).mono ?_;rintro e w12 ⟨hb12,hl12⟩;rw[HLA.o]at hl12;obtain⟨rfl,-⟩:=hl12;have HB12:=aa (ab HB11.o hb12);have HC12:=aa (HC11.o.below hb12)
 have HF12:=aa (br hb12 HF11.o);have HBL12:=aa (HBL11.o.below hb12);clear hb12 HC11 HF11 HBL11 r0 r1 r2;obtain⟨r0,r1,r2,_⟩:=aj HF12.o;simp only[Nat.zero_add,Nat.reduceAdd]at r1 r2;go_wp2_with fail;refine(sF (by decide) _ (.map (some mb)) rt w12 HC12.o (HE.o.below HB12.o).env HRO.o).mono ?_;rintro e w13 ⟨hb13,hm13⟩;rw[HMI.o]at hm13;obtain⟨mv,rfl,hmv⟩:=hm13;obtain⟨ma,mc,rfl,-,-,-⟩:=aU.shape hmv lZ.len
 have HMV:=aa hmv;have HB13:=aa (ab HB12.o hb13);have HC13:=aa (HC12.o.below hb13);have HF13:=aa (br hb13 HF12.o);have HBL13:=aa (HBL12.o.below hb13);clear hb13 hmv HC12 HF12 HBL12 r0 r1 r2;obtain⟨r0,r1,r2,_⟩:=aj HF13.o;simp only[Nat.zero_add,Nat.reduceAdd]at r1 r2;go_wp2_with fail;refine(mr _ (.map (some mb)) qv rt ⟨#[97]⟩ w13 HC13.o (HE.o.below HB13.o).env HRO.o).mono ?_
 rintro e w14 ⟨hb14,hl14⟩;rw[HL1.o]at hl14;obtain⟨lv,rfl,hlv,-⟩:=hl14;have HB14:=aa (ab HB13.o hb14);have HC14:=aa (HC13.o.below hb14);have HF14:=aa (br hb14 HF13.o);have HBL14:=aa (HBL13.o.below hb14);have HMV14:=aa (aU.below HMV.o (by omega) hb14 (fun _ _ _ h=>h));obtain⟨la,lc,rfl,-,-,-⟩:=aU.shape hlv lZ.len;clear hb14 hlv HC13 HF13 HBL13 HMV r0 r1 r2
 unfold mq
 go_upto_region 13 with(fail)
 obtain⟨W15,hW15⟩: ∃W15:World,W15=w14.alloc (.cells #[.string nw.name, .int .i64 nw.kind, .int .i64 nw.mode, .int .i64 nw.time, .int .i64 nw.size, .string nw.link, .slice la nw.chunks.length lc, .string nw.node.name, .int .i64 nw.node.gen, .int .i64 nw.node.size] 28):=⟨_,rfl⟩;rw[<-hW15];have hb15:Below w14.heap.size w14 W15:=by rw[hW15]; exact bH
 have HI15:=aa (show W15.heap[w14.heap.size]? =some (.cells #[.string nw.name, .int .i64 nw.kind, .int .i64 nw.mode, .int .i64 nw.time, .int .i64 nw.size, .string nw.link, .slice la nw.chunks.length lc, .string nw.node.name, .int .i64 nw.node.gen, .int .i64 nw.node.size] 28 (0,0)) by rw[hW15]; exact bz w14 _);have HB15:=aa (ab HB14.o hb15);have HC15:=aa (HC14.o.below hb15)
 have HF15:=aa (br hb15 HF14.o);have HBL15:=aa (HBL14.o.below hb15);have HMV15:=aa (aU.below HMV14.o (by omega) hb15 (fun _ _ _ h=>h));clear hb15 hW15 HC14 HF14 HBL14 HMV14;obtain⟨r0,r1,r2,_⟩:=aj HF15.o;simp only[Nat.zero_add,Nat.reduceAdd]at r1 r2;go_wp2_with fail;refine(mr _ (.map (some mb)) qv rt ⟨#[100,47,108]⟩ W15 HC15.o (HE.o.below HB15.o).env HRO.o).mono ?_
 rintro e w16 ⟨hb16,hl16⟩;rw[HL2.o]at hl16;obtain⟨rfl,-⟩:=hl16;have HB16:=aa (ab HB15.o hb16);have HI16:=aa (br hb16 HI15.o);have HBL16:=aa (HBL15.o.below hb16);have HMV16:=aa (aU.below HMV15.o (by omega) hb16 (fun _ _ _ h=>h));clear hb16 HC15 HF15 HBL15 HMV15 HI15 r0 r1 r2
 go_upto_region 14 with(fail)
 obtain⟨W17,hW17⟩: ∃W17:World,W17=(w16.alloc (.cells #[.string ⟨#[]⟩, .int .i64 0, .int .i64 0, .int .i64 0, .int .i64 0, .string ⟨#[]⟩, .slice none 0 0, .string ⟨#[]⟩, .int .i64 0, .int .i64 0] 28)).drew:=⟨_,rfl⟩;have hb17:Below w16.heap.size w16 W17:=by rw[hW17]; exact(bH).drew
 have HB17:=aa (ab HB16.o hb17);have hi17:=br hb17 HI16.o;have i1:=ag (k:=1) hi17;simp only[cr]at i1
 replace i1:W17.cell? ⟨w14.heap.size,1,none⟩=some (.int .i64 1):=i1
 obtain⟨mb2,mo2,rfl,-,p0,p1,p2⟩:=jn HMV16.o hb17 (k:=0) (r:=lu) rfl;obtain⟨rd,hrd⟩: ∃rd,rd=lu:=⟨_,rfl⟩;rw[<-hrd]at p0 p1 p2;obtain⟨b9,o9,y9,z9,he9,-,-,q0,q1,q2,-⟩:=mB HBL16.o hb17 (k:=0) (b:=⟨lu,me⟩) rfl
 cases he9
 simp only at q0 q1 q2;rw[<-hrd]at q0 q1 q2;simp only[Nat.zero_mul,Nat.add_zero]at p0 p1 p2 q0 q1 q2;clear hi17 hb17 hrd;refine az [some 35] (by kernel_rfl) (by kernel_rfl) (by kernel_rfl) ?_;simp only[bC,List.take_succ_cons,List.take_zero];rw[<-hW17];clear hW17
 repeat (first | (refine aK rfl ?_; simp only[Act.put,aZ,bg,bh]) | (refine aS rfl (fun K hK=> ?_); go_simp; refine hK _ ?_; clear hK K))
 refine aR ?_;go_wp2_with fail;go_ret;exact⟨rfl,HB17.o⟩
end Go.Proofs.YtpffpjbkbaleiaaGreatDoor
namespace Go.Proofs.YtpffpjbkbaleiaaGreatDoor
theorem qy : ∀ {l m:List dZ} {a b:List UInt8},cn l= .ok a->cn m= .ok b->cn (l++m)= .ok (a++b)
 | [],m,a,b,h1,h2=>by
  simp only[cn,Except.ok.injEq]at h1;subst h1
  simpa using h2
 | y::l,m,a,b,h1,h2=>by
  rw[cn]at h1
  cases hy:fM y with
  | error e=>rw[hy]at h1; simp at h1
  | ok c=>
   rw[hy]at h1;simp only at h1
   cases hk:cn l with
   | error e=>rw[hk]at h1; simp at h1
   | ok d=>
    rw[hk]at h1;simp only[Except.ok.injEq]at h1;subst h1;simp only[List.cons_append,cn,hy,qy hk h2,List.append_assoc]
theorem dp {x:dZ} {l:List dZ} {a b:List UInt8} (h1:fM x= .ok a) (h2:cn l= .ok b):cn (x::l)= .ok (a++b):=by
 simp only[cn,h1,h2]
theorem kW {α:Type} {f:α->List dZ} {g:α->List UInt8} : ∀ {l:List α},(∀x∈l,cn (f x)= .ok (g x))->cn (l.flatMap f)= .ok (l.flatMap g)
 | [],_=>rfl
 | x::l,h=>by
  rw[List.flatMap_cons,List.flatMap_cons];exact qy (h x (by simp)) (kW (fun y hy=>h y (by simp[hy])))
theorem kV {n:Int} (h0:0<=n) (h1:n<18446744073709551616):fM (dx n)= .ok (aw n.toNat):=by
 unfold fM dx;rw[if_pos rfl,show n%18446744073709551616=n by omega]
theorem tt (s:ByteArray):fM (iR s)= .ok (aw s.size++bl s):=by simp[fM,iR]
theorem EP {s:ByteArray} (h:s.size=32):fM (At s)= .ok (bl s):=by simp[fM,At,h]
theorem qx (n:Nat):fM (et n)= .ok (aw n):=by
 have h: ¬((n:Int)<0):=by omega
 have e:fM (et n)=if(n:Int)<0 then .error 1 else .ok (aw (n:Int).toNat):=rfl
 rw[e,if_neg h,Int.toNat_natCast]
theorem qz {r:aV} (h:gL r=true):cn (bF r)= .ok (cT r):=by
 obtain⟨h1,h2,h3,h4,h5⟩:=jT.1 h;have:=dp (EP h1) (dp (kV h2 (by omega)) (dp (kV h4 (by omega)) (show cn []= .ok []from rfl)))
 simpa [bF,cT]using this
theorem wM {it:aI} (hv:ep it=true) (ht:it.time<9223372036854775808):cn (cC it)= .ok (cY it):=by
 have hv':=hv;unfold ep at hv';rw[Bool.and_eq_true]at hv';have hh:=nt.1 hv'.1;have hk:=oe hv'.2;have htail:cn (if it.kind=1 then et it.chunks.length::it.chunks.flatMap bF else if it.kind=2 then bF it.node else [iR it.link])= .ok (ii it):=by
  unfold ii
  rcases hk with hk | hk | hk
  ·rw[if_pos hk,if_pos hk];exact dp (qx _) (kW (fun r hr=>qz ((jE hk hv'.2).2.2.1 r hr).1))
  ·rw[if_neg (by omega),if_pos hk,if_neg (by omega),if_pos hk];exact qz (qj hk hv'.2).2.2.2
  ·rw[if_neg (by omega),if_neg (by omega),if_neg (by omega),if_neg (by omega)];have:=dp (tt it.link) (show cn []= .ok []from rfl)
   simpa using this
 have:=dp (tt it.name) (dp (kV (n:=it.kind) (by omega) (by omega)) (dp (kV (n:=it.mode) hh.md0 (by have:=hh.md1; omega)) (dp (kV (n:=it.time) hh.tm0 (by omega)) htail)));unfold cC cY
 simpa using this
theorem Fm {l:List aI} (hv:eq l=true) (ht: ∀it∈l,it.time<9223372036854775808) (hs:(cQ l).length<=1048576):nF l=cQ l:=by
 have h:cn (di l)= .ok (cQ l):=by
  unfold di cQ;exact dp (qx _) (kW (fun it hit=>wM ((lX hv).2 it hit) (ht it hit)))
 unfold nF sy;rw[h];simp only;rw[if_neg (by omega)]
open Go.RowKit
theorem ri :bG.name.size=0:=rfl
theorem yy {it:aI} (hv:ep it=true):Ef it/\fg it=true:=by
 unfold ep at hv;rw[Bool.and_eq_true]at hv;exact⟨nt.1 hv.1,hv.2⟩
theorem zy {it:aI} (hv:ep it=true):pL it:=by
 obtain⟨hh,hb⟩:=yy hv;have hn:=qs hh.val hh.nos;rw[<-am]at hn;have he:(⟨#[]⟩:ByteArray).size=0:=rfl
 rcases oe hb with hk | hk | hk
 ·obtain⟨h1,h2,h3,-,-⟩:=jE hk hb;exact⟨by omega,by rw[h1,he]; omega,by rw[h2,ri]; omega,fun c hc=>by have:=(jT.1 (h3 c hc).1).1; omega⟩
 ·obtain⟨h1,-,h3,h4⟩:=qj hk hb;exact⟨by omega,by rw[h1,he]; omega,by have:=(jT.1 h4).1; omega,fun c hc=>by rw[h3]at hc; cases hc⟩
 ·obtain⟨-,h2,h3,h4,h5,-⟩:=sY hk hb;exact⟨by omega,by omega,by rw[h3,ri]; omega,fun c hc=>by rw[h2]at hc; cases hc⟩
section
variable {k : bn} {gs : List (ByteArray × Int)} {c : cF} {tree : List bo}
theorem qU {d:ByteArray} {j:Nat} {e:bo} (h:tree[j]? =some e):bA (tree.take (j+1)) d=bA (tree.take j) d++(if aH (bl e.path)=bl d then [e]else []):=by
 rw[bS h];unfold bA;rw[List.filter_append]
 congr 1
 by_cases hp:aH (bl e.path)=bl d<;> simp[hp]
theorem CG {d:ByteArray} {g:bo->List (List UInt8)} {j:Nat} {e:bo} (h:tree[j]? =some e) (hp:aH (bl e.path)=bl d):((bA (tree.take j) d).flatMap g).length+(g e).length<=((bA tree d).flatMap g).length:=by
 have h1:=qU (d:=d) h;rw[if_pos hp]at h1;have h2:bA tree d=bA (tree.take (j+1)) d++bA (tree.drop (j+1)) d:=by
  unfold bA;rw[<-List.filter_append,List.take_append_drop]
 rw[h2,h1,List.flatMap_append,List.flatMap_append,List.length_append,List.length_append];simp
theorem oD (cs:List (List UInt8)) (s:List bu×Bool):(eK k gs cs s).1.length<=s.1.length+cs.length:=by
 rw[ji]; exact od k gs cs s.1
theorem kr (a b:List (List UInt8)) (s:List bu×Bool):eK k gs (a++b) s=eK k gs b (eK k gs a s):=by
 unfold eK; rw[List.foldl_append]
theorem zV {cs:List (List UInt8)} {s:List bu×Bool} {j:Nat} {x:List UInt8} (h:cs[j]? =some x):eK k gs (cs.take (j+1)) s=nK k gs (eK k gs (cs.take j) s) x:=by
 rw[bS h,kr]; rfl
theorem CC {d:ByteArray} {e:bo} {nd:aV} (h:dd e=true):(aT k gs c d e nd).size=(e.data.length:Int):=by
 show(if e.kind=1 then(e.data.length:Int)else 0)=_
 rcases qG h with⟨h1,_⟩ | ⟨h1,h2,_⟩ | ⟨h1,h2,_⟩
 ·rw[if_pos h1]
 ·rw[if_neg (by omega),h2]; rfl
 ·rw[if_neg (by omega),h2]; rfl
theorem Cz {it:aI} (hc:it.chunks.length<=60):(cC it).length<=250:=by
 have hf:(it.chunks.flatMap bF).length=3*it.chunks.length:=by
  induction it.chunks with
  | nil=>rfl
  | cons r l ih=>rw[List.flatMap_cons,List.length_append,ih,List.length_cons]; simp[bF]; omega
 unfold cC;rw[List.length_append]
 split
 ·simp[hf]; omega
 ·split<;> simp[bF]
theorem xF {l:List aI} (hl:l.length<=12) (hc: ∀it∈l,it.chunks.length<=60):(di l).length<=10000:=by
 have: ∀ {l:List aI},(∀it∈l,it.chunks.length<=60)->(l.flatMap cC).length<=250*l.length:=by
  intro l
  induction l with
  | nil=>intro _; simp
  | cons x l ih=>
   intro h;have h1:=Cz (h x (by simp));have h2:=ih (fun y hy=>h y (by simp[hy]));rw[List.flatMap_cons,List.length_append,List.length_cons];omega
 have h:=this hc;unfold di;rw[List.length_cons];omega
theorem zB (hc:dV c=true) (hs:jt tree) (f:Nat) (d:ByteArray):(kh k gs c tree f d).length<=12/\ ∀it∈kh k gs c tree f d,it.chunks.length<=60:=by
 unfold kh;refine⟨?_,fun it hit=> ?_⟩
 ·rw[List.length_map];exact Nat.le_trans (List.length_filter_le _ _) hs.len
 ·obtain⟨e,he,rfl⟩:=List.mem_map.1 hit
  show(if e.kind=1 then(cN c e.data).map (aE k gs)else []).length<=60
  split
  ·rw[List.length_map];exact Nat.le_trans (pQ hc _) (hs.data e (cJ.1 he).1)
  ·simp
theorem CD (hg:eL gs) (hc:dV c=true) (h:yG tree) (hs:jt tree) (f:Nat) (d:ByteArray):eq (kh k gs c tree f d)=true:=
 qR h hc hg d (fun e=>aE k gs (ew k gs c tree f e.path).1) (fun e _ _=>mO hg (nH hg hc h hs f e.path))
theorem Fe {d:ByteArray} {e:bo} (h:dd e=true) (hp:aH (bl e.path)=bl d):qZ (bl e.path)=⟨(gH (bl d) (bl e.path)).toArray⟩:=CH (ny (bi h) hp)
end
open Go.RowKit Go.Maps
def eO :List bo->ByteArray->Nat->Int
 | [],_,_=> -1
 | e::L,p,i=>if e.path=p then(i:Int)else eO L p (i+1)
theorem wQ {L:List bo} {p:ByteArray} {k:Nat} {e:bo} (h:L[k]? =some e):eO (L.drop k) p k=if e.path=p then(k:Int)else eO (L.drop (k+1)) p (k+1):=by
 obtain⟨hk,he⟩:=List.getElem?_eq_some_iff.1 h;rw[List.drop_eq_getElem_cons hk,eO,he]
theorem pg {p:ByteArray} : ∀(L:List bo) (i:Nat),(fc L p=none/\eO L p i= -1)\/ ∃j e,fc L p=some e/\L[j]? =some e/\eO L p i=((i+j:Nat):Int)
 | [],i=> .inl ⟨rfl,rfl⟩
 | e::L,i=>by
  by_cases h:e.path=p
  ·right
   refine⟨0,e, ?_,rfl, ?_⟩
   ·unfold fc; rw[List.find?_cons_of_pos (by simp[h])]
   ·rw[eO,if_pos h]; simp
  ·have hf:fc (e::L) p=fc L p:=by unfold fc; rw[List.find?_cons_of_neg (by simp[h])]
   rw[eO,if_neg h,hf]
   rcases pg L (i+1)with h1 | ⟨j,f,h1,h2,h3⟩
   ·exact .inl h1
   ·exact .inr ⟨j+1,f,h1,by simpa using h2,by rw[h3]; congr 1; omega⟩
theorem zX (S:Nat->Prop) (L:List bo) (v:Value) (p:ByteArray) (w:World) (hv:bV S w v L):
  Calls Tryz.prog 131 #[v, .string p] w fun e w'=>e= .returned (.int .i64 (eO L p 0))/\Below w.heap.size w w':=by
 have HV:=aa hv;obtain⟨a,cap,rfl,hc,hm,-⟩:=aU.shape hv jr.len;obtain⟨n,hn⟩: ∃n,n=L.length:=⟨_,rfl⟩;have HN:=aa hn;rw[<-hn]at HV hc ⊢;unfold maxLen at hm;clear hv hn
 go_enter Tryz.func131,Tryz.ntmps131
 go_wp2_with fail
 go_loopw [5,9] (fun _ i wr=> ∃k:Nat,k<=n/\i= .int .i64 k/\eO L p 0=eO (L.drop k) p k/\Below w.heap.size w wr) (fun _ i _=>n-(intOf i).toNat)
 case atStart=>exact⟨0,Nat.zero_le _,rfl,rfl,Below.refl _ _⟩
 case round=>
  obtain⟨k,hk,rfl,hfi,hbr⟩:=hrel;have HFI:=aa hfi;have HBR:=aa hbr
  by_cases hlt:k<n
  ·obtain⟨e,he⟩: ∃e,L[k]? =some e:=⟨L[k]'(by rw[<-HN.o]; exact hlt),by simp⟩;obtain⟨b,o,dv,rfl,-,hb,hd,-,-,q0,q1,q2,q3,q4,q5⟩:=eY (HV.o.below hbr) he;obtain⟨_,ad,cd,rfl,hcd,hmd,-⟩:=hd;have HAT:=aa (wQ (p:=p) he);clear he hfi hbr
   by_cases hp:e.path=p
   ·have e1:(e.path.toList == p.toList)=true:=by rw[hp]; simp
    have HR:=aa (show eO L p 0=(k:Int) by rw[HFI.o,HAT.o,if_pos hp]);clear hp;go_wp2_with fail;go_ret;exact⟨bt HR.o.symm,ab HBR.o (bH)⟩
   ·have e1:(e.path.toList == p.toList)=false:=by
     rw[beq_eq_false_iff_ne]; intro h; exact hp (fE (by rw[<-cA,<-cA]; exact h))
    have HR:=aa (show eO L p 0=eO (L.drop (k+1)) p (k+1) by rw[HFI.o,HAT.o,if_neg hp]);clear hp;go_wp2_with fail
    go_roundw
    case rel=>exact⟨k+1,by omega,by go_num,HR.o,ab HBR.o (bH)⟩
    case measure=>simp[intOf]; omega
  ·have HR:=aa (show eO L p 0= -1 by rw[HFI.o,List.drop_of_length_le (by rw[<-HN.o]; omega)]; rfl);clear hfi hbr;go_wp2_with fail;go_ret;exact⟨bt HR.o.symm,HBR.o⟩
theorem As {S:Nat->Prop} {w:World} {a:Option Addr} {n c:Nat} {xs:List ByteArray} (h:fQ S w (.slice a n c) xs):fQ S w (.slice a (n-1) c) xs.dropLast:=by
 obtain⟨hl,a',cap,he,hn,hm,h0⟩:=h;simp only[Value.slice.injEq]at he;obtain⟨rfl,rfl,rfl⟩:=he;refine⟨by simp,a,c,by rw[List.length_dropLast],by rw[List.length_dropLast]; omega,hm, ?_⟩
 rcases h0 with h0 | ⟨b,o,ha,hb,hc⟩
 ·left; rw[List.length_dropLast]; omega
 ·right
  refine⟨b,o,ha,hb,fun j u hj=>hc j u ?_⟩;rw[List.getElem?_map,List.getElem?_dropLast]at hj;rw[List.getElem?_map]
  split at hj
  ·exact hj
  ·simp at hj
theorem rC (s:ByteArray) (w:World) (hs:s.size<=65000):
  Calls Tryz.prog 92 #[.string s] w fun e w'=>e= .returned (.string ⟨(aH (bl s)).toArray⟩)/\Below w.heap.size w w':=by
 go_enter Tryz.func92,Tryz.ntmps92
 go_wp2_with (go_at_call 87; refine(il s _ (by omega)).mono ?_; rintro e w1 ⟨v,xs,rfl,hx,hv,hb⟩; have HX:=aa hx; have HB:=aa hb; obtain⟨a,c,rfl,hc,hm,-⟩:=hv.shape; have HV:=aa hv; have hn1:1<=xs.length:=(by rw[<-List.length_map (f:=bl),hx]; exact mT 47 _); have hn2:xs.length<=65001:=(by rw[<-List.length_map (f:=bl),hx]; have:=jz 47 (bl s); rw[<-am]at this; omega); clear hx hv hb; unfold maxLen at hm)
 refine(xT xs.dropLast _ _ w1 (As HV.o) (by rw[List.length_dropLast]; omega) (fun x hx=> ?_)).mono ?_
 ·have h1:bl x∈aW 47 (bl s):=by rw[<-HX.o]; exact List.mem_map.2 ⟨x,List.dropLast_subset _ hx,rfl⟩
  have h2:=nA 47 (bl s) _ h1;rw[<-am,<-am]at h2;omega
 ·rintro e w2 ⟨rfl,rfl⟩;go_wp2_with fail;go_ret;refine⟨?_,HB.o⟩;unfold aH;rw[<-HX.o,<-List.map_dropLast]
  rfl
theorem oE (S:Nat->Prop) (L:List bo) (v:Value) (p:ByteArray) (x:Int) (w:World) (hv:bV S w v L) (hx:eO L p 0=x):
  Calls Tryz.prog 131 #[v, .string p] w fun e w'=>e= .returned (.int .i64 x)/\Below w.heap.size w w':=by
 rw[<-hx]; exact zX S L v p w hv
theorem pR (L:List bo) (p:ByteArray):ie L (bl p)=if bl p=[]then 0 else match fc L p with
 | none=>4
 | some e=>if e.kind=2 then 0 else 13:=by
 unfold ie;rw[Bx]
 cases fc L p<;> rfl
theorem Dh (S:Nat->Prop) (L:List bo) (v:Value) (p:ByteArray) (w:World) (hv:bV S w v L):
  Calls Tryz.prog 91 #[v, .string p] w fun e w'=>e= .returned (.int .i64 (ie L (bl p)))/\Below w.heap.size w w':=by
 have HV:=aa hv
 by_cases h0:bl p=[]
 ·have e1:p.toList.isEmpty=true:=by rw[ja,decide_eq_true h0]
  have HR:=aa (show ie L (bl p)=0 by rw[pR,if_pos h0]);clear h0 hv
  go_enter Tryz.func91,Tryz.ntmps91
  go_wp2_with fail;go_ret;exact⟨bt HR.o.symm,Below.refl _ _⟩
 ·have e1:p.toList.isEmpty=false:=by rw[ja,decide_eq_false h0]
  rcases pg (p:=p) L 0 with⟨h1,h2⟩ | ⟨j,f,h1,h2,h3⟩
  ·have HR:=aa (show ie L (bl p)=4 by rw[pR,if_neg h0,h1]);have HI:=aa h2;clear h0 h1 h2 hv
   go_enter Tryz.func91,Tryz.ntmps91
   go_wp2_with (go_at_call 131; refine(oE S L v p (-1) _ HV.o HI.o).mono ?_; rintro e w1 ⟨rfl,hb1⟩; have HB1:=aa hb1; clear hb1);go_ret;exact⟨bt HR.o.symm,HB1.o⟩
  ·have HI:=aa (show eO L p 0=(j:Int) by rw[h3]; simp);obtain⟨a,cap,rfl,hc,hm,-⟩:=aU.shape hv jr.len;have hjl:j<L.length:=(List.getElem?_eq_some_iff.1 h2).1;obtain⟨n,hn⟩: ∃n,n=L.length:=⟨_,rfl⟩;rw[<-hn]at HV hc hjl ⊢;obtain⟨b,o,dv,rfl,-,hb,-,-,-,q0,q1,q2,q3,q4,q5⟩:=eY HV.o h2;unfold maxLen at hm
   by_cases hk:f.kind=2
   ·have HR:=aa (show ie L (bl p)=0 by rw[pR,if_neg h0,h1]; simp only[if_pos hk]);have e2:(f.kind != 2)=false:=by simp[hk]
    clear h0 h1 h2 h3 hv hk hn q0 q2 q3 q4 q5
    go_enter Tryz.func91,Tryz.ntmps91
    go_wp2_with (go_at_call 131; refine(oE S L _ p j _ HV.o HI.o).mono ?_; rintro e w1 ⟨rfl,hb1⟩; have q9:=(hb1.cell (aP q1)).trans q1; have HB1:=aa hb1; clear hb1);go_ret;exact⟨bt HR.o.symm,HB1.o⟩
   ·have HR:=aa (show ie L (bl p)=13 by rw[pR,if_neg h0,h1]; simp only[if_neg hk]);have e2:(f.kind != 2)=true:=by simp[hk]
    clear h0 h1 h2 h3 hv hk hn q0 q2 q3 q4 q5
    go_enter Tryz.func91,Tryz.ntmps91
    go_wp2_with (go_at_call 131; refine(oE S L _ p j _ HV.o HI.o).mono ?_; rintro e w1 ⟨rfl,hb1⟩; have q9:=(hb1.cell (aP q1)).trans q1; have HB1:=aa hb1; clear hb1);go_ret;exact⟨bt HR.o.symm,HB1.o⟩
theorem cZ (s:ByteArray) (b:Bool) (w:World) (hs:s.size<=16777216) (h:bq (bl s)=b):Calls Tryz.prog 86 #[.string s] w fun e w'=>e= .returned (.bool b)/\Below w.heap.size w w':=by
 rw[<-h]; exact xU s w hs
theorem rj {l:List UInt8} :l.contains 0=false<-> ∀k:Nat,∀b,l[k]? =some b->b≠0:=by
 rw[Bool.eq_false_iff,ne_eq,List.contains_iff_mem,List.mem_iff_getElem?]
 constructor
 ·intro h k b hb e; subst e; exact h ⟨k,hb⟩
 ·rintro h ⟨k,hk⟩; exact h k 0 hk rfl
theorem yz {en:bo} (h:(en.kind=1\/en.kind=2\/en.kind=3)/\en.data.length<=1048576/\(en.kind=1\/en.data.length=0)) (hz:(bl en.link).contains 0=false):fx en=((decide (en.kind=3) == decide (en.link.size≠0)) && decide (en.link.size<=512)):=by
 obtain⟨h1,h2,h3⟩:=h;unfold fx jB;rw[hz,<-am]
 rcases h1 with h1 | h1 | h1
 ·rw[if_pos h1,decide_eq_true h2,h1]
  by_cases hs:en.link.size=0
  ·simp[hs]
  ·simp[hs]
 ·have h4:en.data.length=0:=h3.resolve_left (by omega);rw[if_neg (by omega),if_pos h1,decide_eq_true h4,h1]
  by_cases hs:en.link.size=0
  ·simp[hs]
  ·simp[hs]
 ·have h4:en.data.length=0:=h3.resolve_left (by omega);rw[if_neg (by omega),if_neg (by omega),if_pos h1,decide_eq_true h4,h1]
  by_cases hs:en.link.size=0
  ·simp[hs]
  ·rw[decide_eq_true (by omega:1<=en.link.size)];simp[hs]
theorem vC (S:Nat->Prop) (en:bo) (v:Value) (w:World) (hd:bO S w v en.data) (hok:gR en) (hps:en.path.size<=16777216):Calls Tryz.prog 89 #[Cs v en] w fun e w'=>e= .returned (.bool (dd en))/\Below w.heap.size w w':=by
 obtain⟨a,cap,rfl,hc,hm⟩:=hd.slice;unfold maxLen at hm;have HPS:=aa hps;have hlk:=hok.lnk;unfold maxLen at hlk;clear hok;unfold Cs
 cases hv:bq (bl en.path)
 ·have HV:=aa hv;have HF:=aa (show dd en=false by unfold dd; rw[hv]; rfl);clear hv
  go_enter Tryz.func89,Tryz.ntmps89
  go_wp2_with fail;obtain⟨W,hW⟩: ∃W,W=w.alloc (.cells #[.string en.path, .int .i64 en.kind, .int .i64 en.mode, .int .i64 en.time, .slice a en.data.length cap, .string en.link] 79):=⟨_,rfl⟩;rw[<-hW];have HBW:=aa (show Below w.heap.size w W by rw[hW]; exact bH);have HBX:=aa (show W.heap[w.heap.size]? =some (.cells #[.string en.path, .int .i64 en.kind, .int .i64 en.mode, .int .i64 en.time, .slice a en.data.length cap, .string en.link] 79 (0,0)) by rw[hW]; exact bz w _)
  clear hW;refine(cZ en.path false _ HPS.o HV.o).mono ?_;rintro e w1 ⟨rfl,hb1⟩;have HB1:=aa (ab HBW.o hb1);clear hb1;go_wp2_with fail;go_ret;exact⟨aD (by rw[HF.o]),HB1.o⟩
 have HV:=aa hv
 by_cases h1:en.mode<0
 ·have e1:decide (en.mode<0)=true:=by simp[h1]
  have HF:=aa (show dd en=false by unfold dd jA; rw[decide_eq_false (by omega: ¬0<=en.mode)]; simp);clear hv
  go_enter Tryz.func89,Tryz.ntmps89
  go_wp2_with fail;obtain⟨W,hW⟩: ∃W,W=w.alloc (.cells #[.string en.path, .int .i64 en.kind, .int .i64 en.mode, .int .i64 en.time, .slice a en.data.length cap, .string en.link] 79):=⟨_,rfl⟩;rw[<-hW];have HBW:=aa (show Below w.heap.size w W by rw[hW]; exact bH);have HBX:=aa (show W.heap[w.heap.size]? =some (.cells #[.string en.path, .int .i64 en.kind, .int .i64 en.mode, .int .i64 en.time, .slice a en.data.length cap, .string en.link] 79 (0,0)) by rw[hW]; exact bz w _)
  clear hW;refine(cZ en.path true _ HPS.o HV.o).mono ?_;rintro e w1 ⟨rfl,hb1⟩;have HB1:=aa (ab HBW.o hb1);have HX1:=aa ((hb1.block w.heap.size (gd HBX.o)).trans HBX.o);clear hb1;obtain⟨c0,c1,c2,c3,c4,c5,_⟩:=aj HX1.o;simp only[Nat.zero_add,Nat.reduceAdd]at c1 c2 c3 c4 c5;go_wp2_with fail;go_ret;exact⟨aD (by rw[HF.o]),HB1.o⟩
 have e1:decide (en.mode<0)=false:=by simp[h1]
 by_cases h2:511<en.mode
 ·have e2:decide (511<en.mode)=true:=by simp[h2]
  have HF:=aa (show dd en=false by unfold dd jA; rw[decide_eq_false (by omega: ¬en.mode<=511)]; simp);clear hv
  go_enter Tryz.func89,Tryz.ntmps89
  go_wp2_with fail;obtain⟨W,hW⟩: ∃W,W=w.alloc (.cells #[.string en.path, .int .i64 en.kind, .int .i64 en.mode, .int .i64 en.time, .slice a en.data.length cap, .string en.link] 79):=⟨_,rfl⟩;rw[<-hW];have HBW:=aa (show Below w.heap.size w W by rw[hW]; exact bH);have HBX:=aa (show W.heap[w.heap.size]? =some (.cells #[.string en.path, .int .i64 en.kind, .int .i64 en.mode, .int .i64 en.time, .slice a en.data.length cap, .string en.link] 79 (0,0)) by rw[hW]; exact bz w _)
  clear hW;refine(cZ en.path true _ HPS.o HV.o).mono ?_;rintro e w1 ⟨rfl,hb1⟩;have HB1:=aa (ab HBW.o hb1);have HX1:=aa ((hb1.block w.heap.size (gd HBX.o)).trans HBX.o);clear hb1;obtain⟨c0,c1,c2,c3,c4,c5,_⟩:=aj HX1.o;simp only[Nat.zero_add,Nat.reduceAdd]at c1 c2 c3 c4 c5;go_wp2_with fail;go_ret;exact⟨aD (by rw[HF.o]),HB1.o⟩
 have e2:decide (511<en.mode)=false:=by simp[h2]
 by_cases h3:en.time<0
 ·have e3:decide (en.time<0)=true:=by simp[h3]
  have HF:=aa (show dd en=false by unfold dd jA; rw[decide_eq_false (by omega: ¬0<=en.time)]; simp);clear hv
  go_enter Tryz.func89,Tryz.ntmps89
  go_wp2_with fail;obtain⟨W,hW⟩: ∃W,W=w.alloc (.cells #[.string en.path, .int .i64 en.kind, .int .i64 en.mode, .int .i64 en.time, .slice a en.data.length cap, .string en.link] 79):=⟨_,rfl⟩;rw[<-hW];have HBW:=aa (show Below w.heap.size w W by rw[hW]; exact bH);have HBX:=aa (show W.heap[w.heap.size]? =some (.cells #[.string en.path, .int .i64 en.kind, .int .i64 en.mode, .int .i64 en.time, .slice a en.data.length cap, .string en.link] 79 (0,0)) by rw[hW]; exact bz w _)
  clear hW;refine(cZ en.path true _ HPS.o HV.o).mono ?_;rintro e w1 ⟨rfl,hb1⟩;have HB1:=aa (ab HBW.o hb1);have HX1:=aa ((hb1.block w.heap.size (gd HBX.o)).trans HBX.o);clear hb1;obtain⟨c0,c1,c2,c3,c4,c5,_⟩:=aj HX1.o;simp only[Nat.zero_add,Nat.reduceAdd]at c1 c2 c3 c4 c5;go_wp2_with fail;go_ret;exact⟨aD (by rw[HF.o]),HB1.o⟩
 have e3:decide (en.time<0)=false:=by simp[h3]
 by_cases h4:en.kind<1
 ·have e4:decide (en.kind<1)=true:=by simp[h4]
  have HF:=aa (show dd en=false by unfold dd fx; rw[if_neg (by omega),if_neg (by omega),if_neg (by omega)]; simp);clear hv
  go_enter Tryz.func89,Tryz.ntmps89
  go_wp2_with fail;obtain⟨W,hW⟩: ∃W,W=w.alloc (.cells #[.string en.path, .int .i64 en.kind, .int .i64 en.mode, .int .i64 en.time, .slice a en.data.length cap, .string en.link] 79):=⟨_,rfl⟩;rw[<-hW];have HBW:=aa (show Below w.heap.size w W by rw[hW]; exact bH);have HBX:=aa (show W.heap[w.heap.size]? =some (.cells #[.string en.path, .int .i64 en.kind, .int .i64 en.mode, .int .i64 en.time, .slice a en.data.length cap, .string en.link] 79 (0,0)) by rw[hW]; exact bz w _)
  clear hW;refine(cZ en.path true _ HPS.o HV.o).mono ?_;rintro e w1 ⟨rfl,hb1⟩;have HB1:=aa (ab HBW.o hb1);have HX1:=aa ((hb1.block w.heap.size (gd HBX.o)).trans HBX.o);clear hb1;obtain⟨c0,c1,c2,c3,c4,c5,_⟩:=aj HX1.o;simp only[Nat.zero_add,Nat.reduceAdd]at c1 c2 c3 c4 c5;go_wp2_with fail;go_ret;exact⟨aD (by rw[HF.o]),HB1.o⟩
 have e4:decide (en.kind<1)=false:=by simp[h4]
 by_cases h5:3<en.kind
 ·have e5:decide (3<en.kind)=true:=by simp[h5]
  have HF:=aa (show dd en=false by unfold dd fx; rw[if_neg (by omega),if_neg (by omega),if_neg (by omega)]; simp);clear hv
  go_enter Tryz.func89,Tryz.ntmps89
  go_wp2_with fail;obtain⟨W,hW⟩: ∃W,W=w.alloc (.cells #[.string en.path, .int .i64 en.kind, .int .i64 en.mode, .int .i64 en.time, .slice a en.data.length cap, .string en.link] 79):=⟨_,rfl⟩;rw[<-hW];have HBW:=aa (show Below w.heap.size w W by rw[hW]; exact bH);have HBX:=aa (show W.heap[w.heap.size]? =some (.cells #[.string en.path, .int .i64 en.kind, .int .i64 en.mode, .int .i64 en.time, .slice a en.data.length cap, .string en.link] 79 (0,0)) by rw[hW]; exact bz w _)
  clear hW;refine(cZ en.path true _ HPS.o HV.o).mono ?_;rintro e w1 ⟨rfl,hb1⟩;have HB1:=aa (ab HBW.o hb1);have HX1:=aa ((hb1.block w.heap.size (gd HBX.o)).trans HBX.o);clear hb1;obtain⟨c0,c1,c2,c3,c4,c5,_⟩:=aj HX1.o;simp only[Nat.zero_add,Nat.reduceAdd]at c1 c2 c3 c4 c5;go_wp2_with fail;go_ret;exact⟨aD (by rw[HF.o]),HB1.o⟩
 have e5:decide (3<en.kind)=false:=by simp[h5]
 have HHD:=aa (show dd en=fx en by
  unfold dd jA;rw[hv,decide_eq_true (by omega:0<=en.mode),decide_eq_true (by omega:en.mode<=511),decide_eq_true (by omega:0<=en.time)]; simp)
 by_cases h6:en.kind≠1/\0<en.data.length
 ·have e6:(en.kind != 1)=true:=by simp[h6.1]
  have e7:decide (0<en.data.length)=true:=by simp[h6.2]
  have e8:0<en.data.length:=h6.2;have HF:=aa (show dd en=false by
   rw[HHD.o]; unfold fx; rw[if_neg h6.1,decide_eq_false (by omega: ¬en.data.length=0)]; simp)
  clear hv h6
  go_enter Tryz.func89,Tryz.ntmps89
  go_wp2_with fail;obtain⟨W,hW⟩: ∃W,W=w.alloc (.cells #[.string en.path, .int .i64 en.kind, .int .i64 en.mode, .int .i64 en.time, .slice a en.data.length cap, .string en.link] 79):=⟨_,rfl⟩;rw[<-hW];have HBW:=aa (show Below w.heap.size w W by rw[hW]; exact bH);have HBX:=aa (show W.heap[w.heap.size]? =some (.cells #[.string en.path, .int .i64 en.kind, .int .i64 en.mode, .int .i64 en.time, .slice a en.data.length cap, .string en.link] 79 (0,0)) by rw[hW]; exact bz w _)
  clear hW;refine(cZ en.path true _ HPS.o HV.o).mono ?_;rintro e w1 ⟨rfl,hb1⟩;have HB1:=aa (ab HBW.o hb1);have HX1:=aa ((hb1.block w.heap.size (gd HBX.o)).trans HBX.o);clear hb1;obtain⟨c0,c1,c2,c3,c4,c5,_⟩:=aj HX1.o;simp only[Nat.zero_add,Nat.reduceAdd]at c1 c2 c3 c4 c5;go_wp2_with fail;go_ret;exact⟨aD (by rw[HF.o]),HB1.o⟩
 by_cases h7:1048576<en.data.length
 ·have hk1:en.kind=1:=by
   by_cases hk:en.kind=1
   ·exact hk
   ·exact absurd ⟨hk,by omega⟩ h6
  have e6:(en.kind != 1)=false:=by simp[hk1]
  have e7:decide (1048576<en.data.length)=true:=by simp[h7]
  have HF:=aa (show dd en=false by
   rw[HHD.o]; unfold fx; rw[if_pos hk1,decide_eq_false (by omega: ¬en.data.length<=1048576)]; simp)
  clear hv h6 hk1
  go_enter Tryz.func89,Tryz.ntmps89
  go_wp2_with fail;obtain⟨W,hW⟩: ∃W,W=w.alloc (.cells #[.string en.path, .int .i64 en.kind, .int .i64 en.mode, .int .i64 en.time, .slice a en.data.length cap, .string en.link] 79):=⟨_,rfl⟩;rw[<-hW];have HBW:=aa (show Below w.heap.size w W by rw[hW]; exact bH);have HBX:=aa (show W.heap[w.heap.size]? =some (.cells #[.string en.path, .int .i64 en.kind, .int .i64 en.mode, .int .i64 en.time, .slice a en.data.length cap, .string en.link] 79 (0,0)) by rw[hW]; exact bz w _)
  clear hW;refine(cZ en.path true _ HPS.o HV.o).mono ?_;rintro e w1 ⟨rfl,hb1⟩;have HB1:=aa (ab HBW.o hb1);have HX1:=aa ((hb1.block w.heap.size (gd HBX.o)).trans HBX.o);clear hb1;obtain⟨c0,c1,c2,c3,c4,c5,_⟩:=aj HX1.o;simp only[Nat.zero_add,Nat.reduceAdd]at c1 c2 c3 c4 c5;go_wp2_with fail;go_ret;exact⟨aD (by rw[HF.o]),HB1.o⟩
 have e7:decide (1048576<en.data.length)=false:=by simp; omega
 have HKD:=aa (show(en.kind=1\/en.kind=2\/en.kind=3)/\en.data.length<=1048576/\(en.kind=1\/en.data.length=0)from⟨by omega,by omega,by
  by_cases hk:en.kind=1
  ·exact .inl hk
  ·exact .inr (by rcases Nat.eq_zero_or_pos en.data.length with h | h; exact h; exact absurd ⟨hk,h⟩ h6)⟩)
 clear hv
 by_cases hk1:en.kind=1
 ·have e6:(en.kind != 1)=false:=by simp[hk1]
  clear h6 hk1
  go_enter Tryz.func89,Tryz.ntmps89
  go_wp2_with fail;obtain⟨W,hW⟩: ∃W,W=w.alloc (.cells #[.string en.path, .int .i64 en.kind, .int .i64 en.mode, .int .i64 en.time, .slice a en.data.length cap, .string en.link] 79):=⟨_,rfl⟩;rw[<-hW];have HBW:=aa (show Below w.heap.size w W by rw[hW]; exact bH);have HBX:=aa (show W.heap[w.heap.size]? =some (.cells #[.string en.path, .int .i64 en.kind, .int .i64 en.mode, .int .i64 en.time, .slice a en.data.length cap, .string en.link] 79 (0,0)) by rw[hW]; exact bz w _)
  clear hW;refine(cZ en.path true _ HPS.o HV.o).mono ?_;rintro e w1 ⟨rfl,hb1⟩;have HB1:=aa (ab HBW.o hb1);have HX1:=aa ((hb1.block w.heap.size (gd HBX.o)).trans HBX.o);clear hb1;obtain⟨c0,c1,c2,c3,c4,c5,_⟩:=aj HX1.o;simp only[Nat.zero_add,Nat.reduceAdd]at c1 c2 c3 c4 c5;go_wp2_with fail
  go_loopw [3] (fun i wr=> ∃k:Nat,k<=en.link.size/\i= .int .i64 k/\(∀j b,j<k->(bl en.link)[j]? =some b->b≠0)/\Below w1.heap.size w1 wr) (fun i _=>en.link.size-(intOf i).toNat)
  case atStart=>exact⟨0,Nat.zero_le _,rfl,fun _ _ h=>absurd h (Nat.not_lt_zero _),Below.refl _ _⟩
  case round=>
   obtain⟨k,hk,rfl,hz,hbr⟩:=hrel;have HZ:=aa hz;have HBR:=aa hbr;have HXR:=aa ((hbr.block w.heap.size (gd HX1.o)).trans HX1.o);clear hz hbr c0 c1 c2 c3 c4 c5;obtain⟨c0,c1,c2,c3,c4,c5,_⟩:=aj HXR.o;simp only[Nat.zero_add,Nat.reduceAdd]at c1 c2 c3 c4 c5
   by_cases hlt:k<en.link.size
   ·have HBY:=aa (show(bl en.link)[k]? =some en.link[k] by rw[List.getElem?_eq_getElem (by rw[<-am]; exact hlt)]; rfl)
    by_cases h0:(en.link[k]'hlt).toNat=0
    ·have HF:=aa (show dd en=false by
      rw[HHD.o];unfold fx;have hne: ¬en.link.size=0:=by omega
      have hct:(bl en.link).contains 0=true:=by
       have h9:en.link[k]'hlt=0:=UInt8.toNat_inj.1 h0;have:=HBY.o;rw[h9]at this;exact List.contains_iff_mem.2 (List.mem_of_getElem? this)
      rw[decide_eq_false hne];unfold jB;rw[hct]
      simp)
     go_wp2_with fail;go_ret;exact⟨aD (by rw[HF.o]),ab HB1.o HBR.o⟩
    ·have HNZ:=aa h0;go_wp2_with fail
     go_roundw
     case rel=>
      refine⟨k+1,by omega,by go_num,fun j b hj hb e=> ?_,HBR.o⟩
      by_cases hjk:j=k
      ·subst hjk;rw[HBY.o]at hb;have:=Option.some.inj hb;subst this;exact HNZ.o (by rw[e]; rfl)
      ·exact HZ.o j b (by omega) hb e
     case measure=>simp[intOf]; omega
   ·have hk2:k=en.link.size:=by omega
    have HNO:=aa (show(bl en.link).contains 0=false from rj.2 (fun j b hj e=>by
     have h1:=(List.getElem?_eq_some_iff.1 hj).1;exact HZ.o j b (by rw[hk2,am]; exact h1) hj e))
    have HVK:=aa (yz HKD.o HNO.o);have HEM:=aa (show en.link.toList.isEmpty= !decide (en.link.size≠0) by rw[ja]; by_cases h:en.link.size=0<;> simp[h,lT.1,<-lT]);obtain⟨b3,hb3⟩: ∃b,decide (en.kind=3)=b:=⟨_,rfl⟩;obtain⟨be,hbe⟩: ∃b,decide (en.link.size≠0)=b:=⟨_,rfl⟩;obtain⟨b5,hb5⟩: ∃b,decide (en.link.size<=512)=b:=⟨_,rfl⟩;have f3:(en.kind == 3)=b3:=by rw[<-hb3]; rfl
    have fe:=HEM.o;rw[hbe]at fe;have HRS:=aa (show dd en=((b3 == be) && b5) by rw[HHD.o,HVK.o,hb3,hbe,hb5]);have HB5:=aa hb5;clear hbe hlt hk hb3 hb5
    cases b3<;> cases be<;> simp only[Bool.not_true,Bool.not_false]at fe<;> (go_wp2_with fail)<;> (go_ret)<;> exact⟨aD (by rw[HRS.o,<-HB5.o]; simp[show(((en.link.size:Nat):Int)<=512<->en.link.size<=512)from by omega]),ab HB1.o HBR.o⟩
 ·have e6:(en.kind != 1)=true:=by simp[hk1]
  have e8:decide (0<en.data.length)=false:=by rw[decide_eq_false_iff_not]; exact fun h=>h6 ⟨hk1,h⟩
  clear h6 hk1
  go_enter Tryz.func89,Tryz.ntmps89
  go_wp2_with fail;obtain⟨W,hW⟩: ∃W,W=w.alloc (.cells #[.string en.path, .int .i64 en.kind, .int .i64 en.mode, .int .i64 en.time, .slice a en.data.length cap, .string en.link] 79):=⟨_,rfl⟩;rw[<-hW];have HBW:=aa (show Below w.heap.size w W by rw[hW]; exact bH);have HBX:=aa (show W.heap[w.heap.size]? =some (.cells #[.string en.path, .int .i64 en.kind, .int .i64 en.mode, .int .i64 en.time, .slice a en.data.length cap, .string en.link] 79 (0,0)) by rw[hW]; exact bz w _)
  clear hW;refine(cZ en.path true _ HPS.o HV.o).mono ?_;rintro e w1 ⟨rfl,hb1⟩;have HB1:=aa (ab HBW.o hb1);have HX1:=aa ((hb1.block w.heap.size (gd HBX.o)).trans HBX.o);clear hb1;obtain⟨c0,c1,c2,c3,c4,c5,_⟩:=aj HX1.o;simp only[Nat.zero_add,Nat.reduceAdd]at c1 c2 c3 c4 c5;go_wp2_with fail
  go_loopw [3] (fun i wr=> ∃k:Nat,k<=en.link.size/\i= .int .i64 k/\(∀j b,j<k->(bl en.link)[j]? =some b->b≠0)/\Below w1.heap.size w1 wr) (fun i _=>en.link.size-(intOf i).toNat)
  case atStart=>exact⟨0,Nat.zero_le _,rfl,fun _ _ h=>absurd h (Nat.not_lt_zero _),Below.refl _ _⟩
  case round=>
   obtain⟨k,hk,rfl,hz,hbr⟩:=hrel;have HZ:=aa hz;have HBR:=aa hbr;have HXR:=aa ((hbr.block w.heap.size (gd HX1.o)).trans HX1.o);clear hz hbr c0 c1 c2 c3 c4 c5;obtain⟨c0,c1,c2,c3,c4,c5,_⟩:=aj HXR.o;simp only[Nat.zero_add,Nat.reduceAdd]at c1 c2 c3 c4 c5
   by_cases hlt:k<en.link.size
   ·have HBY:=aa (show(bl en.link)[k]? =some en.link[k] by rw[List.getElem?_eq_getElem (by rw[<-am]; exact hlt)]; rfl)
    by_cases h0:(en.link[k]'hlt).toNat=0
    ·have HF:=aa (show dd en=false by
      rw[HHD.o];unfold fx;have hne: ¬en.link.size=0:=by omega
      have hct:(bl en.link).contains 0=true:=by
       have h9:en.link[k]'hlt=0:=UInt8.toNat_inj.1 h0;have:=HBY.o;rw[h9]at this;exact List.contains_iff_mem.2 (List.mem_of_getElem? this)
      rw[decide_eq_false hne];unfold jB;rw[hct]
      simp)
     go_wp2_with fail;go_ret;exact⟨aD (by rw[HF.o]),ab HB1.o HBR.o⟩
    ·have HNZ:=aa h0;go_wp2_with fail
     go_roundw
     case rel=>
      refine⟨k+1,by omega,by go_num,fun j b hj hb e=> ?_,HBR.o⟩
      by_cases hjk:j=k
      ·subst hjk;rw[HBY.o]at hb;have:=Option.some.inj hb;subst this;exact HNZ.o (by rw[e]; rfl)
      ·exact HZ.o j b (by omega) hb e
     case measure=>simp[intOf]; omega
   ·have hk2:k=en.link.size:=by omega
    have HNO:=aa (show(bl en.link).contains 0=false from rj.2 (fun j b hj e=>by
     have h1:=(List.getElem?_eq_some_iff.1 hj).1;exact HZ.o j b (by rw[hk2,am]; exact h1) hj e))
    have HVK:=aa (yz HKD.o HNO.o);have HEM:=aa (show en.link.toList.isEmpty= !decide (en.link.size≠0) by rw[ja]; by_cases h:en.link.size=0<;> simp[h,lT.1,<-lT]);obtain⟨b3,hb3⟩: ∃b,decide (en.kind=3)=b:=⟨_,rfl⟩;obtain⟨be,hbe⟩: ∃b,decide (en.link.size≠0)=b:=⟨_,rfl⟩;obtain⟨b5,hb5⟩: ∃b,decide (en.link.size<=512)=b:=⟨_,rfl⟩;have f3:(en.kind == 3)=b3:=by rw[<-hb3]; rfl
    have fe:=HEM.o;rw[hbe]at fe;have HRS:=aa (show dd en=((b3 == be) && b5) by rw[HHD.o,HVK.o,hb3,hbe,hb5]);have HB5:=aa hb5;clear hbe hlt hk hb3 hb5
    cases b3<;> cases be<;> simp only[Bool.not_true,Bool.not_false]at fe<;> (go_wp2_with fail)<;> (go_ret)<;> exact⟨aD (by rw[HRS.o,<-HB5.o]; simp[show(((en.link.size:Nat):Int)<=512<->en.link.size<=512)from by omega]),ab HB1.o HBR.o⟩
end Go.Proofs.YtpffpjbkbaleiaaGreatDoor
namespace Go.Proofs.YtpffpjbkbaleiaaGreatDoor
open Go.RowKit
theorem iP (c:Int) (w:World) (h0:0<=c) (h1:c<=255):Calls Tryz.prog 130 #[.int .u8 c] w fun e w'=>e= .returned (.int .i64 (gV c))/\w=w':=by
 by_cases h:c=47
 ·subst h
  go_enter Tryz.func130,Tryz.ntmps130
  go_wp2
  go_ret;exact⟨rfl,rfl⟩
 ·have hr:gV c=c:=if_neg h;have HR:=aa hr;clear hr;have h2:(c == 47)=false:=by simpa using h
  go_enter Tryz.func130,Tryz.ntmps130
  go_wp2
  go_ret;exact⟨bt HR.o.symm,rfl⟩
theorem sL (a b:ByteArray) (w:World) (ha:a.size<=65536):
  Calls Tryz.prog 90 #[.string a, .string b] w fun e w'=>e= .returned (.int .i64 (cb (bl a) (bl b)))/\Below w.heap.size w w':=by
 go_enter Tryz.func90,Tryz.ntmps90
 go_wp2_with fail
 go_loopw [5] (fun i wr=> ∃k:Nat,k<=a.size/\k<=b.size/\i= .int .i64 k/\Below w.heap.size w wr/\cb (bl a) (bl b)=cb ((bl a).drop k) ((bl b).drop k)) (fun i _=>a.size-(intOf i).toNat)
 case atStart=>exact⟨0,Nat.zero_le _,Nat.zero_le _,rfl,Below.refl _ _,rfl⟩
 case round=>
  obtain⟨k,hk1,hk2,rfl,hbw,hc⟩:=hrel;have HC:=aa hc;have HB:=aa hbw;clear hc hbw
  by_cases hla:k<a.size
  ·by_cases hlb:k<b.size
   ·have i1:(k:Int)<(a.size:Int):=by omega
    have i2:(k:Int)<(b.size:Int):=by omega
    have hla':k<(bl a).length:=by rw[<-am]; exact hla
    have hlb':k<(bl b).length:=by rw[<-am]; exact hlb
    have hr1:=(a[k]).toNat_lt;have hr2:=(b[k]).toNat_lt;have hxa:de (bl a)[k]=gV (a[k].toNat:Int):=by rw[nL]; exact congrArg de (eW a k hla).symm
    have hyb:de (bl b)[k]=gV (b[k].toNat:Int):=by rw[nL]; exact congrArg de (eW b k hlb).symm
    have HXA:=aa hxa;have HYB:=aa hyb;clear hxa hyb
    rcases Int.lt_trichotomy (gV (a[k].toNat:Int)) (gV (b[k].toNat:Int))with hxy | hxy | hxy
    ·have HXY:=aa hxy;go_wp2_with fail
     go_quiet ((go_at_call 130; refine fm (iP _ _ (by omega) (by omega))))
     go_wp2_with fail;go_ret;refine⟨bt ?_,cw HB.o _⟩;have hne:(bl a)[k]≠(bl b)[k]:=by intro e; have:=HXY.o; rw[<-HXA.o,<-HYB.o,e]at this; omega
     rw[HC.o,qr hla' hlb' hne,HXA.o,HYB.o,Lib.compareInt,if_pos HXY.o]
    ·have e1: ¬gV (a[k].toNat:Int)<gV (b[k].toNat:Int):=by omega
     have e2: ¬gV (b[k].toNat:Int)<gV (a[k].toNat:Int):=by omega
     have HXY:=aa hxy;clear hxy;go_wp2_with fail
     go_quiet ((go_at_call 130; refine fm (iP _ _ (by omega) (by omega))))
     go_wp2_with fail;have hW: ∃W,W=wr.drewN nq/\Below w.heap.size w W:=⟨_,rfl,cw HB.o nq⟩;obtain⟨W,hWe,hWb⟩:=hW;rw[<-hWe];have HB2:=aa hWb;clear hWe hWb HB
     go_quiet ((go_at_call 130; refine fm (iP _ _ (by omega) (by omega))))
     go_wp2_with fail
     go_roundw
     case rel=>
      refine⟨k+1,by omega,by omega,by go_num,cw HB2.o _, ?_⟩;rw[HC.o];exact wA hla' hlb' (gx (HXA.o.trans (HXY.o.trans HYB.o.symm)))
     case measure=>simp[intOf]; omega
    ·have e1: ¬gV (a[k].toNat:Int)<gV (b[k].toNat:Int):=by omega
     have HXY:=aa hxy;go_wp2_with fail
     go_quiet ((go_at_call 130; refine fm (iP _ _ (by omega) (by omega))))
     go_wp2_with fail;have hW: ∃W,W=wr.drewN nq/\Below w.heap.size w W:=⟨_,rfl,cw HB.o nq⟩;obtain⟨W,hWe,hWb⟩:=hW;rw[<-hWe];have HB2:=aa hWb;clear hWe hWb HB
     go_quiet ((go_at_call 130; refine fm (iP _ _ (by omega) (by omega))))
     go_wp2_with fail;go_ret;refine⟨bt ?_,cw HB2.o _⟩;have hne:(bl a)[k]≠(bl b)[k]:=by intro e; have:=HXY.o; rw[<-HXA.o,<-HYB.o,e]at this; omega
     rw[HC.o,qr hla' hlb' hne,HXA.o,HYB.o,Lib.compareInt,if_neg (by have:=HXY.o; omega),if_pos HXY.o]
   ·obtain rfl:k=b.size:=by omega
    have i2:decide ((b.size:Int)<(b.size:Int))=false:=by simp
    have i3:(b.size:Int)<(a.size:Int):=by omega
    go_wp2_with fail;go_ret;refine⟨bt ?_,HB.o⟩;rw[HC.o,pP (by rw[<-am]; omega) (by rw[<-am]; exact Nat.le_refl _) (.inr (by rw[<-am])),<-am,<-am,Lib.compareInt,if_neg (by omega),if_pos (by omega)]
  ·obtain rfl:k=a.size:=by omega
   rcases Nat.lt_or_ge a.size b.size with hlb | hlb
   ·have i3:(a.size:Int)<(b.size:Int):=by omega
    go_wp2_with fail;go_ret;refine⟨bt ?_,HB.o⟩;rw[HC.o,pP (by rw[<-am]; exact Nat.le_refl _) (by rw[<-am]; omega) (.inl (by rw[<-am])),<-am,<-am,Lib.compareInt,if_pos (by omega)]
   ·obtain heq:a.size=b.size:=by omega
    have HEQ:=aa heq;have i3: ¬(a.size:Int)<(b.size:Int):=by omega
    have i4: ¬(b.size:Int)<(a.size:Int):=by omega
    clear heq;go_wp2_with fail;go_ret;refine⟨bt ?_,HB.o⟩;rw[HC.o,pP (by rw[<-am]; exact Nat.le_refl _) (by rw[<-am]; omega) (.inl (by rw[<-am])),<-am,<-am,Lib.compareInt,if_neg (by omega),if_neg (by omega)]
open Go.RowKit Go.Maps
theorem bR.take {α:Type} {R:List Value->α->Prop} {sz:Nat} (hs: ∀c x,R c x->c.length=sz): ∀ {xs:List α} {cells:List Value} (k:Nat),bR R cells xs->k<=xs.length->bR R (cells.take (k*sz)) (xs.take k)
 | _,_,0,_,_=>by simp[bR]
 | [],_,k+1,_,h=>by simp at h
 | x::xs,cells,k+1,⟨c,rest,hc,hx,hr⟩,h=>by
  subst hc;have hl:=hs c x hx;refine⟨c,rest.take (k*sz), ?_,hx,bR.take hs k hr (by simpa using h)⟩;rw[List.take_append,hl,List.take_of_length_le (by rw[hl,Nat.succ_mul]; omega),Nat.succ_mul]
  congr 2; omega
theorem aU.takeN {α:Type} {S:Nat->Prop} {w:World} {sz:Nat} {R:List Value->α->Prop} {a:Option Addr} {n cap:Nat} {xs:List α} (hs: ∀c x,R c x->c.length=sz) (h:aU S w sz R (.slice a n cap) xs) {k:Nat} (hk:k<=xs.length):aU S w sz R (.slice a k cap) (xs.take k):=by
 obtain⟨cells,⟨hl,a',cap',hv,hn,hm,h0⟩,hr⟩:=h
 cases hv
 have hlt:(xs.take k).length=k:=by rw[List.length_take]; omega
 refine⟨cells.take (k*sz),⟨?_,a,cap,by rw[hlt],by omega,hm, ?_⟩,bR.take hs k hr hk⟩
 ·rw[List.length_take,hl,hlt];exact Nat.min_eq_left (Nat.mul_le_mul_right _ hk)
 ·rcases h0 with h0 | ⟨b,o,ha,hb,hc⟩
  ·exact .inl (by omega)
  ·refine .inr ⟨b,o,ha,hb,fun j u hj=>hc j u ?_⟩;rw[List.getElem?_take]at hj
   split at hj
   ·exact hj
   ·cases hj
theorem jl (S:Nat->Prop) (en:bo) (v:Value) (b:Bool) (w:World) (hd:bO S w v en.data) (hok:gR en) (hps:en.path.size<=16777216) (h:dd en=b):Calls Tryz.prog 89 #[Cs v en] w fun e w'=>e= .returned (.bool b)/\Below w.heap.size w w':=by
 rw[<-h]; exact vC S en v w hd hok hps
theorem pw (a b:ByteArray) (o:Int) (w:World) (ha:a.size<=65536) (h:cb (bl a) (bl b)=o):Calls Tryz.prog 90 #[.string a, .string b] w fun e w'=>e= .returned (.int .i64 o)/\Below w.heap.size w w':=by
 rw[<-h]; exact sL a b w ha
theorem jk (s q:ByteArray) (w:World) (hs:s.size<=65000) (hq:q=⟨(aH (bl s)).toArray⟩):Calls Tryz.prog 92 #[.string s] w fun e w'=>e= .returned (.string q)/\Below w.heap.size w w':=by
 rw[hq]; exact rC s w hs
theorem xR (S:Nat->Prop) (L:List bo) (v:Value) (p:ByteArray) (x:Int) (w:World) (hv:bV S w v L) (hx:ie L (bl p)=x):Calls Tryz.prog 91 #[v, .string p] w fun e w'=>e= .returned (.int .i64 x)/\Below w.heap.size w w':=by
 rw[<-hx]; exact Dh S L v p w hv
theorem uC {e:bo} (h:dd e=true):e.path.size<=65000:=by
 have:=iS (bi h);rw[am]; omega
theorem xQ (S:Nat->Prop) (L:List bo) (v:Value) (w:World) (hv:bV S w v L) (hps: ∀e∈L,e.path.size<=16777216):Calls Tryz.prog 31 #[v] w fun e w'=>e= .returned (.int .i64 (cB L))/\Below w.heap.size w w':=by
 have HV:=aa hv;obtain⟨a,cap,rfl,hc,hm,-⟩:=aU.shape hv jr.len;unfold maxLen at hm;obtain⟨n,hn⟩: ∃n,n=L.length:=⟨_,rfl⟩;have HN:=aa hn;rw[<-hn]at hc HV ⊢;clear hv
 by_cases hbig:4096<n
 ·have hbi:(4096:Int)<(n:Int):=by omega
  have HC:=aa (tf (by rw[<-hn]; exact hbig));clear hbig hn
  go_enter Tryz.func31,Tryz.ntmps31
  go_wp2_with fail;go_ret;exact⟨bt (by rw[HC.o]),Below.refl _ _⟩
 ·have hbi:(n:Int)<=(4096:Int):=by omega
  have HL4:=aa (show L.length<=4096 by omega);have HPS:=aa hps;clear hbig hn hps
  go_enter Tryz.func31,Tryz.ntmps31
  go_wp2_with fail
  go_loopw [11] (fun i wr=> ∃k:Nat,k<=n/\i= .int .i64 k/\Tr (L.take k)/\Below w.heap.size w wr) (fun i _=>n-(intOf i).toNat)
  case atStart=>exact⟨0,Nat.zero_le _,rfl,⟨List.Pairwise.nil,by simp,by simp⟩,Below.refl _ _⟩
  case round=>
   obtain⟨k,hk,rfl,htr,hbr⟩:=hrel;have HTR:=aa htr;have HBR:=aa hbr;clear htr hbr
   by_cases hlt:k<n
   ·obtain⟨e,he⟩: ∃e,L[k]? =some e:=⟨L[k]'(by rw[<-HN.o]; exact hlt),by simp⟩;obtain⟨b,o,dv,rfl,-,hb,hd,hok,-,q0,q1,q2,q3,q4,q5⟩:=eY (HV.o.below HBR.o) he;have HAT:=aa he;have HD:=aa hd;have HOK:=aa hok;have HPZ:=aa (HPS.o e (List.mem_of_getElem? he));obtain⟨a1,cap1,rfl,hd1,hd2⟩:=hd.slice;unfold maxLen at hd2;have hkc:k<=cap:=by omega
    have HKN:=aa (show k<=L.length by rw[<-HN.o]; omega);clear he hd hok
    cases hve:dd e
    ·have HVE:=aa hve;have HCA:=aa (show cy (L.take k) e=1 by unfold cy; rw[hve]; rfl);clear hve;go_wp2_with fail;refine az [some 1,none,some 13,none,some 3] (by kernel_rfl) (by kernel_rfl) (by kernel_rfl) ?_;simp only[bC,List.take_succ_cons,List.take_zero,List.drop_succ_cons,List.drop_zero];obtain⟨W,hW⟩: ∃W:World,W=(wr.alloc (.cells #[.string e.path, .int .i64 e.kind, .int .i64 e.mode, .int .i64 e.time, .slice a1 e.data.length cap1, .string e.link] 79)).drew:=⟨_,rfl⟩
     rw[<-hW];have HWL:=aa (show Below wr.heap.size wr W by rw[hW]; exact(bH).drew);have HX:=aa (show W.heap[wr.heap.size]? =some (.cells #[.string e.path, .int .i64 e.kind, .int .i64 e.mode, .int .i64 e.time, .slice a1 e.data.length cap1, .string e.link] 79 (0,0)) by rw[hW]; exact bz wr _);have HBW:=aa (ab HBR.o HWL.o);clear hW;obtain⟨c0,c1,c2,c3,c4,c5,_⟩:=aj HX.o
     simp only[Nat.zero_add,Nat.reduceAdd]at c1 c2 c3 c4 c5
     repeat (first | (refine aK rfl ?_; simp only[Act.put,aZ,bg,bh]) | (refine aS rfl (fun K hK=> ?_); go_simp; refine hK _ ?_; clear hK K))
     refine aR ?_;refine bJ rfl (fun K hK=> ?_);go_wp2_with (go_at_call 89; refine(jl S e (.slice a1 e.data.length cap1) false _ (HD.o.below HWL.o) HOK.o HPZ.o HVE.o).mono ?_; rintro e7 w7 ⟨rfl,hb7⟩; have HL7:=aa (HWL.o.trans (hb7.mono HWL.o.size)); have HX7:=aa ((hb7.block wr.heap.size (gd HX.o)).trans HX.o); clear hb7 c0 c1 c2 c3 c4 c5)
     repeat (first | (refine aK rfl ?_; simp only[Act.put,aZ,bg,bh]) | (refine aS rfl (fun K hK=> ?_); go_simp; refine hK _ ?_; clear hK K))
     refine aR ?_;refine qg rfl ?_;simp only[Act.put,aZ,bg,bh]
     repeat (first | (refine aK rfl ?_; simp only[Act.put,aZ,bg,bh]) | (refine aS rfl (fun K hK=> ?_); go_simp; refine hK _ ?_; clear hK K))
     refine aR ?_;have HB9:=aa (ab HBR.o HL7.o);go_wp2_with fail;go_ret;exact⟨bt (by rw[dS HL4.o HTR.o HAT.o (x:=1) HCA.o (by decide)]),HB9.o⟩
    ·have HVE:=aa hve;have HPP:=aa (show e.path.size<=65000 from uC hve);obtain⟨q,hq⟩: ∃q:ByteArray,q=⟨(aH (bl e.path)).toArray⟩:=⟨_,rfl⟩;have HBQ:=aa (show bl q=aH (bl e.path) by rw[hq]; exact ed _);have HQ:=aa hq;clear hve hq
     rcases Nat.eq_zero_or_pos k with hk0 | hk0
     ·have e9:decide (0<k)=false:=by simp; omega
      have e8:(k:Int)<=0:=by omega
      have HCV:=aa (show(dd e && iz (L.take k) e)=true by rw[hk0,HVE.o]; rfl);clear hk0;obtain⟨x,hx⟩: ∃x,ie (L.take k) (bl q)=x:=⟨_,rfl⟩;have HDX:=aa hx;have HCA:=aa (show cy (L.take k) e=x by unfold cy; rw[if_pos HCV.o,<-HBQ.o,hx]);clear hx;go_wp2_with fail;refine az [some 1,none,some 13,none,some 3] (by kernel_rfl) (by kernel_rfl) (by kernel_rfl) ?_
      simp only[bC,List.take_succ_cons,List.take_zero,List.drop_succ_cons,List.drop_zero];obtain⟨W,hW⟩: ∃W:World,W=(wr.alloc (.cells #[.string e.path, .int .i64 e.kind, .int .i64 e.mode, .int .i64 e.time, .slice a1 e.data.length cap1, .string e.link] 79)).drew:=⟨_,rfl⟩;rw[<-hW];have HWL:=aa (show Below wr.heap.size wr W by rw[hW]; exact(bH).drew);have HX:=aa (show W.heap[wr.heap.size]? =some (.cells #[.string e.path, .int .i64 e.kind, .int .i64 e.mode, .int .i64 e.time, .slice a1 e.data.length cap1, .string e.link] 79 (0,0)) by rw[hW]; exact bz wr _)
      have HBW:=aa (ab HBR.o HWL.o);clear hW;obtain⟨c0,c1,c2,c3,c4,c5,_⟩:=aj HX.o;simp only[Nat.zero_add,Nat.reduceAdd]at c1 c2 c3 c4 c5
      repeat (first | (refine aK rfl ?_; simp only[Act.put,aZ,bg,bh]) | (refine aS rfl (fun K hK=> ?_); go_simp; refine hK _ ?_; clear hK K))
      refine aR ?_;refine bJ rfl (fun K hK=> ?_);go_wp2_with (go_at_call 89; refine(jl S e (.slice a1 e.data.length cap1) true _ (HD.o.below HWL.o) HOK.o HPZ.o HVE.o).mono ?_; rintro e7 w7 ⟨rfl,hb7⟩; have HL7:=aa (HWL.o.trans (hb7.mono HWL.o.size)); have HX7:=aa ((hb7.block wr.heap.size (gd HX.o)).trans HX.o); clear hb7 c0 c1 c2 c3 c4 c5)
      repeat (first | (refine aK rfl ?_; simp only[Act.put,aZ,bg,bh]) | (refine aS rfl (fun K hK=> ?_); go_simp; refine hK _ ?_; clear hK K))
      refine aR ?_;refine qg rfl ?_;simp only[Act.put,aZ,bg,bh]
      repeat (first | (refine aK rfl ?_; simp only[Act.put,aZ,bg,bh]) | (refine aS rfl (fun K hK=> ?_); go_simp; refine hK _ ?_; clear hK K))
      refine aR ?_;go_wp2_with fail;refine bE (fun w'=>w'.cell? ⟨wr.heap.size,0,none⟩=some (.string e.path)) (by kernel_rfl) ?_;obtain⟨V,hV⟩: ∃V:World,V=(w7).drew:=⟨_,rfl⟩;rw[<-hV];have HLV:=aa (show Below wr.heap.size wr V by rw[hV]; exact HL7.o.trans ((Below.refl (w7).heap.size (w7)).drew.mono HL7.o.size));have HXV:=aa (show V.heap[wr.heap.size]? =some (.cells #[.string e.path, .int .i64 e.kind, .int .i64 e.mode, .int .i64 e.time, .slice a1 e.data.length cap1, .string e.link] 79 (0,0)) by rw[hV]; exact HX7.o)
      clear hV;have hS1:=ag (k:=0) HXV.o;simp only[List.getElem?_toArray,List.getElem?_cons_zero]at hS1
      iterate 5 (refine aJ rfl (by kernel_rfl) (fun _ _ _ h=>h) rfl hS1 (by intro w' hw1; go_simp; rfl) ?_; simp only[Act.put,aZ,bg,bh])
      refine an 5 rfl (by kernel_rfl) rfl (fun K hK=> ?_);go_wp2_with (go_at_call 92; refine(jk e.path q _ HPP.o HQ.o).mono ?_; rintro e9 w9 ⟨rfl,hb9⟩);have HL9:=aa (HLV.o.trans (hb9.mono HLV.o.size));have hS2:=(hb9.cell (aP hS1)).trans hS1;clear hb9;refine⟨hS2, ?_⟩;refine an 6 rfl (by kernel_rfl) rfl (fun K hK=> ?_);have HTK:=aa (show bV S w9 (.slice (some ⟨b,o,none⟩) (k) cap) (L.take (k))from aU.takeN jr.len (HV.o.below (ab HBR.o HL9.o)) HKN.o)
      go_wp2_with (go_at_call 91; refine(xR S (L.take (k)) (.slice (some ⟨b,o,none⟩) (k) cap) q x _ HTK.o HDX.o).mono ?_; rintro ea wa ⟨rfl,hba⟩);have HLA:=aa (HL9.o.trans (hba.mono HL9.o.size));have hS1:=(hba.cell (aP hS2)).trans hS2;clear hba;refine⟨hS1, ?_⟩;refine aJ rfl (by kernel_rfl) (fun _ _ _ h=>h) rfl hS1 (by intro w' hw1; go_simp; rfl) ?_;simp only[Act.put,aZ,bg,bh]
      refine aM (by kernel_rfl) ?_;have HBA:=aa (ab HBR.o HLA.o);clear hS1 hS2
      by_cases h0:x=0
      ·subst h0;have HTN:=aa (gq HTR.o HAT.o HCA.o);go_wp2_with fail
       go_roundw
       case rel=>exact⟨k+1,by omega,by go_num,HTN.o,HBA.o⟩
       case measure=>simp[intOf]; omega
      ·have e1:(x != 0)=true:=by simp[h0]
       have HX0:=aa h0;clear h0;go_wp2_with fail;go_ret;exact⟨bt (by rw[dS HL4.o HTR.o HAT.o (x:=x) HCA.o HX0.o]),HBA.o⟩
     ·obtain⟨j,rfl⟩: ∃j,k=j+1:=⟨k-1,by omega⟩;obtain⟨f,hf⟩: ∃f,L[j]? =some f:=⟨L[j]'(by rw[<-HN.o]; omega),by simp⟩;obtain⟨b',o',dv',he',-,-,-,hokf,-,p0,-⟩:=eY (HV.o.below HBR.o) hf;simp only[Option.some.injEq,Addr.mk.injEq,and_true]at he';obtain⟨rfl,rfl⟩:=he';have HPF:=aa (show f.path.size<=65536 from Nat.le_trans (uC (HTR.o.val f (List.mem_of_getElem? (i:=j) (by rw[List.getElem?_take,if_pos (Nat.lt_succ_self j)]; exact hf)))) (by omega))
      obtain⟨c,hc⟩: ∃c,cb (bl f.path) (bl e.path)=c:=⟨_,rfl⟩;have HC:=aa hc;have e9:decide (0<j+1)=true:=by simp
      have hjn:j<n:=by omega
      have hjn2:(j:Int)<(n:Int):=by omega
      have hjn3:decide (j<n)=true:=by simp; omega
      have hjc:0<=(j:Int)+1/\(j:Int)+1<=(cap:Int):=by omega
      have hwj:IntKind.i64.wrap (j:Int)=j:=by rw[IntKind.wrap_i64]; omega
      have HAF:=aa (show iz (L.take (j+1)) e=decide (c<0) by rw[vV hf,hc]);clear hf hokf hc hk0
      by_cases hneg:c<0
      ·have HCV:=aa (show(dd e && iz (L.take (j+1)) e)=true by rw[HVE.o,HAF.o,decide_eq_true hneg]; rfl);have e8:decide (0<=c)=false:=by simp; omega
       obtain⟨x,hx⟩: ∃x,ie (L.take (j+1)) (bl q)=x:=⟨_,rfl⟩;have HDX:=aa hx;have HCA:=aa (show cy (L.take (j+1)) e=x by unfold cy; rw[if_pos HCV.o,<-HBQ.o,hx]);clear hx;go_wp2_with fail;refine az [some 1,none,some 13,none,some 3] (by kernel_rfl) (by kernel_rfl) (by kernel_rfl) ?_;simp only[bC,List.take_succ_cons,List.take_zero,List.drop_succ_cons,List.drop_zero]
       obtain⟨W,hW⟩: ∃W:World,W=(wr.alloc (.cells #[.string e.path, .int .i64 e.kind, .int .i64 e.mode, .int .i64 e.time, .slice a1 e.data.length cap1, .string e.link] 79)).drew:=⟨_,rfl⟩;rw[<-hW];have HWL:=aa (show Below wr.heap.size wr W by rw[hW]; exact(bH).drew);have HX:=aa (show W.heap[wr.heap.size]? =some (.cells #[.string e.path, .int .i64 e.kind, .int .i64 e.mode, .int .i64 e.time, .slice a1 e.data.length cap1, .string e.link] 79 (0,0)) by rw[hW]; exact bz wr _)
       have HBW:=aa (ab HBR.o HWL.o);clear hW;obtain⟨c0,c1,c2,c3,c4,c5,_⟩:=aj HX.o;simp only[Nat.zero_add,Nat.reduceAdd]at c1 c2 c3 c4 c5
       repeat (first | (refine aK rfl ?_; simp only[Act.put,aZ,bg,bh]) | (refine aS rfl (fun K hK=> ?_); go_simp; refine hK _ ?_; clear hK K))
       refine aR ?_;refine bJ rfl (fun K hK=> ?_);go_wp2_with (go_at_call 89; refine(jl S e (.slice a1 e.data.length cap1) true _ (HD.o.below HWL.o) HOK.o HPZ.o HVE.o).mono ?_; rintro e7 w7 ⟨rfl,hb7⟩; have HL7:=aa (HWL.o.trans (hb7.mono HWL.o.size)); have HX7:=aa ((hb7.block wr.heap.size (gd HX.o)).trans HX.o); clear hb7 c0 c1 c2 c3 c4 c5);obtain⟨c0,c1,c2,c3,c4,c5,_⟩:=aj HX7.o
       simp only[Nat.zero_add,Nat.reduceAdd]at c1 c2 c3 c4 c5;have y0:=(HL7.o.cell (aP p0)).trans p0
       repeat (first | (refine aK rfl ?_; simp only[Act.put,aZ,bg,bh]) | (refine aS rfl (fun K hK=> ?_); go_simp; refine hK _ ?_; clear hK K))
       refine aR ?_;refine bJ rfl (fun K hK=> ?_);go_wp2_with (go_at_call 90; refine(pw f.path e.path c _ HPF.o HC.o).mono ?_; rintro e8' w8 ⟨rfl,hb8⟩; have HL8:=aa (HL7.o.trans (hb8.mono HL7.o.size)); have HX8:=aa ((hb8.block wr.heap.size (gd HX7.o)).trans HX7.o); clear hb8 c0 c1 c2 c3 c4 c5 y0)
       repeat (first | (refine aK rfl ?_; simp only[Act.put,aZ,bg,bh]) | (refine aS rfl (fun K hK=> ?_); go_simp; refine hK _ ?_; clear hK K))
       refine aR ?_;go_wp2_with fail;refine bE (fun w'=>w'.cell? ⟨wr.heap.size,0,none⟩=some (.string e.path)) (by kernel_rfl) ?_;obtain⟨V,hV⟩: ∃V:World,V=(w8).drew:=⟨_,rfl⟩;rw[<-hV];have HLV:=aa (show Below wr.heap.size wr V by rw[hV]; exact HL8.o.trans ((Below.refl (w8).heap.size (w8)).drew.mono HL8.o.size));have HXV:=aa (show V.heap[wr.heap.size]? =some (.cells #[.string e.path, .int .i64 e.kind, .int .i64 e.mode, .int .i64 e.time, .slice a1 e.data.length cap1, .string e.link] 79 (0,0)) by rw[hV]; exact HX8.o)
       clear hV;have hS1:=ag (k:=0) HXV.o;simp only[List.getElem?_toArray,List.getElem?_cons_zero]at hS1
       iterate 5 (refine aJ rfl (by kernel_rfl) (fun _ _ _ h=>h) rfl hS1 (by intro w' hw1; go_simp; rfl) ?_; simp only[Act.put,aZ,bg,bh])
       refine an 5 rfl (by kernel_rfl) rfl (fun K hK=> ?_);go_wp2_with (go_at_call 92; refine(jk e.path q _ HPP.o HQ.o).mono ?_; rintro e9 w9 ⟨rfl,hb9⟩);have HL9:=aa (HLV.o.trans (hb9.mono HLV.o.size));have hS2:=(hb9.cell (aP hS1)).trans hS1;clear hb9;refine⟨hS2, ?_⟩;refine an 6 rfl (by kernel_rfl) rfl (fun K hK=> ?_);have HTK:=aa (show bV S w9 (.slice (some ⟨b,o,none⟩) (j+1) cap) (L.take (j+1))from aU.takeN jr.len (HV.o.below (ab HBR.o HL9.o)) HKN.o)
       go_wp2_with (go_at_call 91; refine(xR S (L.take (j+1)) (.slice (some ⟨b,o,none⟩) (j+1) cap) q x _ HTK.o HDX.o).mono ?_; rintro ea wa ⟨rfl,hba⟩);have HLA:=aa (HL9.o.trans (hba.mono HL9.o.size));have hS1:=(hba.cell (aP hS2)).trans hS2;clear hba;refine⟨hS1, ?_⟩;refine aJ rfl (by kernel_rfl) (fun _ _ _ h=>h) rfl hS1 (by intro w' hw1; go_simp; rfl) ?_;simp only[Act.put,aZ,bg,bh]
       refine aM (by kernel_rfl) ?_;have HBA:=aa (ab HBR.o HLA.o);clear hS1 hS2
       by_cases h0:x=0
       ·subst h0;have HTN:=aa (gq HTR.o HAT.o HCA.o);go_wp2_with fail
        go_roundw
        case rel=>exact⟨j+1+1,by omega,by go_num,HTN.o,HBA.o⟩
        case measure=>simp[intOf]; omega
       ·have e1:(x != 0)=true:=by simp[h0]
        have HX0:=aa h0;clear h0;go_wp2_with fail;go_ret;exact⟨bt (by rw[dS HL4.o HTR.o HAT.o (x:=x) HCA.o HX0.o]),HBA.o⟩
      ·have HCA:=aa (show cy (L.take (j+1)) e=1 by unfold cy; rw[HAF.o,decide_eq_false hneg]; simp);have e8:decide (0<=c)=true:=by simp; omega
       have e7:0<=c:=by omega
       go_wp2_with fail;refine az [some 1,none,some 13,none,some 3] (by kernel_rfl) (by kernel_rfl) (by kernel_rfl) ?_;simp only[bC,List.take_succ_cons,List.take_zero,List.drop_succ_cons,List.drop_zero];obtain⟨W,hW⟩: ∃W:World,W=(wr.alloc (.cells #[.string e.path, .int .i64 e.kind, .int .i64 e.mode, .int .i64 e.time, .slice a1 e.data.length cap1, .string e.link] 79)).drew:=⟨_,rfl⟩
       rw[<-hW];have HWL:=aa (show Below wr.heap.size wr W by rw[hW]; exact(bH).drew);have HX:=aa (show W.heap[wr.heap.size]? =some (.cells #[.string e.path, .int .i64 e.kind, .int .i64 e.mode, .int .i64 e.time, .slice a1 e.data.length cap1, .string e.link] 79 (0,0)) by rw[hW]; exact bz wr _);have HBW:=aa (ab HBR.o HWL.o);clear hW;obtain⟨c0,c1,c2,c3,c4,c5,_⟩:=aj HX.o
       simp only[Nat.zero_add,Nat.reduceAdd]at c1 c2 c3 c4 c5
       repeat (first | (refine aK rfl ?_; simp only[Act.put,aZ,bg,bh]) | (refine aS rfl (fun K hK=> ?_); go_simp; refine hK _ ?_; clear hK K))
       refine aR ?_;refine bJ rfl (fun K hK=> ?_);go_wp2_with (go_at_call 89; refine(jl S e (.slice a1 e.data.length cap1) true _ (HD.o.below HWL.o) HOK.o HPZ.o HVE.o).mono ?_; rintro e7 w7 ⟨rfl,hb7⟩; have HL7:=aa (HWL.o.trans (hb7.mono HWL.o.size)); have HX7:=aa ((hb7.block wr.heap.size (gd HX.o)).trans HX.o); clear hb7 c0 c1 c2 c3 c4 c5);obtain⟨c0,c1,c2,c3,c4,c5,_⟩:=aj HX7.o
       simp only[Nat.zero_add,Nat.reduceAdd]at c1 c2 c3 c4 c5;have y0:=(HL7.o.cell (aP p0)).trans p0
       repeat (first | (refine aK rfl ?_; simp only[Act.put,aZ,bg,bh]) | (refine aS rfl (fun K hK=> ?_); go_simp; refine hK _ ?_; clear hK K))
       refine aR ?_;refine bJ rfl (fun K hK=> ?_);go_wp2_with (go_at_call 90; refine(pw f.path e.path c _ HPF.o HC.o).mono ?_; rintro e8' w8 ⟨rfl,hb8⟩; have HL8:=aa (HL7.o.trans (hb8.mono HL7.o.size)); clear hb8 c0 c1 c2 c3 c4 c5 y0)
       repeat (first | (refine aK rfl ?_; simp only[Act.put,aZ,bg,bh]) | (refine aS rfl (fun K hK=> ?_); go_simp; refine hK _ ?_; clear hK K))
       refine aR ?_;have HB9:=aa (ab HBR.o HL8.o);go_wp2_with fail;go_ret;exact⟨bt (by rw[dS HL4.o HTR.o HAT.o (x:=1) HCA.o (by decide)]),HB9.o⟩
   ·have hk2:k=n:=by omega
    subst hk2;go_wp2_with fail;go_ret;exact⟨bt (by rw[qm HL4.o (by rw[<-HN.o]; exact HTR.o)]),HBR.o⟩
end Go.Proofs.YtpffpjbkbaleiaaGreatDoor
namespace Go.Proofs.YtpffpjbkbaleiaaGreatDoor
open Go Go.RowKit
theorem vy (seed k:Nat) (w:World) (_hs:seed<18446744073709551616) (hk:k<256):Calls Tryz.prog 214 #[.int .u64 (seed:Int), .int .i64 (k:Int)] w fun e w'=>e= .returned (.int .u64 ((oB seed k:Nat):Int))/\w=w':=by
 have h0:IntKind.u64.wrap ((seed:Int)+IntKind.u64.wrap (((k:Int)+1)*11400714819323198485))=((nR seed k:Nat):Int):=ur seed k;have h1:=tU (nR seed k) (yf seed k);have h2:=tV (zJ (nR seed k)) (Bu _);have h3:=tW (CO (zJ (nR seed k))) (Bv _);have hw:IntKind.u64.wrap ((k:Int)+1)=(k:Int)+1:=by rw[IntKind.wrap_u64]; omega
 go_enter Tryz.func214,Tryz.ntmps214
 go_wp2_with fail;go_ret;exact⟨rfl,rfl⟩
theorem vF (x n:Nat) (w:World) (hx:x<18446744073709551616) (hn:n<64):Calls Tryz.prog 213 #[.int .u64 (x:Int), .int .i64 (n:Int)] w fun e w'=>e= .returned (.int .u64 ((jQ n x:Nat):Int))/\w=w':=by
 go_enter Tryz.func213,Tryz.ntmps213
 go_wp2_with fail
 go_loopw [0,5] (fun y i wr=> ∃k:Nat,k<=n/\i= .int .i64 (k:Int)/\y= .int .u64 ((jQ k x:Nat):Int)/\w=wr) (fun _ i _=>n-(intOf i).toNat)
 case atStart=>exact⟨0,by omega,rfl,rfl,rfl⟩
 case round=>
  obtain⟨k,hk,rfl,rfl,rfl⟩:=hrel;obtain⟨z,hz⟩: ∃z,z=jQ k x:=⟨_,rfl⟩;rw[<-hz];have HZ:=aa hz;have hzl:z<18446744073709551616:=by rw[hz]; exact pW k hx
  have HR:=aa (show bits BinOp.or IntKind.u64 (IntKind.u64.wrap ((z:Int)*2)) ((z:Int)/9223372036854775808)=((jQ (k+1) x:Nat):Int) by
   have h1:=un (s:=1) hzl;rw[IntKind.wrap_u64,jQ,<-hz];exact h1)
  clear hz
  by_cases hlt:k<n
  ·go_wp2_with fail
   go_roundw
   case rel=>exact⟨k+1,by omega,by go_num,by rw[HR.o],trivial⟩
   case measure=>simp[intOf]; omega
  ·have hkn:k=n:=by omega
   subst hkn;go_wp2_with fail;go_ret;exact⟨by rw[HZ.o]; rfl,rfl⟩
theorem wU {T:Nat->Nat} {l:List UInt8} {k:Nat} {b:UInt8} (h:l[k]? =some b):mK T (l.drop k)=jQ (l.length-1-k) (T b.toNat)^^^mK T (l.drop (k+1)):=by
 obtain⟨hk,rfl⟩:=List.getElem?_eq_some_iff.1 h;rw[List.drop_eq_getElem_cons hk,mK,List.length_drop,show l.length-(k+1)=l.length-1-k by omega]
theorem zk (S:Nat->Prop) (seed:Nat) (data:List UInt8) (v:Value) (w:World) (hs:seed<18446744073709551616) (hv:ar S w v data) (hl:data.length<=64):Calls Tryz.prog 205 #[.int .u64 (seed:Int),v] w fun e w'=>e= .returned (.int .u64 ((kF seed data:Nat):Int))/\w=w':=by
 obtain⟨hl0,a,cap,rfl,hn,hm,-⟩:=id hv;unfold maxLen at hm;have HV:=aa hv;obtain⟨n,hnd⟩: ∃n,n=data.length:=⟨_,rfl⟩;rw[<-hnd]at HV hl hn ⊢;have HN:=aa hnd;clear hv hl0 hnd
 go_enter Tryz.func205,Tryz.ntmps205
 go_wp2_with fail
 go_loopw [5,6] (fun y i wr=> ∃k s:Nat,k<=n/\i= .int .i64 (k:Int)/\y= .int .u64 (s:Int)/\s<18446744073709551616/\s^^^mK (oB seed) (data.drop k)=kF seed data/\w=wr) (fun _ i _=>n-(intOf i).toNat)
 case atStart=>exact⟨0,0,by omega,rfl,rfl,by omega,by rw[List.drop_zero,Nat.zero_xor,tC (lR seed)]; rfl,rfl⟩
 case round=>
  obtain⟨k,s,hk,rfl,rfl,hs6,hsum,rfl⟩:=hrel;have HS:=aa hsum;clear hsum
  by_cases hlt:k<n
  ·obtain⟨b,hbk⟩: ∃b,data[k]? =some b:=⟨data[k]'(by have:=HN.o; omega),List.getElem?_eq_getElem (by have:=HN.o; omega)⟩;obtain⟨bb,oo,rfl,q0⟩:=EC HV.o (Below.refl _ _) hbk;have HD:=aa (wU (T:=oB seed) hbk);rw[<-HN.o]at HD;have hb256:=b.toNat_lt;have hw1:IntKind.i64.wrap (b.toNat:Int)=(b.toNat:Int):=by rw[IntKind.wrap_i64]; omega
   clear hbk;go_wp2_with fail;refine(vy seed b.toNat _ hs hb256).mono ?_;rintro e w1 ⟨rfl,rfl⟩;obtain⟨r,hr⟩: ∃r:Nat,r=n-1-k:=⟨_,rfl⟩;have hr1:IntKind.i64.wrap (IntKind.i64.wrap ((n:Int)-1)-(k:Int))=(r:Int):=by rw[IntKind.wrap_i64,IntKind.wrap_i64]; omega
   have hr2:(n:Int)-1-(k:Int)=(r:Int):=by omega
   rw[<-hr]at HD;have hr64:r<64:=by omega
   obtain⟨tv,htv⟩: ∃t,t=oB seed b.toNat:=⟨_,rfl⟩;have htl:tv<18446744073709551616:=by rw[htv]; exact lR _ _
   rw[<-htv]at HD ⊢;clear htv hr;go_wp2_with fail;refine(vF tv r _ htl hr64).mono ?_;rintro e w2 ⟨rfl,rfl⟩;obtain⟨z,hz⟩: ∃z,z=jQ r tv:=⟨_,rfl⟩;have hzl:z<18446744073709551616:=by rw[hz]; exact pW _ htl
   rw[<-hz]at HD ⊢;have HX:=aa (u64_xor_nat s z hs6 hzl);clear hz;go_wp2_with fail
   go_roundw
   case rel=>
    refine⟨k+1,s^^^z,by omega,by go_num,by rw[HX.o],lG hs6 hzl, ?_,trivial⟩;rw[Nat.xor_assoc,<-HD.o];exact HS.o
   case measure=>simp[intOf]; omega
  ·have hkn:k=n:=by omega
   subst hkn;have HF:=aa (show s=kF seed data by
    have h1:=HS.o;rw[HN.o,List.drop_length]at h1;rw[<-h1]
    show s=s^^^0
    rw[Nat.xor_zero])
   go_wp2_with fail;go_ret;exact⟨by rw[<-HF.o]; rfl,rfl⟩
theorem nn : ∀f,Lib.ctzFrom f 0=f
 | 0=>rfl
 | f+1=>by rw[Lib.ctzFrom,if_neg (by decide),Nat.zero_div,nn f]; omega
theorem EI (x:Nat):Lib.ctz 64 x=Lib.ctzFrom 64 x:=by
 unfold Lib.ctz
 split
 ·rename_i h; rw[h,nn]
 ·rfl
theorem yE (x:Nat) (w:World) (hx:x<18446744073709551616):Calls Tryz.prog 204 #[.int .u64 (x:Int)] w fun e w'=>e= .returned (.int .i64 ((Lib.ctz 64 x:Nat):Int))/\w=w':=by
 have HC:=aa (EI x)
 go_enter Tryz.func204,Tryz.ntmps204
 go_wp2_with fail
 go_loopw [3] (fun i wr=> ∃k:Nat,k<=64/\i= .int .i64 (k:Int)/\Lib.ctzFrom 64 x=k+Lib.ctzFrom (64-k) (x/2^k)/\w=wr) (fun i _=>64-(intOf i).toNat)
 case atStart=>exact⟨0,by omega,rfl,by simp,rfl⟩
 case round=>
  obtain⟨k,hk,rfl,hct,rfl⟩:=hrel;have HT:=aa hct;clear hct
  by_cases h64:k<64
  ·obtain⟨y,hy⟩: ∃y,y=x/2^k:=⟨_,rfl⟩;have hyl:y<18446744073709551616:=by rw[hy]; exact Nat.lt_of_le_of_lt (Nat.div_le_self _ _) hx
   have hstep:Lib.ctzFrom (64-k) y=if y%2=1 then 0 else 1+Lib.ctzFrom (64-(k+1)) (y/2):=by
    rw[show 64-k=(64-(k+1))+1 by omega,Lib.ctzFrom]
   have hbit:bits BinOp.and IntKind.u64 ((x:Int)/2^k) 1=((y%2:Nat):Int):=by
    rw[show((x:Int)/2^k)=((y:Nat):Int) by rw[hy]; simp,show(1:Int)=((1:Nat):Int)from rfl,u64_and_nat _ _ hyl (by decide),Nat.and_one_is_mod]
   have HT2:=aa (show Lib.ctzFrom 64 x=k+Lib.ctzFrom (64-k) y by rw[hy]; exact HT.o);have HY:=aa (show y/2=x/2^(k+1) by rw[hy,Nat.div_div_eq_div_mul,Nat.pow_succ]);clear hy
   by_cases hpar:y%2=1
   ·have hb0:(bits BinOp.and IntKind.u64 ((x:Int)/2^k) 1 == 0)=false:=by rw[hbit,hpar]; rfl
    rw[if_pos hpar]at hstep;have HR:=aa (show Lib.ctz 64 x=k by rw[HC.o,HT2.o,hstep]; omega);clear hbit hstep hpar;go_wp2_with fail;go_ret;exact⟨by rw[HR.o]; rfl,rfl⟩
   ·have hpar0:y%2=0:=by omega
    have hb0:(bits BinOp.and IntKind.u64 ((x:Int)/2^k) 1 == 0)=true:=by rw[hbit,hpar0]; rfl
    rw[if_neg hpar]at hstep;have HR:=aa (show Lib.ctzFrom 64 x=(k+1)+Lib.ctzFrom (64-(k+1)) (x/2^(k+1)) by rw[HT2.o,hstep,HY.o]; omega);clear hbit hstep hpar hpar0;go_wp2_with fail
    go_roundw
    case rel=>exact⟨k+1,by omega,by go_num,HR.o,trivial⟩
    case measure=>simp[intOf]; omega
  ·have hk64:k=64:=by omega
   subst hk64;have HR:=aa (show Lib.ctz 64 x=64 by
    have h1:=HT.o;rw[HC.o,h1]; rfl)
   go_wp2_with fail;go_ret;exact⟨by rw[HR.o]; rfl,rfl⟩
def mf (c:cF) (data:List UInt8) (n k:Nat):List Value:=(List.range (n+1)).map fun p=> .bool (decide (p<k) && kI c data p)
theorem nD (c:cF) (data:List UInt8) (n k:Nat):(mf c data n k).length=n+1:=by simp[mf]
theorem jN (c:cF) (data:List UInt8) {n k p:Nat} (h:p<=n):(mf c data n k)[p]? =some (.bool (decide (p<k) && kI c data p)):=by
 unfold mf;rw[List.getElem?_map,List.getElem?_range (by omega)]
 rfl
theorem Fj (c:cF) (data:List UInt8) {n k:Nat} (h:k<=n):(mf c data n k).set k (.bool (kI c data k))=mf c data n (k+1):=by
 apply List.ext_getElem?
 intro p;rw[List.getElem?_set]
 by_cases hp:k=p
 ·subst hp;rw[if_pos rfl,if_pos (by rw[nD]; omega),jN c data h];simp
 ·rw[if_neg hp]
  by_cases hn:p<=n
  ·rw[jN c data hn,jN c data hn,show decide (p<k)=decide (p<k+1) by rw[decide_eq_decide]; omega]
  ·rw[List.getElem?_eq_none (by rw[nD]; omega),List.getElem?_eq_none (by rw[nD]; omega)]
theorem CR (c:cF) (data:List UInt8) (n:Nat):mf c data n 0=List.replicate (n+1) (.bool false):=by
 apply List.ext_getElem?
 intro p
 by_cases hn:p<=n
 ·rw[jN c data hn,List.getElem?_replicate,if_pos (by omega)];simp
 ·rw[List.getElem?_eq_none (by rw[nD]; omega),List.getElem?_eq_none (by simp; omega)]
theorem Ji {c:cF} {data:List UInt8} {p:Nat} (h:p<c.win.toNat):kI c data p=false:=by
 unfold kI Bt;rw[List.length_take];simp;intro h2;omega
theorem rh {c:cF} {data:List UInt8} {n k:Nat} (h:k<=c.win.toNat):mf c data n k=mf c data n 0:=by
 unfold mf;refine List.map_congr_left fun p _=> ?_
 by_cases hp:p<k
 ·rw[Ji (by omega)]; simp
 ·simp[hp]
def du (c:cF) (b:Nat) (w:World):Prop:=w.heap[b]? =some (.cells #[.int .i64 c.mn, .int .i64 c.mx, .int .i64 c.win, .int .i64 c.bits, .int .u64 (c.seed:Int)] 45 (0,0))
theorem du.below {c:cF} {b:Nat} {w w':World} (h:du c b w) (hb:Below w.heap.size w w'):du c b w':=br hb h
theorem zH (w:World) (n:Nat) (hn:n<=16777216): ∃w',(Instr.makeSlice 242 (.int .i64 (n:Int)) (.int .i64 (n:Int))).run Tryz.prog w= .ok (.slice (some ⟨w.heap.size,0,none⟩) n n) w'/\
  w'.ownsRow w.heap.size 4 1 (.slice (some ⟨w.heap.size,0,none⟩) n n) n (List.replicate n (.bool false))/\w.grownBy w' none:=by
 have h1:(Tryz.prog.info? 4).map (fun i=>(i.bytes,i.size))=some (1,1):=by kernel_rfl
 have h2:(Tryz.prog.info? 4).bind (fun i=>i.zero)=some (.bool false):=by kernel_rfl
 cases hi:Tryz.prog.info? 4 with
 | none=>rw[hi]at h1; cases h1
 | some i=>
  rw[hi]at h1 h2;simp only[Option.map_some,Option.some.injEq,Prod.mk.injEq]at h1;obtain⟨w',k1,k2,k3⟩:=run_make_full (P:=Tryz.prog) w w.heap.size 242 4 i (.bool false) 1 Tryz.underlying242 hi h2 h1.2 .i64 .i64 n (by rw[h1.1]; omega) (by unfold maxLen; omega) (Nat.le_refl _);refine⟨w',k1, ?_,k3⟩;rw[Nat.mul_one]at k2;rw[show(Value.bool false).cells= #[.bool false]from rfl,toList_madeCells_one]at k2
  exact k2
theorem DW {data:List UInt8} {p W:Nat} (hp:p<=data.length) (hW:W<=p):dy data (p-W) p=iT W (data.take p):=by
 unfold dy iT;rw[List.length_take,Nat.min_eq_left hp,show p-(p-W)=W by omega,List.drop_take,show p-(p-W)=W by omega]
theorem vr (S:Nat->Prop) (c:cF) (data:List UInt8) (v:Value) (w:World) (hc:dV c=true) (hs:c.seed<18446744073709551616) (hv:ar S w v data) (hl:data.length<=1048576):
  Calls Tryz.prog 189 #[dB c,v] w fun e w'=> ∃g cap,e= .returned (.slice (some ⟨g,0,none⟩) (data.length+1) cap)/\w'.ownsRow w.heap.size 4 1 (.slice (some ⟨g,0,none⟩) (data.length+1) cap) (data.length+1) (mf c data data.length (data.length+1))/\Below w.heap.size w w':=by
 obtain⟨hl0,a,cap,rfl,hn,hm,-⟩:=id hv;unfold maxLen at hm;obtain⟨n,hnd⟩: ∃n,n=data.length:=⟨_,rfl⟩;obtain⟨v1,v2,v3,v4,v5,v6,v7⟩:=fX.1 hc;obtain⟨wn,hwn⟩: ∃wn:Nat,wn=c.win.toNat:=⟨_,rfl⟩;have hwi:c.win=(wn:Int):=by omega
 obtain⟨W,hW⟩: ∃W,W=w.alloc (.cells #[.int .i64 c.mn, .int .i64 c.mx, .int .i64 c.win, .int .i64 c.bits, .int .u64 (c.seed:Int)] 45):=⟨_,rfl⟩;have HB:=aa (show Below w.heap.size w W by rw[hW]; exact bH);have HX:=aa (show du c w.heap.size W by rw[hW]; exact heap_alloc_new w _);have HV:=aa (show ar S W (.slice a data.length cap) data by rw[hW]; exact aL.below hv (by omega) (bH))
 rw[<-hnd]at hl hn HV ⊢;have HN:=aa hnd;have HWN:=aa hwn;have hWs:W.heap.size=w.heap.size+1:=by rw[hW]; simp
 have HS:=aa hs;obtain⟨W1,hmk,hown,hgr⟩:=zH W (n+1) (by omega);have HO:=aa (show W1.ownsRow w.heap.size 4 1 (.slice (some ⟨W.heap.size,0,none⟩) (n+1) (n+1)) (n+1) (mf c data n wn) by
  rw[rh (by rw[hwn]; exact Nat.le_refl _),CR];exact Joins.ownsRow_le hown (by omega))
 have HB1:=aa (HB.o.trans ((dQ hgr).mono (by omega)));have HXG:=aa (dQ hgr);have hmk2:(Instr.makeSlice 242 (.int .i64 ((n:Int)+1)) (.int .i64 ((n:Int)+1))).run Tryz.prog W= .ok (.slice (some ⟨W.heap.size,0,none⟩) (n+1) (n+1)) W1:=by
  rw[show((n:Int)+1)=((n+1:Nat):Int) by omega]; exact hmk
 obtain⟨gb,hgb⟩: ∃gb,gb=W.heap.size:=⟨_,rfl⟩;rw[<-hgb]at HO hmk2;have HGB:=aa hgb;have HWI:=aa hwi;clear hmk hown hgr hgb hnd hwn hs hl0 hv hwi;unfold dB
 go_enter Tryz.func189,Tryz.ntmps189
 go_upto_region 1 with fail
 rw[<-hW];clear hW;have HX1:=aa (HX.o.below HXG.o)
 go_upto_region 2 with fail
 clear hmk2;have hx0:=HX1.o;unfold du at hx0;obtain⟨c0,c1,c2,c3,c4,_⟩:=aj hx0;simp only[Nat.zero_add,Nat.reduceAdd]at c1 c2 c3 c4;clear hx0;go_wp2_with fail;clear c0 c1 c2 c3 c4
 go_loopw [6] (fun i wr=> ∃p:Nat,wn<=p/\p<=max wn (n+1)/\i= .int .i64 (p:Int)/\wr.ownsRow w.heap.size 4 1 (.slice (some ⟨gb,0,none⟩) (n+1) (n+1)) (n+1) (mf c data n p)/\du c w.heap.size wr/\Below W.heap.size W wr) (fun i _=>n+1-(intOf i).toNat)
 case atStart=>exact⟨wn,Nat.le_refl _,by omega,by rw[HWI.o],HO.o,HX1.o,HXG.o⟩
 case round=>
  obtain⟨p,hpw,hpm,rfl,ho,hx,hb⟩:=hrel;have HOR:=aa ho;have HXR:=aa hx;have HBR:=aa hb;clear ho hx hb HO
  by_cases hlt:p<=n
  ·obtain⟨W2,hW2⟩: ∃y:World,y=wr:=⟨_,rfl⟩;subst hW2;obtain⟨A,hA⟩: ∃A,A=p-wn:=⟨_,rfl⟩;have hAi:(p:Int)-(wn:Int)=(A:Int):=by omega
   have hAw:IntKind.i64.wrap (A:Int)=(A:Int):=by rw[IntKind.wrap_i64]; omega
   have HV2:=aa (show ar S W2 (.slice a n cap) data from aL.below HV.o (by omega) HBR.o);have hw1:1<=wn:=by have:=HWI.o; omega
   have hw64:wn<=64:=by have:=HWI.o; omega
   obtain⟨sa,sc,hsl,hsb⟩:=lU HV2.o (s:=A) (e:=p) (by omega) (by rw[<-HN.o]; exact hlt);have HPC:=aa (show dy data A p=iT wn (data.take p) by rw[hA]; exact DW (by rw[<-HN.o]; exact hlt) hpw);have hpl:(dy data A p).length=wn:=by rw[HPC.o,iU,List.length_take,<-HN.o]; omega
   rw[hpl]at hsl hsb;have HSB:=aa hsb;clear hsb hpl hA;have hpi:(p:Int)<=(n:Int):=by omega
   go_upto_region 5 with fail
   have hpn:(p:Int)<(n:Int)+1:=by omega
   refine bE (du c w.heap.size) (by kernel_rfl) ?_;obtain⟨V,hV⟩: ∃V:World,V=W2.drew:=⟨_,rfl⟩;rw[<-hV];have hb:Below W2.heap.size W2 V:=by rw[hV]; exact(Below.refl _ _).drew
   have HBV:=aa (ab HBR.o hb);have SV:=aa (HXR.o.below hb);have HOV:=aa (aQ HOR.o hb);have HSV:=aa (show ar S V (.slice sa wn sc) (dy data A p) by have h1:=HSB.o; unfold ar at h1 ⊢; exact aL.below h1 (by omega) hb);clear hV hb
   iterate 11 (refine aJ rfl (by kernel_rfl) (fun _ _ _ h=>h) rfl SV.o (by rintro w' hx; have hx0:=hx; unfold du at hx0; have c2:=aB (k:=2) hx0; have c3:=aB (k:=3) hx0; have c4:=aB (k:=4) hx0; simp only[List.getElem?_toArray,vN]at c2 c3 c4; rw[HWI.o]at c2; clear hx hx0; go_simp; rfl) ?_; simp only[Act.put,aZ,bg,bh])
   refine ay 13 rfl (by kernel_rfl) (by kernel_rfl) (by kernel_rfl) (fun _ _ _ h=>h) rfl SV.o (by rintro w' hx; have hx0:=hx; unfold du at hx0; have c2:=aB (k:=2) hx0; have c3:=aB (k:=3) hx0; have c4:=aB (k:=4) hx0; simp only[List.getElem?_toArray,vN]at c2 c3 c4; rw[HWI.o]at c2; clear hx hx0; go_simp; rfl) ?_;simp only[Act.put,aZ,bg,bh];refine ay 14 rfl (by kernel_rfl) (by kernel_rfl) (by kernel_rfl) (fun _ _ _ h=>h) rfl SV.o (by rintro w' hx; have hx0:=hx; unfold du at hx0; have c2:=aB (k:=2) hx0; have c3:=aB (k:=3) hx0; have c4:=aB (k:=4) hx0; simp only[List.getElem?_toArray,vN]at c2 c3 c4; rw[HWI.o]at c2; clear hx hx0; go_simp; rfl) ?_
   simp only[Act.put,aZ,bg,bh];refine an 11 rfl (by kernel_rfl) rfl (fun K hK=> ?_);go_wp2_with fail;refine(zk _ c.seed (dy data A p) _ _ HS.o HSV.o (by rw[HPC.o,iU]; exact Nat.le_trans (Nat.min_le_left _ _) hw64)).mono ?_;rintro e w3 ⟨rfl,rfl⟩;obtain⟨hh,hhh⟩: ∃h,h=kF c.seed (dy data A p):=⟨_,rfl⟩;have hhl:hh<18446744073709551616:=by rw[hhh]; exact qM _ _
   rw[<-hhh];have HH:=aa hhh;clear hhh;go_wp2_with fail;refine⟨SV.o, ?_⟩;refine an 12 rfl (by kernel_rfl) rfl (fun K hK=> ?_);go_wp2_with fail;refine(yE hh _ hhl).mono ?_;rintro e w4 ⟨rfl,rfl⟩;obtain⟨zz,hzz⟩: ∃z,z=Lib.ctz 64 hh:=⟨_,rfl⟩;rw[<-hzz];have HMK:=aa (show decide (c.bits<=(zz:Int))=kI c data p by
    unfold kI Bt;rw[<-HWN.o,<-HPC.o,<-HH.o,<-hzz,List.length_take,<-HN.o,show decide (wn<=min p n)=true by rw[decide_eq_true_eq]; omega,Bool.true_and,decide_eq_decide]
    omega)
   clear hzz;go_wp2_with fail;refine⟨SV.o, ?_⟩
   iterate 2 (refine aJ rfl (by kernel_rfl) (fun _ _ _ h=>h) rfl SV.o (by rintro w' hx; have hx0:=hx; unfold du at hx0; have c2:=aB (k:=2) hx0; have c3:=aB (k:=3) hx0; have c4:=aB (k:=4) hx0; simp only[List.getElem?_toArray,vN]at c2 c3 c4; rw[HWI.o]at c2; clear hx hx0; go_simp; rfl) ?_; simp only[Act.put,aZ,bg,bh])
   have q0:=HOV.o.cellAt p (by omega);rw[jN c data (by omega)]at q0;have q1:=HOV.o.frozenAt p;refine an 17 rfl (by kernel_rfl) rfl (fun K hK=> ?_);go_wp2_with fail;obtain⟨W5,hW5⟩: ∃y,y=V.setCell ⟨gb,p,none⟩ (.bool (decide (c.bits<=(zz:Int)))):=⟨_,rfl⟩;rw[<-hW5];have SC:=aa (show du c w.heap.size W5 by
    rw[hW5];unfold du;rw[Below.heap_setCell _ _ _ _ (show w.heap.size≠gb by have:=HGB.o; omega)];exact SV.o)
   have HO5:=aa (show W5.ownsRow w.heap.size 4 1 (.slice (some ⟨gb,0,none⟩) (n+1) (n+1)) (n+1) (mf c data n (p+1)) by
    rw[hW5,HMK.o,<-Fj c data hlt];exact(HOV.o.stored p _).1)
   have HB5:=aa (show Below W.heap.size W W5 by rw[hW5]; exact HBV.o.setCell (by show W.heap.size<=gb; rw[HGB.o]; exact Nat.le_refl _) _);clear hW5 q0 q1;refine⟨SC.o, ?_⟩;refine aM (by kernel_rfl) ?_;go_wp2_with fail
   go_roundw
   case rel=>exact⟨p+1,by omega,by omega,by go_num,HO5.o,SC.o,HB5.o⟩
   case measure=>simp[intOf]; omega
  ·have hlti: ¬(p:Int)<=(n:Int):=by omega
   have HF:=aa (show mf c data n p=mf c data n (n+1) by
    by_cases h1:wn<=n+1
    ·rw[show p=n+1 by omega]
    ·rw[rh (k:=p) (by rw[<-HWN.o]; omega),rh (k:=n+1) (by rw[<-HWN.o]; omega)])
   go_wp2_with fail;go_ret;exact⟨gb,n+1,rfl,by rw[<-HF.o]; exact HOR.o,ab HB.o HBR.o⟩
theorem Tryz.appIntsM :eH Tryz.prog 65 3 1 8:=eH.mk' (z:= .int .i64 0) Tryz.underlying65 (by kernel_rfl) rfl (by decide) (by decide)
def mg (n:Nat):Value:= .int .i64 (n:Int)
def eG (mk:Nat->Bool) (mn k:Nat):List Nat:=(List.range k).filter fun p=>eR mk mn p
theorem Dg (mk:Nat->Bool) (mn k:Nat):eG mk mn (k+1)=if eR mk mn k=true then eG mk mn k++[k]else eG mk mn k:=by
 unfold eG;rw[List.range_succ,List.filter_append]
 by_cases h:eR mk mn k=true
 ·rw[if_pos h]; simp[h]
 ·rw[if_neg h]; simp[h]
theorem xN (mk:Nat->Bool) (mn k:Nat):(eG mk mn k).length<=k:=by
 have:=List.length_filter_le (fun p=>eR mk mn p) (List.range k);rw[List.length_range]at this;exact this
def kE (mk:Nat->Bool) (mn p q:Nat) (b:Bool):Prop:=b=true<->mk p=true/\ ∀r,1<=r->q<r->r<p->p<r+mn->mk r=false
theorem kE.start (mk:Nat->Bool) (mn p:Nat):kE mk mn p (p-1) (mk p):=⟨fun h=>⟨h,fun r h1 h2 h3 _=>by omega⟩,fun h=>h.1⟩
theorem kE.hit {mk:Nat->Bool} {mn p q:Nat} {b:Bool} (_h:kE mk mn p q b) (hq:1<=q) (hp:q<p) (hm:p<q+mn) (hk:mk q=true):kE mk mn p (q-1) false:=
 ⟨fun h=>(by cases h),fun h=>(by rw[h.2 q hq (by omega) hp hm]at hk; cases hk)⟩
theorem kE.miss {mk:Nat->Bool} {mn p q:Nat} {b:Bool} (h:kE mk mn p q b) (hk:mk q=false):kE mk mn p (q-1) b:=
 ⟨fun hb=>⟨(h.1 hb).1,fun r h1 h2 h3 h4=>by
  by_cases e:r=q
  ·rw[e]; exact hk
  ·exact(h.1 hb).2 r h1 (by omega) h3 h4⟩,fun hb=>h.2 ⟨hb.1,fun r h1 h2 h3 h4=>hb.2 r h1 (by omega) h3 h4⟩⟩
theorem kE.done {mk:Nat->Bool} {mn p q:Nat} {b:Bool} (h:kE mk mn p q b) (hp:1<=p) (hq:q=0\/q+mn<=p):b=eR mk mn p:=by
 rw[Bool.eq_iff_iff,Df]
 constructor
 ·intro hb;exact⟨hp,(h.1 hb).1,fun r h1 h2 h3=>(h.1 hb).2 r h1 (by omega) h2 h3⟩
 ·rintro⟨_,h1,h2⟩;exact h.2 ⟨h1,fun r k1 _ k3 k4=>h2 r k1 k3 k4⟩
theorem sK (S:Nat->Prop) (c:cF) (data:List UInt8) (v:Value) (w:World) (hc:dV c=true) (hs:c.seed<18446744073709551616) (hv:ar S w v data) (hl:data.length<=1048576):
  Calls Tryz.prog 177 #[dB c,v] w fun e w'=> ∃a cap,e= .returned (.slice a (eG (kI c data) c.mn.toNat (data.length+1)).length cap)/\w'.ownsRow w.heap.size 3 1 (.slice a (eG (kI c data) c.mn.toNat (data.length+1)).length cap) (eG (kI c data) c.mn.toNat (data.length+1)).length ((eG (kI c data) c.mn.toNat (data.length+1)).map mg)/\Below w.heap.size w w':=by
 obtain⟨hl0,a,cap,rfl,hn,hm,-⟩:=id hv;unfold maxLen at hm;obtain⟨n,hnd⟩: ∃n,n=data.length:=⟨_,rfl⟩;obtain⟨v1,v2,v3,v4,v5,v6,v7⟩:=fX.1 hc;obtain⟨mn,hmn⟩: ∃mn:Nat,mn=c.mn.toNat:=⟨_,rfl⟩;have HMN:=aa (show c.mn=(mn:Int) by omega);have hmnb:mn<=32768:=by omega
 obtain⟨mk,hmk⟩: ∃mk,mk=kI c data:=⟨_,rfl⟩;obtain⟨W,hW⟩: ∃W,W=w.alloc (.cells #[.int .i64 c.mn, .int .i64 c.mx, .int .i64 c.win, .int .i64 c.bits, .int .u64 (c.seed:Int)] 45):=⟨_,rfl⟩;have HB:=aa (show Below w.heap.size w W by rw[hW]; exact bH);have HX:=aa (show du c w.heap.size W by rw[hW]; exact heap_alloc_new w _);have HV:=aa (show ar S W (.slice a data.length cap) data by rw[hW]; exact aL.below hv (by omega) (bH))
 rw[<-hnd]at hl hn HV;rw[<-hmn,<-hmk,<-hnd];have HN:=aa hnd;have HMK:=aa hmk;have HC:=aa hc;have HS:=aa hs;clear hv hl0 hnd hmn hmk hc hs v1 v2 v4 v5 v6 v7;unfold dB
 go_enter Tryz.func177,Tryz.ntmps177
 go_upto_region 1 with fail
 rw[<-hW];clear hW;have hx0:=HX.o;unfold du at hx0;obtain⟨c0,c1,c2,c3,c4,_⟩:=aj hx0;simp only[Nat.zero_add,Nat.reduceAdd]at c1 c2 c3 c4;clear hx0;go_wp2_with fail;clear c0 c1 c2 c3 c4;refine(vr S c data _ _ HC.o HS.o HV.o (by rw[<-HN.o]; exact hl)).mono ?_;rw[<-HN.o];rintro e w1 ⟨g,gc,rfl,ho1,hb1⟩;have HM1:=aa (show ∀q,q<=n->w1.cell? ⟨g,q,none⟩=some (.bool (mk q))from fun q hq=>by
  rw[ho1.cellAt q (by omega),jN c data hq,HMK.o,show decide (q<n+1)=true by rw[decide_eq_true_eq]; omega,Bool.true_and])
 have HB1:=aa (ab HB.o hb1);have HX1:=aa (HX.o.below hb1);have hg1:g<w1.heap.size:=(ho1.lt g rfl).2;have hgc:n+1<=gc:=by
  obtain⟨a0,c0,he,h1,h2⟩:=ai ho1
  cases he
  exact h1
 have hz1:=HB1.o.size;clear ho1 hb1;have HO2:=aa (show(w1.alloc (.cells #[] 3)).ownsRow w1.heap.size 3 1 (.slice (some ⟨w1.heap.size,0,none⟩) 0 0) 0 ((eG mk mn 1).map mg)from World.ownsRow_lit (e:=3) (size:=1) (base:=w1.heap.size) w1 #[] 0 (Nat.le_refl _) (Nat.zero_le _) (by simp));have HB2:=aa ((Below.refl w1.heap.size w1).alloc (Nat.le_refl _) (.cells #[] 3));go_wp2_with fail
 go_loopw [6,7] (fun o i wr=> ∃(p l:Nat) (ao:Option Addr) (co:Nat),1<=p/\p<=n+1/\i= .int .i64 (p:Int)/\o= .slice ao l co/\l=(eG mk mn p).length/\wr.ownsRow w1.heap.size 3 1 (.slice ao l co) l ((eG mk mn p).map mg)/\Below w1.heap.size w1 wr) (fun _ i _=>n+1-(intOf i).toNat)
 case atStart=>exact⟨1,0,_,_,Nat.le_refl _,by omega,rfl,rfl,rfl,HO2.o,HB2.o⟩
 case round=>
  obtain⟨p,l,ao,co,hp1,hpn,rfl,rfl,hln,ho,hb⟩:=hrel;have HLN:=aa hln;have HO:=aa ho;have HBR:=aa hb;have hlp:=xN mk mn p;rw[<-hln]at hlp;clear ho hb hln HO2 HB2
  by_cases hlt:p<=n
  ·obtain⟨W2,hW2⟩: ∃y:World,y=wr:=⟨_,rfl⟩;subst hW2;have hpi:(p:Int)<=(n:Int):=by omega
   have hpg:p<gc:=by omega
   have q0:=(HBR.o.cell (p:=⟨g,p,none⟩) hg1).trans (HM1.o p hlt);go_wp2_with fail;clear q0
   go_loopw [8,9] (fun y j wq=> ∃(q:Nat) (b:Bool),q+1<=p/\j= .int .i64 (q:Int)/\y= .bool b/\kE mk mn p q b/\W2=wq) (fun _ j _=>(intOf j).toNat)
   case atStart=>exact⟨p-1,mk p,by omega,by rw[show((p-1:Nat):Int)=(p:Int)-1 by omega],rfl,kE.start _ _ _,rfl⟩
   case round=>
    obtain⟨q,b,hqp,rfl,rfl,hbk,rfl⟩:=hrel;have HBK:=aa hbk;have hx0:=HX1.o.below HBR.o;unfold du at hx0;have c0:=aB (k:=0) hx0;simp only[List.getElem?_toArray,List.getElem?_cons_zero]at c0;rw[HMN.o]at c0;clear hbk hx0
    by_cases hgo:1<=q/\p<q+mn
    ·have hq1:1<=(q:Int):=by omega
     have hq2:(p:Int)-(mn:Int)<(q:Int):=by omega
     have hqg:q<gc:=by omega
     have hqn:q<n+1:=by omega
     have hqni:(q:Int)<(n:Int)+1:=by omega
     have q0:=(HBR.o.cell (p:=⟨g,q,none⟩) hg1).trans (HM1.o q (by omega))
     cases hmk2:mk q with
     | true=>
      rw[hmk2]at q0;have HNX:=aa (HBK.o.hit hgo.1 (by omega) hgo.2 hmk2);clear hmk2;go_wp2_with fail
      go_roundw
      case rel=>exact⟨q-1,false,by omega,by rw[show((q-1:Nat):Int)=(q:Int)-1 by omega],rfl,HNX.o,trivial⟩
      case measure=>simp[intOf]; omega
     | false=>
      rw[hmk2]at q0;have HNX:=aa (HBK.o.miss hmk2);clear hmk2;go_wp2_with fail
      go_roundw
      case rel=>exact⟨q-1,b,by omega,by rw[show((q-1:Nat):Int)=(q:Int)-1 by omega],rfl,HNX.o,trivial⟩
      case measure=>simp[intOf]; omega
    ·have HPR:=aa (HBK.o.done hp1 (by omega));have HSU:=aa (Dg mk mn p);have hl40:l<1099511627775:=by omega
     have hz2:=HBR.o.size;have HZ:=aa (show ∀u∈[Value.int .i64 (p:Int)],u.oneCell'=true by simp[Value.oneCell'])
     cases b with
     | true=>
      have HSU2:=aa (show eG mk mn (p+1)=eG mk mn p++[p] by rw[HSU.o,if_pos HPR.o.symm])
      by_cases hq1:(1:Int)<=(q:Int)
      ·have hq2: ¬(p:Int)-(mn:Int)<(q:Int):=by omega
       clear hgo;go_wp2_with (at_builtin; go_loud (refine aA Tryz.appIntsM rfl _ _ rfl w1.heap.size (.slice ao l co) l ((eG mk mn p).map mg) rfl W2 [Value.int .i64 (p:Int)] _ rfl rfl HZ.o HO.o hl40 hz2 ?_); intro v' wc hown' hgrow' _ _; obtain⟨ae,ce,rfl,-,-⟩:=ai hown'; have HO5:=aa (show wc.ownsRow w1.heap.size 3 1 (.slice ae (l+1) ce) (l+1) ((eG mk mn (p+1)).map mg) by rw[HSU2.o,List.map_append]; exact hown'); have HB5:=aa (aF HBR.o HO.o hgrow' (Nat.le_refl _) hz2); clear hown' hgrow')
       exact⟨⟨p+1,l+1,ae,ce,by omega,by omega,by go_num,rfl,by rw[HSU2.o,List.length_append,<-HLN.o]; rfl,HO5.o,HB5.o⟩,by simp[intOf]; omega⟩
      ·clear hgo;go_wp2_with (at_builtin; go_loud (refine aA Tryz.appIntsM rfl _ _ rfl w1.heap.size (.slice ao l co) l ((eG mk mn p).map mg) rfl W2 [Value.int .i64 (p:Int)] _ rfl rfl HZ.o HO.o hl40 hz2 ?_); intro v' wc hown' hgrow' _ _; obtain⟨ae,ce,rfl,-,-⟩:=ai hown'; have HO5:=aa (show wc.ownsRow w1.heap.size 3 1 (.slice ae (l+1) ce) (l+1) ((eG mk mn (p+1)).map mg) by rw[HSU2.o,List.map_append]; exact hown'); have HB5:=aa (aF HBR.o HO.o hgrow' (Nat.le_refl _) hz2); clear hown' hgrow')
       exact⟨⟨p+1,l+1,ae,ce,by omega,by omega,by go_num,rfl,by rw[HSU2.o,List.length_append,<-HLN.o]; rfl,HO5.o,HB5.o⟩,by simp[intOf]; omega⟩
     | false=>
      have HSU2:=aa (show eG mk mn (p+1)=eG mk mn p by rw[HSU.o,if_neg (by rw[<-HPR.o]; decide)])
      by_cases hq1:(1:Int)<=(q:Int)
      ·have hq2: ¬(p:Int)-(mn:Int)<(q:Int):=by omega
       clear hgo;go_wp2_with fail;exact⟨⟨p+1,l,ao,co,by omega,by omega,by go_num,rfl,by rw[HSU2.o,<-HLN.o],by rw[HSU2.o]; exact HO.o,HBR.o⟩,by simp[intOf]; omega⟩
      ·clear hgo;go_wp2_with fail;exact⟨⟨p+1,l,ao,co,by omega,by omega,by go_num,rfl,by rw[HSU2.o,<-HLN.o],by rw[HSU2.o]; exact HO.o,HBR.o⟩,by simp[intOf]; omega⟩
  ·have hpe:p=n+1:=by omega
   subst hpe;have hlti: ¬((n:Int)+1<=(n:Int)):=by omega
   go_wp2_with fail;go_ret;exact⟨ao,co,by rw[<-HLN.o]; rfl,by rw[<-HLN.o]; exact Joins.ownsRow_le HO.o hz1,ab HB1.o HBR.o⟩
theorem ov {f:Nat->Bool} : ∀ {m k e:Nat},((List.range m).filter f)[k]? =some e->e<m/\f e=true/\((List.range m).filter f).take k=(List.range e).filter f
 | 0,k,e,h=>by simp at h
 | m+1,k,e,h=>by
  rw[List.range_succ,List.filter_append]at h ⊢
  by_cases hk:k<((List.range m).filter f).length
  ·rw[List.getElem?_append_left hk]at h;obtain⟨h1,h2,h3⟩:=ov h;exact⟨by omega,h2,by rw[List.take_append_of_le_length (by omega)]; exact h3⟩
  ·rw[List.getElem?_append_right (by omega)]at h
   by_cases hm:f m=true
   ·have h4:[m].filter f=[m]:=by simp[hm]
    rw[h4]at h ⊢;have hk0:k-((List.range m).filter f).length=0:=by
     have:=(List.getElem?_eq_some_iff.1 h).1;simp at this;omega
    rw[hk0]at h;simp only[List.getElem?_cons_zero,Option.some.injEq]at h;subst h;exact⟨by omega,hm,by rw[List.take_left' (by omega)]⟩
   ·have h4:[m].filter f=[]:=by simp[hm]
    rw[h4]at h;simp at h
def iW (mk:Nat->Bool) (mn n:Nat):List Nat:=eG mk mn (n+1)++[n]
def jM (E:List Nat) (k:Nat):Nat:=if k=0 then 0 else E.getD (k-1) 0
structure Jr (mk : Nat → Bool) (mn n s e : Nat) : Prop where
 le:s<=e
 top:e<=n
 stop:eR mk mn e=true\/e=n
 none: ∀r,s<r->r<e->eR mk mn r=false
theorem IY {mk:Nat->Bool} {mn n k e:Nat} (h:(iW mk mn n)[k]? =some e):Jr mk mn n (jM (iW mk mn n) k) e:=by
 have hlow: ∀j x,(eG mk mn (n+1))[j]? =some x->jM (iW mk mn n) (j+1)=x:=fun j x hx=>by
  unfold jM iW;rw[if_neg (by omega),Nat.add_sub_cancel,List.getD_eq_getElem?_getD,List.getElem?_append_left (List.getElem?_eq_some_iff.1 hx).1,hx]
  rfl
 have hle: ∀k,k<=(eG mk mn (n+1)).length->(∀r∈(eG mk mn (n+1)).take k,r<=jM (iW mk mn n) k)/\jM (iW mk mn n) k<=n/\(k=0\/jM (iW mk mn n) k∈(eG mk mn (n+1)).take k):=by
  intro k hk
  cases k with
  | zero=>exact⟨fun r hr=>by simp at hr,by show 0<=n; omega, .inl rfl⟩
  | succ j=>
   obtain⟨x,hx⟩: ∃x,(eG mk mn (n+1))[j]? =some x:=⟨_,List.getElem?_eq_getElem (by omega)⟩;rw[hlow j x hx];obtain⟨h1,h2,h3⟩:=ov hx;have h4:(eG mk mn (n+1)).take (j+1)=(List.range x).filter (fun p=>eR mk mn p)++[x]:=by
    rw[List.take_add_one,hx];unfold eG;rw[h3]; rfl
   rw[h4];refine⟨fun r hr=> ?_,by omega, .inr (by simp)⟩
   rcases List.mem_append.1 hr with hr | hr
   ·have:=List.mem_range.1 (List.mem_filter.1 hr).1;omega
   ·rw[List.mem_singleton.1 hr]; exact Nat.le_refl _
 have hkl:k<=(eG mk mn (n+1)).length:=by
  have:=(List.getElem?_eq_some_iff.1 h).1;unfold iW at this;simp at this;omega
 obtain⟨a1,a2,a3⟩:=hle k hkl
 by_cases hk:k<(eG mk mn (n+1)).length
 ·have hx:(eG mk mn (n+1))[k]? =some e:=by
   unfold iW at h;rw[List.getElem?_append_left hk]at h;exact h
  obtain⟨h1,h2,h3⟩:=ov hx;have h3':(eG mk mn (n+1)).take k=(List.range e).filter (fun p=>eR mk mn p):=h3;refine⟨?_,by omega, .inl h2,fun r hr1 hr2=> ?_⟩
  ·rcases a3 with a3 | a3
   ·rw[a3]; show 0<=e; omega
   ·rw[h3']at a3;have:=List.mem_range.1 (List.mem_filter.1 a3).1;omega
  ·cases hp:eR mk mn r with
   | false=>rfl
   | true=>
    have:=a1 r (by rw[h3']; exact List.mem_filter.2 ⟨List.mem_range.2 hr2,hp⟩);omega
 ·have hke:k=(eG mk mn (n+1)).length:=by omega
  have he:e=n:=by
   unfold iW at h;rw[List.getElem?_append_right (by omega),hke,Nat.sub_self]at h;simp only[List.getElem?_cons_zero,Option.some.injEq]at h;exact h.symm
  refine⟨by rw[he]; exact a2,by omega, .inr he,fun r hr1 hr2=> ?_⟩
  cases hp:eR mk mn r with
  | false=>rfl
  | true=>
   have:=a1 r (by
    rw[List.take_of_length_le (by omega)];unfold eG;exact List.mem_filter.2 ⟨List.mem_range.2 (by omega),hp⟩)
   omega
theorem wO (mk:Nat->Bool) (mn n:Nat):(iW mk mn n).length=(eG mk mn (n+1)).length+1:=by unfold iW; simp
theorem Cr (mk:Nat->Bool) (mn n:Nat):jM (iW mk mn n) (iW mk mn n).length=n:=by
 unfold jM;rw[wO,if_neg (by omega),Nat.add_sub_cancel,List.getD_eq_getElem?_getD];unfold iW;rw[List.getElem?_append_right (by omega),Nat.sub_self]
 rfl
theorem tS {E:List Nat} {k e:Nat} (h:E[k]? =some e):jM E (k+1)=e:=by
 unfold jM;rw[if_neg (by omega),Nat.add_sub_cancel,List.getD_eq_getElem?_getD,h]; rfl
theorem uh {mk:Nat->Bool} {mn mx n s:Nat} {L:List Nat} (h:sr mk mn mx n L s):L.length<=s:=by
 induction h with
 | nil=>simp
 | snoc _ h2 ih=>rw[List.length_append,List.length_singleton]; have:=h2.1; omega
structure uK (base g0 : Nat) (w3 wr : World) (o : Value) (L : List Nat) : Prop where
 own:wr.ownsRow base 3 1 o L.length (L.map mg)
 place: ∀k,o.ownBlock=some k->k=g0\/w3.heap.size<=k
 keep: ∀k,k<w3.heap.size->k≠g0->wr.heap[k]? =w3.heap[k]?
 below:Below base w3 wr
theorem uK.drew {base g0:Nat} {w3 wr:World} {o:Value} {L:List Nat} {nq:Nat} (h:uK base g0 w3 wr o L):uK base g0 w3 (wr.drewN nq) o L:=
 ⟨h.own,h.place,h.keep,h.below.trans ⟨rfl,rfl,rfl,Nat.le_refl _,fun _ _=>rfl⟩⟩
theorem uK.push {base g0:Nat} {w3 wr wc:World} {o o':Value} {L:List Nat} {x l:Nat} (h:uK base g0 w3 wr o L) (hl:l=L.length) (hb:base<=w3.heap.size) (h1:wc.ownsRow base 3 1 o' (l+1) (L.map mg++[mg x])) (h2:wr.grownBy wc o.ownBlock) (h3: ∀k,o'.ownBlock=some k->o.ownBlock=some k\/wr.heap.size<=k):uK base g0 w3 wc o' (L++[x]):=by
 subst hl;have hs:=h.below.size;refine⟨by rw[List.length_append,List.map_append]; exact h1,fun k hk=> ?_,fun k hk hne=> ?_,aF h.below h.own h2 (Nat.le_refl _) (Nat.le_trans hb hs)⟩
 ·rcases h3 k hk with h4 | h4
  ·exact h.place k h4
  ·exact .inr (by omega)
 ·refine(h2.block k (by omega) (fun e=> ?_)).trans (h.keep k hk hne)
  rcases h.place k e.symm with h5 | h5
  ·exact hne h5
  ·omega
theorem yX (S:Nat->Prop) (c:cF) (data:List UInt8) (v:Value) (w:World) (hc:dV c=true) (hs:c.seed<18446744073709551616) (hv:ar S w v data) (hl:data.length<=1048576):
  Calls Tryz.prog 157 #[dB c,v] w fun e w'=> ∃a cap,e= .returned (.slice a (kX (kI c data) c.mn.toNat c.mx.toNat data.length).length cap)/\w'.ownsRow w.heap.size 3 1 (.slice a (kX (kI c data) c.mn.toNat c.mx.toNat data.length).length cap) (kX (kI c data) c.mn.toNat c.mx.toNat data.length).length ((kX (kI c data) c.mn.toNat c.mx.toNat data.length).map mg)/\Below w.heap.size w w':=by
 obtain⟨hl0,a,cap,rfl,hn,hm,-⟩:=id hv;unfold maxLen at hm;obtain⟨n,hnd⟩: ∃n,n=data.length:=⟨_,rfl⟩;obtain⟨v1,v2,v3,v4,v5,v6,v7⟩:=fX.1 hc;obtain⟨mn,hmn⟩: ∃mn:Nat,mn=c.mn.toNat:=⟨_,rfl⟩;obtain⟨mx,hmx⟩: ∃mx:Nat,mx=c.mx.toNat:=⟨_,rfl⟩;have HMX:=aa (show c.mx=(mx:Int) by omega);have hmxb:1<=mx/\mx<=32768:=by omega
 obtain⟨mk,hmk⟩: ∃mk,mk=kI c data:=⟨_,rfl⟩;obtain⟨W,hW⟩: ∃W,W=w.alloc (.cells #[.int .i64 c.mn, .int .i64 c.mx, .int .i64 c.win, .int .i64 c.bits, .int .u64 (c.seed:Int)] 45):=⟨_,rfl⟩;have HB:=aa (show Below w.heap.size w W by rw[hW]; exact bH);have HX:=aa (show du c w.heap.size W by rw[hW]; exact heap_alloc_new w _);have HV:=aa (show ar S W (.slice a data.length cap) data by rw[hW]; exact aL.below hv (by omega) (bH))
 rw[<-hnd]at hl hn HV;rw[<-hmn,<-hmx,<-hmk,<-hnd];have HN:=aa hnd;have HMK:=aa hmk;have HMN:=aa hmn;have HC:=aa hc;have HS:=aa hs;obtain⟨W1,hW1⟩: ∃W1,W1=W.alloc (.cells #[] 3):=⟨_,rfl⟩;obtain⟨g0,hg0⟩: ∃g,g=W.heap.size:=⟨_,rfl⟩;have HO1:=aa (show W1.ownsRow W.heap.size 3 1 (.slice (some ⟨g0,0,none⟩) 0 0) 0 (([]:List Nat).map mg) by rw[hW1,hg0]; exact World.ownsRow_lit (e:=3) (size:=1) (base:=W.heap.size) W #[] 0 (Nat.le_refl _) (Nat.zero_le _) (by simp))
 have HB1:=aa (show Below W.heap.size W W1 by rw[hW1]; exact bH);have hz1:W1.heap.size=W.heap.size+1:=by rw[hW1]; simp
 clear hv hl0 hnd hmn hmk hc hs v1 v2 v3 v4 v5 v6 v7 hmx;unfold dB
 go_enter Tryz.func157,Tryz.ntmps157
 go_upto_region 1 with fail
 rw[<-hW];clear hW
 go_upto_region 2 with fail
 rw[<-hW1,<-hg0];clear hW1;have HG0:=aa hg0;have HX1:=aa (HX.o.below HB1.o);have HV1:=aa (show ar S W1 (.slice a n cap) data from aL.below HV.o (by omega) HB1.o);have hx0:=HX1.o;unfold du at hx0;obtain⟨c0,c1,c2,c3,c4,_⟩:=aj hx0;simp only[Nat.zero_add,Nat.reduceAdd]at c1 c2 c3 c4;clear hx0;go_wp2_with fail;clear c0 c1 c2 c3 c4;refine(sK S c data _ _ HC.o HS.o HV1.o (by rw[<-HN.o]; exact hl)).mono ?_
 rw[<-HN.o,<-HMK.o,<-HMN.o];rintro e w2 ⟨a2,c2,rfl,ho2,hb2⟩;obtain⟨l2,hl2⟩: ∃l,l=(eG mk mn (n+1)).length:=⟨_,rfl⟩;rw[<-hl2]at ho2 ⊢;have HL2:=aa hl2;have hl2n:=xN mk mn (n+1);rw[<-hl2]at hl2n;have HO2:=aa ho2;have HB2:=aa hb2;have hz2:=hb2.size;have hl40:l2<1099511627775:=by omega
 have HZ:=aa (show ∀u∈[Value.int .i64 (n:Int)],u.oneCell'=true by simp[Value.oneCell']);clear ho2 hb2 hl2 hg0;go_wp2_with (at_builtin; go_loud (refine aA Tryz.appIntsM rfl _ _ rfl W1.heap.size (.slice a2 l2 c2) l2 ((eG mk mn (n+1)).map mg) rfl w2 [Value.int .i64 (n:Int)] _ rfl rfl HZ.o HO2.o hl40 hz2 ?_); intro v3 w3 hown3 hg3 _ _; obtain⟨ge,c3,rfl⟩:=Joins.ownsRow_form hown3 (by omega); have HO3:=aa (show w3.ownsRow W1.heap.size 3 1 (.slice (some ⟨ge,0,none⟩) (l2+1) c3) (l2+1) ((iW mk mn n).map mg) by unfold iW; rw[List.map_append]; exact hown3); have HB3:=aa (aF HB2.o HO2.o hg3 (Nat.le_refl _) hz2); clear hown3 hg3)
 obtain⟨N,hN⟩: ∃N,N=(iW mk mn n).length:=⟨_,rfl⟩;have hNl:N=l2+1:=by rw[hN,wO,HL2.o]
 have HNN:=aa hN;rw[<-hNl]at HO3 ⊢;have hge:W1.heap.size<=ge/\ge<w3.heap.size:=HO3.o.lt ge rfl;have hgc:N<=c3:=by
  obtain⟨a0,c0,he,h1,h2⟩:=ai HO3.o
  cases he
  exact h1
 have HCI:=aa (show uK W.heap.size g0 w3 w3 (.slice (some ⟨g0,0,none⟩) 0 0) []from
  ⟨aQ HO1.o HB3.o,fun k hk=> .inl (by simp[Value.ownBlock]at hk; exact hk.symm),fun k _ _=>rfl,Below.refl _ _⟩)
 have HE3:=aa (show ∀(i e:Nat),(iW mk mn n)[i]? =some e->w3.cell? ⟨ge,i,none⟩=some (.int .i64 (e:Int))from fun i e h=>by
  have hi:=(List.getElem?_eq_some_iff.1 h).1;rw[HO3.o.cellAt i (by omega),List.getElem?_map,h]; rfl)
 have HX3:=aa (HX1.o.below HB3.o);have hgne:ge≠g0:=by have:=HG0.o; omega
 have hxne:w.heap.size≠g0:=by have:=HG0.o; have:=lt_of_block (show W.heap[w.heap.size]? =_ from HX.o); omega
 have hbz:W.heap.size<=w3.heap.size:=by have:=HB3.o.size; omega
 have hNb:N<=1048578:=by omega
 have HBA:=aa (show Below w.heap.size w w3 from ab HB.o (HB1.o.trans (HB3.o.mono (by omega))));clear hN hNl
 go_loopw [5,6,8] (fun o f i wr=> ∃(k s l:Nat) (L:List Nat) (ao:Option Addr) (co:Nat),k<=N/\i= .int .i64 (k:Int)/\f= .int .i64 (s:Int)/\o= .slice ao l co/\l=L.length/\s=jM (iW mk mn n) k/\sr mk mn mx n L s/\uK W.heap.size g0 w3 wr (.slice ao l co) L) (fun _ _ i _=>N-(intOf i).toNat)
 case atStart=>exact⟨0,0,0,[],_,_,Nat.zero_le _,rfl,rfl,rfl,rfl,rfl, .nil,HCI.o⟩
 case round=>
  obtain⟨k,s,l,L,ao,co,hk,rfl,rfl,rfl,hll,hsl,hpre,hci⟩:=hrel;have HLL:=aa hll;have HSL:=aa hsl;have HPR:=aa hpre;have HCR:=aa hci;clear hll hsl hpre hci HCI
  by_cases hlt:k<N
  ·obtain⟨e,he⟩: ∃e,(iW mk mn n)[k]? =some e:=⟨_,List.getElem?_eq_getElem (show k<(iW mk mn n).length by rw[<-HNN.o]; exact hlt)⟩;have HEO:=aa (IY he);have HLS:=aa (tS he);have HCE:=aa (HE3.o k e he);have hse:s<=e:=by rw[HSL.o]; exact HEO.o.le
   have hen:e<=n:=HEO.o.top;clear he;go_wp2_with fail
   go_loopw [5,6] (fun o f wq=> ∃(s' l':Nat) (L':List Nat) (ao':Option Addr) (co':Nat),s<=s'/\s'<=e/\f= .int .i64 (s':Int)/\o= .slice ao' l' co'/\l'=L'.length/\sr mk mn mx n L' s'/\uK W.heap.size g0 w3 wq (.slice ao' l' co') L') (fun _ f _=>e-(intOf f).toNat)
   case atStart=>exact⟨s,l,L,ao,co,Nat.le_refl _,hse,rfl,rfl,HLL.o,HPR.o,HCR.o⟩
   case round=>
    obtain⟨s',l',L',ao',co',hs1,hs2,rfl,rfl,hll,hpre,hci⟩:=hrel;have HLQ:=aa hll;have HPQ:=aa hpre;have HCQ:=aa hci;have q0:wr.cell? ⟨ge,k,none⟩=some (.int .i64 (e:Int)):=by
     rw[<-HCE.o];unfold World.cell?;rw[HCQ.o.keep ge hge.2 hgne]
    have hkc:k<c3:=by omega
    have hkN:(k:Int)<(N:Int):=by omega
    clear hll hpre hci
    by_cases hlt2:s'<e
    ·have hlti:(s':Int)<(e:Int):=by omega
     have hx1:du c w.heap.size wr:=by
      unfold du;rw[HCQ.o.keep w.heap.size (lt_of_block HX3.o) hxne];exact HX3.o
     unfold du at hx1;have c1:=aB (k:=1) hx1;simp only[List.getElem?_toArray,vN]at c1;rw[HMX.o]at c1;clear hx1;go_wp2_with fail
     go_quiet (fail)
     obtain⟨z,hz⟩: ∃z,z=min (s'+mx) e:=⟨_,rfl⟩;have hmz:min ((s':Int)+(mx:Int)) (e:Int)=(z:Int):=by omega
     rw[hmz];have HST:=aa (show uR mk mn mx n s' z by
      rw[hz];exact FO hmxb.1 hlt2 hen HEO.o.stop (fun r h1 h2=>HEO.o.none r (by rw[<-HSL.o]; omega) h2))
     have hzb:s'<z/\z<=e:=by omega
     have HCD:=aa (HCQ.o.drew (nq:=nq));obtain⟨W5,hW5⟩: ∃y,y=wr.drewN nq:=⟨_,rfl⟩;rw[<-hW5]at HCD ⊢;have HO5:=aa (show W5.ownsRow W.heap.size 3 1 (.slice ao' l' co') l' (L'.map mg) by rw[HLQ.o]; have h1:=HCD.o.own; rw[<-HLQ.o]at h1 ⊢; exact h1);have hz5:W.heap.size<=W5.heap.size:=Nat.le_trans hbz HCD.o.below.size;have hl4:l'<1099511627775:=by
      have h1:=uh HPQ.o;have h2:=HLQ.o;omega
     have HZ2:=aa (show ∀u∈[Value.int .i64 (z:Int)],u.oneCell'=true by simp[Value.oneCell']);clear hW5 q0 c1 hz hmz;go_wp2_with (at_builtin; go_loud (refine aA Tryz.appIntsM rfl _ _ rfl W.heap.size (.slice ao' l' co') l' (L'.map mg) rfl W5 [Value.int .i64 (z:Int)] _ rfl rfl HZ2.o HO5.o hl4 hz5 ?_); intro v6 w6 hown6 hg6 _ hpl6; obtain⟨a6,c6,rfl,-,-⟩:=ai hown6; have HC6:=aa (HCD.o.push HLQ.o hbz hown6 hg6 hpl6); clear hown6 hg6 hpl6)
     go_roundw
     case rel=>exact⟨z,l'+1,L'++[z],a6,c6,by omega,by omega,rfl,rfl,by rw[List.length_append,<-HLQ.o]; rfl,HPQ.o.snoc HST.o,HC6.o⟩
     case measure=>simp[intOf]; omega
    ·have hse2:s'=e:=by omega
     subst hse2;have hlti: ¬(s':Int)<(s':Int):=by omega
     go_wp2_with fail;exact⟨⟨k+1,s',l',L',ao',co',by omega,by go_num,rfl,rfl,HLQ.o,by rw[HLS.o],HPQ.o,HCQ.o⟩,by simp[intOf]; omega⟩
  ·have hkN:k=N:=by omega
   subst hkN;have HFI:=aa (show L=kX mk mn mx n by
    have h1:s=n:=by rw[HSL.o,HNN.o,Cr]
    have h2:=HPR.o;rw[h1]at h2;exact h2.det jI)
   go_wp2_with fail;go_ret;exact⟨ao,co,by rw[<-HFI.o,<-HLL.o]; rfl,by rw[<-HFI.o]; have h1:=HCR.o.own; rw[<-HLL.o]at h1 ⊢; exact Joins.ownsRow_le h1 HB.o.size,HBA.o.trans (HCR.o.below.mono HB.o.size)⟩
theorem xx {E:List Nat} {x k:Nat} (h:k<=E.length):jM (E++[x]) k=jM E k:=by
 unfold jM
 split
 ·rfl
 ·rw[List.getD_eq_getElem?_getD,List.getD_eq_getElem?_getD,List.getElem?_append_left (by omega)]
theorem tR (E:List Nat):jM E E.length=E.getLast?.getD 0:=by
 unfold jM
 cases E with
 | nil=>rfl
 | cons x E=>rw[if_neg (by simp),List.getD_eq_getElem?_getD,List.getLast?_eq_getElem?]
theorem CK {E:List Nat} {k:Nat} (h:k<=E.length):(E.take k).getLast?.getD 0=jM E k:=by
 have h1:=tR (E.take k);rw[List.length_take,Nat.min_eq_left h]at h1;rw[<-h1];unfold jM
 split
 ·rfl
 ·rw[List.getD_eq_getElem?_getD,List.getD_eq_getElem?_getD,List.getElem?_take,if_pos (by omega)]
theorem Fx {mk:Nat->Bool} {mn mx n s:Nat} {E:List Nat} (h:sr mk mn mx n E s): ∀(i e:Nat),E[i]? =some e->jM E i<e/\e<=n:=by
 induction h with
 | nil=>intro i e h; simp at h
 | snoc h1 h2 ih=>
  rename_i l s q;intro i e h
  by_cases hi:i<l.length
  ·rw[List.getElem?_append_left hi]at h;rw[xx (by omega)];exact ih i e h
  ·have hlt:=(List.getElem?_eq_some_iff.1 h).1;rw[List.length_append,List.length_singleton]at hlt;have hie:i=l.length:=by omega
   subst hie;rw[List.getElem?_append_right (Nat.le_refl _),Nat.sub_self]at h;simp only[List.getElem?_cons_zero,Option.some.injEq]at h;subst h;rw[xx (Nat.le_refl _),tR];have h3:=h1.last;unfold gg at h3;rw[h3];exact⟨h2.1,h2.2.1⟩
structure Ej (base g0 : Nat) (w2 wr : World) (o : Value) (ys : List (Value × List UInt8)) : Prop where
 own:wr.ownsRow base 29 1 o ys.length (ys.map Prod.fst)
 dat: ∀y∈ys,wr.ownsRow base 5 1 y.1 y.2.length (y.2.map ak)
 place: ∀k,o.ownBlock=some k->k=g0\/w2.heap.size<=k
 keep: ∀k,k<w2.heap.size->k≠g0->wr.heap[k]? =w2.heap[k]?
 below:Below base w2 wr
theorem Ej.push {base g0:Nat} {w2 wr wb wd:World} {o o' pv:Value} {ys:List (Value×List UInt8)} {x:List UInt8} {l:Nat} (h:Ej base g0 w2 wr o ys) (hl:l=ys.length) (hb:base<=w2.heap.size) (hwb:Below wr.heap.size wr wb) (hp:wb.ownsRow wr.heap.size 5 1 pv x.length (x.map ak))
  (h1:wd.ownsRow base 29 1 o' (l+1) (ys.map Prod.fst++[pv])) (h2:wb.grownBy wd o.ownBlock) (h3: ∀k,o'.ownBlock=some k->o.ownBlock=some k\/wb.heap.size<=k):Ej base g0 w2 wd o' (ys++[(pv,x)]):=by
 subst hl;have hs:=h.below.size;have hs2:=hwb.size;have hob:wb.ownsRow base 29 1 o ys.length (ys.map Prod.fst):=aQ h.own hwb;refine⟨by rw[List.length_append,List.map_append]; exact h1,fun y hy=> ?_,fun k hk=> ?_,fun k hk hne=> ?_, ?_⟩
 ·rcases List.mem_append.1 hy with hy | hy
  ·exact cS (aQ (h.dat y hy) hwb) hob h2 (by decide)
  ·rw[List.mem_singleton]at hy;subst hy;exact cS (Joins.ownsRow_le hp (by omega)) hob h2 (by decide)
 ·rcases h3 k hk with h4 | h4
  ·exact h.place k h4
  ·exact .inr (by omega)
 ·refine((h2.block k (by omega) (fun e=> ?_)).trans (hwb.block k (by omega))).trans (h.keep k hk hne)
  rcases h.place k e.symm with h5 | h5
  ·exact hne h5
  ·omega
 ·exact aF (h.below.trans (hwb.mono (by omega))) hob h2 (Nat.le_refl _) (by omega)
theorem yk (S:Nat->Prop) (c:cF) (data:List UInt8) (v:Value) (w:World) (hc:dV c=true) (hs:c.seed<18446744073709551616) (hv:ar S w v data) (hl:data.length<=1048576):
  Calls Tryz.prog 125 #[dB c,v] w fun e w'=> ∃(a:Option Addr) (cap:Nat) (ys:List (Value×List UInt8)),e= .returned (.slice a ys.length cap)/\ys.map Prod.snd=cN c data/\w'.ownsRow w.heap.size 29 1 (.slice a ys.length cap) ys.length (ys.map Prod.fst)/\(∀y∈ys,w'.ownsRow w.heap.size 5 1 y.1 y.2.length (y.2.map ak))/\Below w.heap.size w w':=by
 obtain⟨hl0,a,cap,rfl,hn,hm,-⟩:=id hv;unfold maxLen at hm;obtain⟨n,hnd⟩: ∃n,n=data.length:=⟨_,rfl⟩;obtain⟨E,hE⟩: ∃E,E=kX (kI c data) c.mn.toNat c.mx.toNat data.length:=⟨_,rfl⟩;have HCP:=aa (show cN c data=dY data 0 E by rw[hE]; rfl);have HPE:=aa (show sr (kI c data) c.mn.toNat c.mx.toNat data.length E data.length by rw[hE]; exact jI);obtain⟨W,hW⟩: ∃W,W=w.alloc (.cells #[.int .i64 c.mn, .int .i64 c.mx, .int .i64 c.win, .int .i64 c.bits, .int .u64 (c.seed:Int)] 45):=⟨_,rfl⟩
 have HB:=aa (show Below w.heap.size w W by rw[hW]; exact bH);have HX:=aa (show du c w.heap.size W by rw[hW]; exact heap_alloc_new w _);have HVW:=aa (show ar S w (.slice a data.length cap) data from hv);rw[<-hnd]at hl hn HVW;rw[<-hnd];have HN:=aa hnd;have HEE:=aa hE;have HC:=aa hc;have HS:=aa hs;obtain⟨W1,hW1⟩: ∃W1,W1=W.alloc (.cells #[] 29):=⟨_,rfl⟩;obtain⟨g0,hg0⟩: ∃g,g=W.heap.size:=⟨_,rfl⟩
 have HO1:=aa (show W1.ownsRow w.heap.size 29 1 (.slice (some ⟨g0,0,none⟩) 0 0) 0 (([]:List (Value×List UInt8)).map Prod.fst) by rw[hW1,hg0]; exact Joins.ownsRow_le (World.ownsRow_lit (e:=29) (size:=1) (base:=W.heap.size) W #[] 0 (Nat.le_refl _) (Nat.zero_le _) (by simp)) HB.o.size);have HB1:=aa (show Below W.heap.size W W1 by rw[hW1]; exact bH);have hz1:W1.heap.size=W.heap.size+1:=by rw[hW1]; simp
 clear hv hl0 hnd hE hc hs;unfold dB
 go_enter Tryz.func125,Tryz.ntmps125
 go_upto_region 1 with fail
 rw[<-hW];clear hW
 go_upto_region 2 with fail
 rw[<-hW1,<-hg0];clear hW1;have HG0:=aa hg0;have HX1:=aa (HX.o.below HB1.o);have HBW1:=aa (ab HB.o HB1.o);have HV1:=aa (show ar S W1 (.slice a n cap) data from aL.below HVW.o (by omega) HBW1.o);have hx0:=HX1.o;unfold du at hx0;obtain⟨c0,c1,c2,c3,c4,_⟩:=aj hx0;simp only[Nat.zero_add,Nat.reduceAdd]at c1 c2 c3 c4;clear hx0;go_wp2_with fail;clear c0 c1 c2 c3 c4
 refine(yX S c data _ _ HC.o HS.o HV1.o (by rw[<-HN.o]; exact hl)).mono ?_;rw[<-HEE.o];rintro e w2 ⟨a2,c2,rfl,ho2,hb2⟩;obtain⟨N,hN⟩: ∃l,l=E.length:=⟨_,rfl⟩;rw[<-hN]at ho2 ⊢;have HNN:=aa hN;have hNn:N<=n:=by rw[hN,HN.o]; exact uh HPE.o
 have hc2:N<=c2:=by
  obtain⟨a0,c0,he,h1,h2⟩:=ai ho2
  cases he
  exact h1
 have HE2:=aa (show ∀(i e:Nat),E[i]? =some e-> ∃g,a2=some ⟨g,0,none⟩/\g<w2.heap.size/\g≠g0/\w2.cell? ⟨g,i,none⟩=some (.int .i64 (e:Int))from fun i e h=>by
  have hi:=(List.getElem?_eq_some_iff.1 h).1;obtain⟨g,c',he⟩:=Joins.ownsRow_form ho2 (by omega)
  cases he
  have h1:=ho2.lt g rfl;refine⟨g,rfl,h1.2,by have:=HG0.o; omega, ?_⟩;rw[ho2.cellAt i (by omega),List.getElem?_map,h]; rfl)
 have HCI:=aa (show Ej w.heap.size g0 w2 w2 (.slice (some ⟨g0,0,none⟩) 0 0) []from
  ⟨aQ HO1.o hb2,(fun y hy=>by cases hy),fun k hk=> .inl (by simp[Value.ownBlock]at hk; exact hk.symm),fun k _ _=>rfl,Below.refl _ _⟩)
 have HBA:=aa (show Below w.heap.size w w2 from ab HBW1.o hb2);have hbz:w.heap.size<=w2.heap.size:=HBA.o.size;clear ho2 hb2 hN hg0;go_wp2_with fail
 go_loopw [5,6,8] (fun o f i wr=> ∃(k s l:Nat) (ys:List (Value×List UInt8)) (ao:Option Addr) (co:Nat),k<=N/\i= .int .i64 (k:Int)/\f= .int .i64 (s:Int)/\o= .slice ao l co/\l=ys.length/\l=k/\s=jM E k/\ys.map Prod.snd=dY data 0 (E.take k)/\Ej w.heap.size g0 w2 wr (.slice ao l co) ys) (fun _ _ i _=>N-(intOf i).toNat)
 case atStart=>exact⟨0,0,0,[],_,_,Nat.zero_le _,rfl,rfl,rfl,rfl,rfl,rfl,rfl,HCI.o⟩
 case round=>
  obtain⟨k,s,l,ys,ao,co,hk,rfl,rfl,rfl,hll,hlk,hsl,hys,hci⟩:=hrel;have HLL:=aa hll;have HLK:=aa hlk;have hl40:l<1099511627775:=by omega
  have HSL:=aa hsl;have HYS:=aa hys;have HCR:=aa hci;clear hll hlk hsl hys hci HCI
  by_cases hlt:k<N
  ·obtain⟨e,he⟩: ∃e,E[k]? =some e:=⟨_,List.getElem?_eq_getElem (show k<E.length by rw[<-HNN.o]; exact hlt)⟩;obtain⟨g,rfl,hgl,hgne,hcell⟩:=HE2.o k e he;obtain⟨hse,hen⟩:=Fx HPE.o k e he;rw[<-HSL.o]at hse;have HLS:=aa (tS he);have HTK:=aa (show E.take (k+1)=E.take k++[e]from bS he);have hkE:k<=E.length:=by have:=HNN.o; omega
   have HLT:=aa (CK hkE);have q0:wr.cell? ⟨g,k,none⟩=some (.int .i64 (e:Int)):=by
    rw[<-hcell];unfold World.cell?;rw[HCR.o.keep g hgl hgne]
   have HDR:=aa (show ar S wr (.slice a n cap) data from aL.below HVW.o (by omega) (HBA.o.trans HCR.o.below));obtain⟨sa,sc,hsl2,hsb⟩:=lU HDR.o hse hen;obtain⟨x,hx⟩: ∃x,x=dy data s e:=⟨_,rfl⟩;obtain⟨m,hmx⟩: ∃m,m=x.length:=⟨_,rfl⟩;rw[<-hx,<-hmx]at hsl2 hsb;have HXX:=aa hx;have HMX:=aa hmx;have hmn:m<=n:=by rw[hmx,hx]; unfold dy; rw[List.length_take,List.length_drop,<-HN.o]; omega
   have HSB:=aa hsb;have HE0:=aa hcell;clear he hcell hx hmx hsb;have hkc:k<c2:=by omega
   have hkN:(k:Int)<(N:Int):=by omega
   have HB4:=aa (show Below wr.heap.size wr (wr.alloc (.cells #[] 5))from bH);have HO4:=aa (show(wr.alloc (.cells #[] 5)).ownsRow wr.heap.size 5 1 (.slice (some ⟨wr.heap.size,0,none⟩) 0 0) 0 []from World.ownsRow_lit (e:=5) (size:=1) (base:=wr.heap.size) wr #[] 0 (Nat.le_refl _) (Nat.zero_le _) (by simp));have HP4:=aa (show aL S (wr.alloc (.cells #[] 5)) 1 (.slice sa m sc) m (x.map ak) by have h1:=HSB.o; unfold ar at h1; rw[<-HMX.o]at h1; exact aL.below h1 (by omega) HB4.o)
   have hz4:wr.heap.size<=(wr.alloc (.cells #[] 5)).heap.size:=HB4.o.size;have hm40:0+m<1099511627775:=by omega
   have q4:(wr.alloc (.cells #[] 5)).cell? ⟨g,k,none⟩=some (.int .i64 (e:Int)):=(HB4.o.cell (p:=⟨g,k,none⟩) (aP q0)).trans q0;have HOW:=aa (show wr.ownsRow w.heap.size 29 1 (.slice ao l co) l (ys.map Prod.fst) by have h1:=HCR.o.own; rw[<-HLL.o]at h1; exact h1);have hzr:w.heap.size<=wr.heap.size:=Nat.le_trans hbz HCR.o.below.size;go_wp2_with (at_builtin; first
    | (refine bD Tryz.appBytes rfl _ _ rfl wr.heap.size (.slice (some ⟨wr.heap.size,0,none⟩) 0 0) 0 [] rfl HO4.o (.slice sa m sc) m (x.map ak) rfl HP4.o (ci x) hm40 hz4 ?_; intro v5 w5 hown5 hg5; rw[Nat.zero_add,List.nil_append]at hown5; obtain⟨a5,c5,rfl,-,-⟩:=ai hown5; have HP5:=aa hown5; have HB5:=aa (aF HB4.o HO4.o hg5 (Nat.le_refl _) hz4); have HOV:=aa (aQ HOW.o HB5.o); have hz5:w.heap.size<=w5.heap.size:=Nat.le_trans hzr HB5.o.size; have q5:w5.cell? ⟨g,k,none⟩=some (.int .i64 (e:Int)):=(HB5.o.cell (p:=⟨g,k,none⟩) (aP q0)).trans q0; have HZ5:=aa (show ∀u∈[Value.slice a5 m c5],u.oneCell'=true by simp[Value.oneCell']); clear hown5 hg5)
    | (go_loud (refine aA Tryz.appChunks rfl _ _ rfl w.heap.size (.slice ao l co) l (ys.map Prod.fst) rfl w5 [Value.slice a5 m c5] _ rfl rfl HZ5.o HOV.o hl40 hz5 ?_); intro v6 w6 hown6 hg6 _ hpl6; obtain⟨a6,c6,rfl,-,-⟩:=ai hown6; have HC6:=aa (HCR.o.push (pv:= .slice a5 m c5) (x:=x) HLL.o hbz HB5.o (by rw[<-HMX.o]; exact HP5.o) hown6 hg6 hpl6); have q6:w6.cell? ⟨g,k,none⟩=some (.int .i64 (e:Int)):=(by rw[<-HE0.o]; unfold World.cell?; rw[HC6.o.keep g hgl hgne]); clear hown6 hg6 hpl6))
   have HPX:=aa (show(ys++[((Value.slice a5 m c5:Value),x)]).map Prod.snd=dY data 0 (E.take (k+1)) by
    rw[HTK.o,fU,HLT.o,<-HSL.o,<-HXX.o,<-HYS.o,List.map_append]; rfl)
   exact⟨⟨k+1,e,l+1,ys++[(.slice a5 m c5,x)],a6,c6,by omega,by go_num,rfl,rfl,by rw[List.length_append,<-HLL.o]; rfl,by rw[HLK.o],by rw[HLS.o],HPX.o,HC6.o⟩,by simp[intOf]; omega⟩
  ·have hkN:k=N:=by omega
   subst hkN;have HFI:=aa (show ys.map Prod.snd=cN c data by rw[HYS.o,HNN.o,List.take_length,HCP.o]);go_wp2_with fail;go_ret;exact⟨ao,co,ys,by rw[<-HLL.o]; rfl,HFI.o,(by have h1:=HCR.o.own; rw[HLL.o]at h1; exact h1),HCR.o.dat,HBA.o.trans HCR.o.below⟩
end Go.Proofs.YtpffpjbkbaleiaaGreatDoor
