/- Texts of this proof, one after the other: R16A, R16B, R16C, R16D, RbE, RgA, LdP, RfsP, NumP, Small, RgC, BuiltA, BlbP, LawA, LkP, Few, Ld24B, Ld24C, LawLod, LawLuk, LawRet, Frame, OpM. -/
import Derived.Test.YtpffpjbkbaleiaaGreatDoorCReturnsH
set_option maxRecDepth 100000
set_option maxHeartbeats 8000000
namespace Go.Proofs.YtpffpjbkbaleiaaGreatDoor
open Go Go.RowKit
def rz (c:fL) (data:List UInt8) (n k:Nat):List Value:=(List.range (n+1)).map fun p=> .bool (decide (p<k) && qf c data p)
theorem tf (c:fL) (data:List UInt8) (n k:Nat):(rz c data n k).length=n+1:=by simp[rz]
theorem pk (c:fL) (data:List UInt8) {n k p:Nat} (h:p<=n):(rz c data n k)[p]? =some (.bool (decide (p<k) && qf c data p)):=by
 unfold rz;rw[bn,List.getElem?_range (by omega)]
 rfl
theorem LQ (c:fL) (data:List UInt8) {n k:Nat} (h:k<=n):(rz c data n k).set k (.bool (qf c data k))=rz c data n (k+1):=by
 apply List.ext_getElem?
 intro p;rw[List.getElem?_set]
 by_cases hp:k=p
 ·subst hp;rw[if_pos rfl,if_pos (by rw[tf]; omega),pk c data h];simp
 ·rw[if_neg hp]
  by_cases hn:p<=n
  ·rw[pk c data hn,pk c data hn,show decide (p<k)=decide (p<k+1) by rw[jb]; omega]
  ·rw[dE (by rw[tf]; omega),dE (by rw[tf]; omega)]
theorem Jo (c:fL) (data:List UInt8) (n:Nat):rz c data n 0=List.replicate (n+1) (.bool false):=by
 apply List.ext_getElem?
 intro p
 by_cases hn:p<=n
 ·rw[pk c data hn,List.getElem?_replicate,if_pos (by omega)];simp
 ·rw[dE (by rw[tf]; omega),dE (by simp; omega)]
theorem Pd {c:fL} {data:List UInt8} {p:Nat} (h:p<c.win.toNat):qf c data p=false:=by
 unfold qf GE;rw[bm];simp;intro h2;omega
theorem xc {c:fL} {data:List UInt8} {n k:Nat} (h:k<=c.win.toNat):rz c data n k=rz c data n 0:=by
 unfold rz;refine List.map_congr_left fun p _=> ?_
 by_cases hp:p<k
 ·rw[Pd (by omega)]; simp
 ·simp[hp]
def iQ (c:fL) (b:Nat) (w:World):Prop:=w.heap[b]? =some (.cells #[.int .i64 c.mn, .int .i64 c.mx, .int .i64 c.win, .int .i64 c.bits, .int .u64 (c.seed:Int)] 45 (0,0))
theorem iQ.below {c:fL} {b:Nat} {w w':World} (h:iQ c b w) (hb:Below w.heap.size w w'):iQ c b w':=dV hb h
theorem EU (w:World) (n:Nat) (hn:n<=16777216): ∃w',(Instr.makeSlice 242 (.int .i64 (n:Int)) (.int .i64 (n:Int))).run Tryz.prog w= .ok (.slice (some ⟨w.heap.size,0,none⟩) n n) w'/\
  w'.ownsRow w.heap.size 4 1 (.slice (some ⟨w.heap.size,0,none⟩) n n) n (List.replicate n (.bool false))/\w.grownBy w' none:=by
 have h1:(Tryz.prog.info? 4).map (fun i=>(i.bytes,i.size))=some (1,1):=by kernel_rfl
 have h2:(Tryz.prog.info? 4).bind (fun i=>i.zero)=some (.bool false):=by kernel_rfl
 cases hi:Tryz.prog.info? 4 with
 | none=>rw[hi]at h1; cases h1
 | some i=>
  rw[hi]at h1 h2;simp only[ep,br,cW]at h1;obtain⟨w',k1,k2,k3⟩:=run_make_full (P:=Tryz.prog) w w.heap.size 242 4 i (.bool false) 1 Tryz.underlying242 hi h2 h1.2 .i64 .i64 n (by rw[h1.1]; omega) (by unfold maxLen; omega) (au _);refine⟨w',k1, ?_,k3⟩;rw[kf]at k2;rw[show(Value.bool false).cells= #[.bool false]from rfl,toList_madeCells_one]at k2
  exact k2
theorem Kt {data:List UInt8} {p W:Nat} (hp:p<=data.length) (hW:W<=p):iT data (p-W) p=od W (data.take p):=by
 unfold iT od;rw[bm,fm hp,show p-(p-W)=W by omega,List.drop_take,show p-(p-W)=W by omega]
theorem Bc (S:Nat->Prop) (c:fL) (data:List UInt8) (v:Value) (w:World) (hc:jJ c=true) (hs:c.seed<18446744073709551616) (hv:bG S w v data) (hl:data.length<=1048576):
  Calls Tryz.prog 189 #[ko c,v] w fun e w'=> ∃g cap,e= .returned (.slice (some ⟨g,0,none⟩) (data.length+1) cap)/\w'.ownsRow w.heap.size 4 1 (.slice (some ⟨g,0,none⟩) (data.length+1) cap) (data.length+1) (rz c data data.length (data.length+1))/\Below w.heap.size w w':=by
 obtain⟨hZ,a,cap,rfl,hn,hm,-⟩:=id hv;unfold maxLen at hm;obtain⟨n,hz⟩: ∃n,n=data.length:=⟨_,rfl⟩;obtain⟨v1,v2,v3,v4,v5,v6,v7⟩:=lM.1 hc;obtain⟨wn,hD⟩: ∃wn:Nat,wn=c.win.toNat:=⟨_,rfl⟩;have hM:c.win=(wn:Int):=by omega
 obtain⟨W,hW⟩: ∃W,W=w.alloc (.cells #[.int .i64 c.mn, .int .i64 c.mx, .int .i64 c.win, .int .i64 c.bits, .int .u64 (c.seed:Int)] 45):=⟨_,rfl⟩;have HB:=an (show Below w.heap.size w W by rw[hW]; exact eN);have HX:=an (show iQ c w.heap.size W by rw[hW]; exact aH w _);have HV:=an (show bG S W (.slice a data.length cap) data by rw[hW]; exact cE.below hv (by omega) (eN))
 rw[<-hz]at hl hn HV ⊢;have HN:=an hz;have hr:=an hD;have h9:W.heap.size=w.heap.size+1:=by rw[hW]; simp
 have HS:=an hs;obtain⟨W1,hJ,hg,hw⟩:=EU W (n+1) (by omega);have HO:=an (show W1.ownsRow w.heap.size 4 1 (.slice (some ⟨W.heap.size,0,none⟩) (n+1) (n+1)) (n+1) (rz c data n wn) by
  rw[xc (by rw[hD]; exact au _),Jo];exact iU hg (by omega))
 have h4:=an (HB.o.trans ((jt hw).mono (by omega)));have hI:=an (jt hw);have hf:(Instr.makeSlice 242 (.int .i64 ((n:Int)+1)) (.int .i64 ((n:Int)+1))).run Tryz.prog W= .ok (.slice (some ⟨W.heap.size,0,none⟩) (n+1) (n+1)) W1:=by
  rw[show((n:Int)+1)=((n+1:Nat):Int) by omega]; exact hJ
 obtain⟨gb,hu⟩: ∃gb,gb=W.heap.size:=⟨_,rfl⟩;rw[<-hu]at HO hf;have hF:=an hu;have hd:=an hM;clear hJ hg hw hu hz hD hs hZ hv hM;unfold ko
 go_enter Tryz.func189,Tryz.ntmps189
 go_upto_region 1 with fail
 rw[<-hW];clear hW;have hH:=an (HX.o.below hI.o)
 go_upto_region 2 with fail
 clear hf;have ha:=hH.o;unfold iQ at ha;obtain⟨c0,c1,c2,c3,c4,_⟩:=aT ha;clear ha;go_wp2_with fail;clear c0 c1 c2 c3 c4
 go_loopw [6] (fun i wr=> ∃p:Nat,wn<=p/\p<=max wn (n+1)/\i= .int .i64 (p:Int)/\wr.ownsRow w.heap.size 4 1 (.slice (some ⟨gb,0,none⟩) (n+1) (n+1)) (n+1) (rz c data n p)/\iQ c w.heap.size wr/\Below W.heap.size W wr) (fun i _=>n+1-(intOf i).toNat)
 case atStart=>exact⟨wn,au _,by omega,by rw[hd.o],HO.o,hH.o,hI.o⟩
 case round=>
  obtain⟨p,h2,Hb,rfl,ho,hx,hb⟩:=hrel;have hG:=an ho;have hU:=an hx;have hk:=an hb;clear ho hx hb HO
  by_cases hy:p<=n
  ·obtain⟨W2,hX⟩: ∃y:World,y=wr:=⟨_,rfl⟩;subst hX;obtain⟨A,hA⟩: ∃A,A=p-wn:=⟨_,rfl⟩;have h7:(p:Int)-(wn:Int)=(A:Int):=by omega
   have h8:IntKind.i64.wrap (A:Int)=(A:Int):=by rw[bF]; omega
   have hT:=an (show bG S W2 (.slice a n cap) data from cE.below HV.o (by omega) hk.o);have Hd:1<=wn:=by have:=hd.o; omega
   have hC:wn<=64:=by have:=hd.o; omega
   obtain⟨sa,sc,h3,hB⟩:=ro hT.o (s:=A) (e:=p) (by omega) (by rw[<-HN.o]; exact hy);have hq:=an (show iT data A p=od wn (data.take p) by rw[hA]; exact Kt (by rw[<-HN.o]; exact hy) h2);have hL:(iT data A p).length=wn:=by rw[hq.o,oe,bm,<-HN.o]; omega
   rw[hL]at h3 hB;have hR:=an hB;clear hB hL hA;have Ha:(p:Int)<=(n:Int):=by omega
   go_upto_region 5 with fail
   have Hc:(p:Int)<(n:Int)+1:=by omega
   refine eH (iQ c w.heap.size) (by kernel_rfl) ?_;obtain⟨V,hV⟩: ∃V:World,V=W2.drew:=⟨_,rfl⟩;rw[<-hV];have hb:Below W2.heap.size W2 V:=by rw[hV]; exact(ay _ _).drew
   have hO:=an (aw hk.o hb);have SV:=an (hU.o.below hb);have hp:=an (cU hG.o hb);have hS:=an (show bG S V (.slice sa wn sc) (iT data A p) by have h1:=hR.o; unfold bG at h1 ⊢; exact cE.below h1 (by omega) hb);clear hV hb
   iterate 11 (refine cF rfl (by kernel_rfl) (fun _ _ _ h=>h) rfl SV.o (by rintro w' hx; have ha:=hx; unfold iQ at ha; have c2:=bH (k:=2) ha; have c3:=bH (k:=3) ha; have c4:=bH (k:=4) ha; simp only[ak,aj,am]at c2 c3 c4; rw[hd.o]at c2; clear hx ha; go_simp; rfl) ?_; simp only[Act.put,ag,ai,ah])
   refine bJ 13 rfl (by kernel_rfl) (by kernel_rfl) (by kernel_rfl) (fun _ _ _ h=>h) rfl SV.o (by rintro w' hx; have ha:=hx; unfold iQ at ha; have c2:=bH (k:=2) ha; have c3:=bH (k:=3) ha; have c4:=bH (k:=4) ha; simp only[ak,aj,am]at c2 c3 c4; rw[hd.o]at c2; clear hx ha; go_simp; rfl) ?_
   simp only[Act.put,ag,ai,ah];refine bJ 14 rfl (by kernel_rfl) (by kernel_rfl) (by kernel_rfl) (fun _ _ _ h=>h) rfl SV.o (by rintro w' hx; have ha:=hx; unfold iQ at ha; have c2:=bH (k:=2) ha; have c3:=bH (k:=3) ha; have c4:=bH (k:=4) ha; simp only[ak,aj,am]at c2 c3 c4; rw[hd.o]at c2; clear hx ha; go_simp; rfl) ?_
   simp only[Act.put,ag,ai,ah];refine cy 11 rfl (fun K hK=> ?_);go_wp2_with fail;refine(EC _ c.seed (iT data A p) _ _ HS.o hS.o (by rw[hq.o,oe]; exact aB (Nat.min_le_left _ _) hC)).mono ?_;rintro e w3 ⟨rfl,rfl⟩;obtain⟨hh,hj⟩: ∃h,h=qc c.seed (iT data A p):=⟨_,rfl⟩;have hY:hh<18446744073709551616:=by rw[hj]; exact wJ _ _
   rw[<-hj];have HH:=an hj;clear hj;go_wp2_with fail;refine⟨SV.o, ?_⟩;refine cy 12 rfl (fun K hK=> ?_);go_wp2_with fail;refine(Ea hh _ hY).mono ?_;rintro e w4 ⟨rfl,rfl⟩;obtain⟨zz,hE⟩: ∃z,z=Lib.ctz 64 hh:=⟨_,rfl⟩;rw[<-hE];have hP:=an (show decide (c.bits<=(zz:Int))=qf c data p by
    unfold qf GE;rw[<-hr.o,<-hq.o,<-HH.o,<-hE,bm,<-HN.o,show decide (wn<=min p n)=true by rw[aK]; omega,gP,jb]
    omega)
   clear hE;go_wp2_with fail;refine⟨SV.o, ?_⟩
   iterate 2 (refine cF rfl (by kernel_rfl) (fun _ _ _ h=>h) rfl SV.o (by rintro w' hx; have ha:=hx; unfold iQ at ha; have c2:=bH (k:=2) ha; have c3:=bH (k:=3) ha; have c4:=bH (k:=4) ha; simp only[ak,aj,am]at c2 c3 c4; rw[hd.o]at c2; clear hx ha; go_simp; rfl) ?_; simp only[Act.put,ag,ai,ah])
   have q0:=hp.o.cellAt p (by omega);rw[pk c data (by omega)]at q0;have q1:=hp.o.frozenAt p;refine cy 17 rfl (fun K hK=> ?_);go_wp2_with fail;obtain⟨W5,he⟩: ∃y,y=V.setCell ⟨gb,p,none⟩ (.bool (decide (c.bits<=(zz:Int)))):=⟨_,rfl⟩;rw[<-he];have SC:=an (show iQ c w.heap.size W5 by
    rw[he];unfold iQ;rw[aF _ _ _ _ (show w.heap.size≠gb by have:=hF.o; omega)];exact SV.o)
   have hQ:=an (show W5.ownsRow w.heap.size 4 1 (.slice (some ⟨gb,0,none⟩) (n+1) (n+1)) (n+1) (rz c data n (p+1)) by
    rw[he,hP.o,<-LQ c data hy];exact(hp.o.stored p _).1)
   have hN:=an (show Below W.heap.size W W5 by rw[he]; exact hO.o.setCell (by show W.heap.size<=gb; rw[hF.o]; exact au _) _);clear he q0 q1;refine⟨SC.o, ?_⟩;refine cH (by kernel_rfl) ?_;go_wp2_with fail
   go_roundw
   case rel=>exact⟨p+1,by omega,by omega,by go_num,hQ.o,SC.o,hN.o⟩
   case measure=>simp[intOf]; omega
  ·have h0: ¬(p:Int)<=(n:Int):=by omega
   have HF:=an (show rz c data n p=rz c data n (n+1) by
    by_cases h1:wn<=n+1
    ·rw[show p=n+1 by omega]
    ·rw[xc (k:=p) (by rw[<-hr.o]; omega),xc (k:=n+1) (by rw[<-hr.o]; omega)])
   go_wp2_with fail;go_ret;exact⟨gb,n+1,rfl,by rw[<-HF.o]; exact hG.o,aw HB.o hk.o⟩
theorem Tryz.appIntsM :km Tryz.prog 65 3 1 8:=km.mk' (z:= .int .i64 0) Tryz.underlying65 (by kernel_rfl) rfl (by decide) (by decide)
def rA (n:Nat):Value:= .int .i64 (n:Int)
def kj (mk:Nat->Bool) (mn k:Nat):List Nat:=(List.range k).filter fun p=>kw mk mn p
theorem JD (mk:Nat->Bool) (mn k:Nat):kj mk mn (k+1)=if kw mk mn k=true then kj mk mn k++[k]else kj mk mn k:=by
 unfold kj;rw[lP,gA]
 by_cases h:kw mk mn k=true
 ·rw[if_pos h]; simp[h]
 ·rw[if_neg h]; simp[h]
theorem Do (mk:Nat->Bool) (mn k:Nat):(kj mk mn k).length<=k:=by
 have:=dF (fun p=>kw mk mn p) (List.range k);rw[List.length_range]at this;exact this
def qb (mk:Nat->Bool) (mn p q:Nat) (b:Bool):Prop:=b=true<->mk p=true/\ ∀r,1<=r->q<r->r<p->p<r+mn->mk r=false
theorem qb.start (mk:Nat->Bool) (mn p:Nat):qb mk mn p (p-1) (mk p):=⟨fun h=>⟨h,fun r h1 h2 h3 _=>by omega⟩,fun h=>h.1⟩
theorem qb.hit {mk:Nat->Bool} {mn p q:Nat} {b:Bool} (_h:qb mk mn p q b) (hq:1<=q) (hp:q<p) (hm:p<q+mn) (hk:mk q=true):qb mk mn p (q-1) false:=
 ⟨fun h=>(by cases h),fun h=>(by rw[h.2 q hq (by omega) hp hm]at hk; cases hk)⟩
theorem qb.miss {mk:Nat->Bool} {mn p q:Nat} {b:Bool} (h:qb mk mn p q b) (hk:mk q=false):qb mk mn p (q-1) b:=
 ⟨fun hb=>⟨(h.1 hb).1,fun r h1 h2 h3 h4=>by
  by_cases e:r=q
  ·rw[e]; exact hk
  ·exact(h.1 hb).2 r h1 (by omega) h3 h4⟩,fun hb=>h.2 ⟨hb.1,fun r h1 h2 h3 h4=>hb.2 r h1 (by omega) h3 h4⟩⟩
theorem qb.done {mk:Nat->Bool} {mn p q:Nat} {b:Bool} (h:qb mk mn p q b) (hp:1<=p) (hq:q=0\/q+mn<=p):b=kw mk mn p:=by
 rw[dk,JC]
 constructor
 ·intro hb;exact⟨hp,(h.1 hb).1,fun r h1 h2 h3=>(h.1 hb).2 r h1 (by omega) h2 h3⟩
 ·rintro⟨_,h1,h2⟩;exact h.2 ⟨h1,fun r k1 _ k3 k4=>h2 r k1 k3 k4⟩
theorem yx (S:Nat->Prop) (c:fL) (data:List UInt8) (v:Value) (w:World) (hc:jJ c=true) (hs:c.seed<18446744073709551616) (hv:bG S w v data) (hl:data.length<=1048576):
  Calls Tryz.prog 177 #[ko c,v] w fun e w'=> ∃a cap,e= .returned (.slice a (kj (qf c data) c.mn.toNat (data.length+1)).length cap)/\w'.ownsRow w.heap.size 3 1 (.slice a (kj (qf c data) c.mn.toNat (data.length+1)).length cap) (kj (qf c data) c.mn.toNat (data.length+1)).length ((kj (qf c data) c.mn.toNat (data.length+1)).map rA)/\Below w.heap.size w w':=by
 obtain⟨hV,a,cap,rfl,hn,hm,-⟩:=id hv;unfold maxLen at hm;obtain⟨n,hu⟩: ∃n,n=data.length:=⟨_,rfl⟩;obtain⟨v1,v2,v3,v4,v5,v6,v7⟩:=lM.1 hc;obtain⟨mn,hO⟩: ∃mn:Nat,mn=c.mn.toNat:=⟨_,rfl⟩;have hS:=an (show c.mn=(mn:Int) by omega);have h0:mn<=32768:=by omega
 obtain⟨mk,hE⟩: ∃mk,mk=qf c data:=⟨_,rfl⟩;obtain⟨W,hW⟩: ∃W,W=w.alloc (.cells #[.int .i64 c.mn, .int .i64 c.mx, .int .i64 c.win, .int .i64 c.bits, .int .u64 (c.seed:Int)] 45):=⟨_,rfl⟩;have HB:=an (show Below w.heap.size w W by rw[hW]; exact eN);have HX:=an (show iQ c w.heap.size W by rw[hW]; exact aH w _);have HV:=an (show bG S W (.slice a data.length cap) data by rw[hW]; exact cE.below hv (by omega) (eN))
 rw[<-hu]at hl hn HV;rw[<-hO,<-hE,<-hu];have HN:=an hu;have hR:=an hE;have HC:=an hc;have HS:=an hs;clear hv hV hu hO hE hc hs v1 v2 v4 v5 v6 v7;unfold ko
 go_enter Tryz.func177,Tryz.ntmps177
 go_upto_region 1 with fail
 rw[<-hW];clear hW;have hj:=HX.o;unfold iQ at hj;obtain⟨c0,c1,c2,c3,c4,_⟩:=aT hj;clear hj;go_wp2_with fail;clear c0 c1 c2 c3 c4;refine(Bc S c data _ _ HC.o HS.o HV.o (by rw[<-HN.o]; exact hl)).mono ?_;rw[<-HN.o];rintro e w1 ⟨g,gc,rfl,hw,hC⟩;have hH:=an (show ∀q,q<=n->w1.cell? ⟨g,q,none⟩=some (.bool (mk q))from fun q hq=>by
  rw[hw.cellAt q (by omega),pk c data hq,hR.o,show decide (q<n+1)=true by rw[aK]; omega,gP])
 have hF:=an (aw HB.o hC);have hT:=an (HX.o.below hC);have hN:g<w1.heap.size:=(hw.lt g rfl).2;have h9:n+1<=gc:=by
  obtain⟨a0,c0,he,h1,h2⟩:=aI hw
  cases he
  exact h1
 have h8:=hF.o.size;clear hw hC;have hI:=an (show(w1.alloc (.cells #[] 3)).ownsRow w1.heap.size 3 1 (.slice (some ⟨w1.heap.size,0,none⟩) 0 0) 0 ((kj mk mn 1).map rA)from di (e:=3) (size:=1) (base:=w1.heap.size) w1 #[] 0 (au _) (aX _) (by simp));have hG:=an ((ay w1.heap.size w1).alloc (au _) (.cells #[] 3));go_wp2_with fail
 go_loopw [6,7] (fun o i wr=> ∃(p l:Nat) (ao:Option Addr) (co:Nat),1<=p/\p<=n+1/\i= .int .i64 (p:Int)/\o= .slice ao l co/\l=(kj mk mn p).length/\wr.ownsRow w1.heap.size 3 1 (.slice ao l co) l ((kj mk mn p).map rA)/\Below w1.heap.size w1 wr) (fun _ i _=>n+1-(intOf i).toNat)
 case atStart=>exact⟨1,0,_,_,au _,by omega,rfl,rfl,rfl,hI.o,hG.o⟩
 case round=>
  obtain⟨p,l,ao,co,h3,Hc,rfl,rfl,hD,ho,hb⟩:=hrel;have hk:=an hD;have HO:=an ho;have hh:=an hb;have hX:=Do mk mn p;rw[<-hD]at hX;clear ho hb hD hI hG
  by_cases hY:p<=n
  ·obtain⟨W2,hU⟩: ∃y:World,y=wr:=⟨_,rfl⟩;subst hU;have Hb:(p:Int)<=(n:Int):=by omega
   have Ha:p<gc:=by omega
   have q0:=(hh.o.cell (p:=⟨g,p,none⟩) hN).trans (hH.o p hY);go_wp2_with fail;clear q0
   go_loopw [8,9] (fun y j wq=> ∃(q:Nat) (b:Bool),q+1<=p/\j= .int .i64 (q:Int)/\y= .bool b/\qb mk mn p q b/\W2=wq) (fun _ j _=>(intOf j).toNat)
   case atStart=>exact⟨p-1,mk p,by omega,by rw[show((p-1:Nat):Int)=(p:Int)-1 by omega],rfl,qb.start _ _ _,rfl⟩
   case round=>
    obtain⟨q,b,Hf,rfl,rfl,hM,rfl⟩:=hrel;have hz:=an hM;have hj:=hT.o.below hh.o;unfold iQ at hj;have c0:=bH (k:=0) hj;simp only[ak,aj]at c0;rw[hS.o]at c0;clear hM hj
    by_cases hp:1<=q/\p<q+mn
    ·have hP:1<=(q:Int):=by omega
     have hQ:(p:Int)-(mn:Int)<(q:Int):=by omega
     have Hd:q<gc:=by omega
     have He:q<n+1:=by omega
     have h7:(q:Int)<(n:Int)+1:=by omega
     have q0:=(hh.o.cell (p:=⟨g,q,none⟩) hN).trans (hH.o q (by omega))
     cases hg:mk q with
     | true=>
      rw[hg]at q0;have hA:=an (hz.o.hit hp.1 (by omega) hp.2 hg);clear hg;go_wp2_with fail
      go_roundw
      case rel=>exact⟨q-1,false,by omega,by rw[show((q-1:Nat):Int)=(q:Int)-1 by omega],rfl,hA.o,trivial⟩
      case measure=>simp[intOf]; omega
     | false=>
      rw[hg]at q0;have hA:=an (hz.o.miss hg);clear hg;go_wp2_with fail
      go_roundw
      case rel=>exact⟨q-1,b,by omega,by rw[show((q-1:Nat):Int)=(q:Int)-1 by omega],rfl,hA.o,trivial⟩
      case measure=>simp[intOf]; omega
    ·have hJ:=an (hz.o.done h3 (by omega));have hL:=an (JD mk mn p);have hr:l<1099511627775:=by omega
     have hx:=hh.o.size;have HZ:=an (show ∀u∈[Value.int .i64 (p:Int)],u.oneCell'=true by simp[Value.oneCell'])
     cases b with
     | true=>
      have hf:=an (show kj mk mn (p+1)=kj mk mn p++[p] by rw[hL.o,if_pos hJ.o.symm])
      by_cases hP:(1:Int)<=(q:Int)
      ·have hQ: ¬(p:Int)-(mn:Int)<(q:Int):=by omega
       clear hp;go_wp2_with (at_builtin; go_loud (refine bR Tryz.appIntsM rfl _ _ rfl w1.heap.size (.slice ao l co) l ((kj mk mn p).map rA) rfl W2 [Value.int .i64 (p:Int)] _ rfl rfl HZ.o HO.o hr hx ?_); intro v' wc hd ha _ _; obtain⟨ae,ce,rfl,-,-⟩:=aI hd; have hB:=an (show wc.ownsRow w1.heap.size 3 1 (.slice ae (l+1) ce) (l+1) ((kj mk mn (p+1)).map rA) by rw[hf.o,aO]; exact hd); have hy:=an (cg hh.o HO.o ha (au _) hx); clear hd ha)
       exact⟨⟨p+1,l+1,ae,ce,by omega,by omega,by go_num,rfl,by rw[hf.o,ar,<-hk.o]; rfl,hB.o,hy.o⟩,by simp[intOf]; omega⟩
      ·clear hp;go_wp2_with (at_builtin; go_loud (refine bR Tryz.appIntsM rfl _ _ rfl w1.heap.size (.slice ao l co) l ((kj mk mn p).map rA) rfl W2 [Value.int .i64 (p:Int)] _ rfl rfl HZ.o HO.o hr hx ?_); intro v' wc hd ha _ _; obtain⟨ae,ce,rfl,-,-⟩:=aI hd; have hB:=an (show wc.ownsRow w1.heap.size 3 1 (.slice ae (l+1) ce) (l+1) ((kj mk mn (p+1)).map rA) by rw[hf.o,aO]; exact hd); have hy:=an (cg hh.o HO.o ha (au _) hx); clear hd ha)
       exact⟨⟨p+1,l+1,ae,ce,by omega,by omega,by go_num,rfl,by rw[hf.o,ar,<-hk.o]; rfl,hB.o,hy.o⟩,by simp[intOf]; omega⟩
     | false=>
      have hf:=an (show kj mk mn (p+1)=kj mk mn p by rw[hL.o,if_neg (by rw[<-hJ.o]; decide)])
      by_cases hP:(1:Int)<=(q:Int)
      ·have hQ: ¬(p:Int)-(mn:Int)<(q:Int):=by omega
       clear hp;go_wp2_with fail;exact⟨⟨p+1,l,ao,co,by omega,by omega,by go_num,rfl,by rw[hf.o,<-hk.o],by rw[hf.o]; exact HO.o,hh.o⟩,by simp[intOf]; omega⟩
      ·clear hp;go_wp2_with fail;exact⟨⟨p+1,l,ao,co,by omega,by omega,by go_num,rfl,by rw[hf.o,<-hk.o],by rw[hf.o]; exact HO.o,hh.o⟩,by simp[intOf]; omega⟩
  ·have h4:p=n+1:=by omega
   subst h4;have hZ: ¬((n:Int)+1<=(n:Int)):=by omega
   go_wp2_with fail;go_ret;exact⟨ao,co,by rw[<-hk.o]; rfl,by rw[<-hk.o]; exact iU HO.o h8,aw hF.o hh.o⟩
theorem tW {f:Nat->Bool} : ∀ {m k e:Nat},((List.range m).filter f)[k]? =some e->e<m/\f e=true/\((List.range m).filter f).take k=(List.range e).filter f
 | 0,k,e,h=>by simp at h
 | m+1,k,e,h=>by
  rw[lP,gA]at h ⊢
  by_cases hk:k<((List.range m).filter f).length
  ·rw[bO hk]at h;obtain⟨h1,h2,h3⟩:=tW h;exact⟨by omega,h2,by rw[ft (by omega)]; exact h3⟩
  ·rw[bI (by omega)]at h
   by_cases hm:f m=true
   ·have h4:[m].filter f=[m]:=by simp[hm]
    rw[h4]at h ⊢;have ha:k-((List.range m).filter f).length=0:=by
     have:=(aN.1 h).1;simp at this;omega
    rw[ha]at h;simp only[aj,br]at h;subst h;exact⟨by omega,hm,by rw[List.take_left' (by omega)]⟩
   ·have h4:[m].filter f=[]:=by simp[hm]
    rw[h4]at h;simp at h
def oh (mk:Nat->Bool) (mn n:Nat):List Nat:=kj mk mn (n+1)++[n]
def pj (E:List Nat) (k:Nat):Nat:=if k=0 then 0 else E.getD (k-1) 0
structure Pq (mk : Nat → Bool) (mn n s e : Nat) : Prop where
 le:s<=e
 top:e<=n
 stop:kw mk mn e=true\/e=n
 none: ∀r,s<r->r<e->kw mk mn r=false
theorem OR {mk:Nat->Bool} {mn n k e:Nat} (h:(oh mk mn n)[k]? =some e):Pq mk mn n (pj (oh mk mn n) k) e:=by
 have ha: ∀j x,(kj mk mn (n+1))[j]? =some x->pj (oh mk mn n) (j+1)=x:=fun j x hx=>by
  unfold pj oh;rw[if_neg (by omega),jr,cK,bO (aN.1 hx).1,hx]
  rfl
 have hg: ∀k,k<=(kj mk mn (n+1)).length->(∀r∈(kj mk mn (n+1)).take k,r<=pj (oh mk mn n) k)/\pj (oh mk mn n) k<=n/\(k=0\/pj (oh mk mn n) k∈(kj mk mn (n+1)).take k):=by
  intro k hk
  cases k with
  | zero=>exact⟨fun r hr=>by simp at hr,by show 0<=n; omega, .inl rfl⟩
  | succ j=>
   obtain⟨x,hx⟩: ∃x,(kj mk mn (n+1))[j]? =some x:=⟨_,bM (by omega)⟩;rw[ha j x hx];obtain⟨h1,h2,h3⟩:=tW hx;have h4:(kj mk mn (n+1)).take (j+1)=(List.range x).filter (fun p=>kw mk mn p)++[x]:=by
    rw[bZ,hx];unfold kj;rw[h3]; rfl
   rw[h4];refine⟨fun r hr=> ?_,by omega, .inr (by simp)⟩
   rcases aU.1 hr with hr | hr
   ·have:=dN.1 (fj.1 hr).1;omega
   ·rw[aQ.1 hr]; exact au _
 have hf:k<=(kj mk mn (n+1)).length:=by
  have:=(aN.1 h).1;unfold oh at this;simp at this;omega
 obtain⟨a1,a2,a3⟩:=hg k hf
 by_cases hk:k<(kj mk mn (n+1)).length
 ·have hx:(kj mk mn (n+1))[k]? =some e:=by
   unfold oh at h;rw[bO hk]at h;exact h
  obtain⟨h1,h2,h3⟩:=tW hx;have hb:(kj mk mn (n+1)).take k=(List.range e).filter (fun p=>kw mk mn p):=h3;refine⟨?_,by omega, .inl h2,fun r hh hc=> ?_⟩
  ·rcases a3 with a3 | a3
   ·rw[a3]; show 0<=e; omega
   ·rw[hb]at a3;have:=dN.1 (fj.1 a3).1;omega
  ·cases hp:kw mk mn r with
   | false=>rfl
   | true=>
    have:=a1 r (by rw[hb]; exact fj.2 ⟨dN.2 hc,hp⟩);omega
 ·have hd:k=(kj mk mn (n+1)).length:=by omega
  have he:e=n:=by
   unfold oh at h;rw[bI (by omega),hd,eM]at h;simp only[aj,br]at h;exact h.symm
  refine⟨by rw[he]; exact a2,by omega, .inr he,fun r hh hc=> ?_⟩
  cases hp:kw mk mn r with
  | false=>rfl
  | true=>
   have:=a1 r (by
    rw[bC (by omega)];unfold kj;exact fj.2 ⟨dN.2 (by omega),hp⟩)
   omega
theorem Co (mk:Nat->Bool) (mn n:Nat):(oh mk mn n).length=(kj mk mn (n+1)).length+1:=by unfold oh; simp
theorem IL (mk:Nat->Bool) (mn n:Nat):pj (oh mk mn n) (oh mk mn n).length=n:=by
 unfold pj;rw[Co,if_neg (by omega),jr,cK];unfold oh;rw[bI (by omega),eM]
 rfl
theorem zG {E:List Nat} {k e:Nat} (h:E[k]? =some e):pj E (k+1)=e:=by
 unfold pj;rw[if_neg (by omega),jr,cK,h]; rfl
theorem zV {mk:Nat->Bool} {mn mx n s:Nat} {L:List Nat} (h:xX mk mn mx n L s):L.length<=s:=by
 induction h with
 | nil=>simp
 | snoc _ h2 ih=>rw[ar,bQ]; have:=h2.1; omega
structure Aw (base g0 : Nat) (w3 wr : World) (o : Value) (L : List Nat) : Prop where
 own:wr.ownsRow base 3 1 o L.length (L.map rA)
 place: ∀k,o.ownBlock=some k->k=g0\/w3.heap.size<=k
 keep: ∀k,k<w3.heap.size->k≠g0->wr.heap[k]? =w3.heap[k]?
 below:Below base w3 wr
theorem Aw.drew {base g0:Nat} {w3 wr:World} {o:Value} {L:List Nat} {nq:Nat} (h:Aw base g0 w3 wr o L):Aw base g0 w3 (wr.drewN nq) o L:=
 ⟨h.own,h.place,h.keep,h.below.trans ⟨rfl,rfl,rfl,au _,fun _ _=>rfl⟩⟩
theorem Aw.push {base g0:Nat} {w3 wr wc:World} {o o':Value} {L:List Nat} {x l:Nat} (h:Aw base g0 w3 wr o L) (hl:l=L.length) (hb:base<=w3.heap.size) (h1:wc.ownsRow base 3 1 o' (l+1) (L.map rA++[rA x])) (h2:wr.grownBy wc o.ownBlock) (h3: ∀k,o'.ownBlock=some k->o.ownBlock=some k\/wr.heap.size<=k):Aw base g0 w3 wc o' (L++[x]):=by
 subst hl;have hs:=h.below.size;refine⟨by rw[ar,aO]; exact h1,fun k hk=> ?_,fun k hk ha=> ?_,cg h.below h.own h2 (au _) (aB hb hs)⟩
 ·rcases h3 k hk with h4 | h4
  ·exact h.place k h4
  ·exact .inr (by omega)
 ·refine(h2.block k (by omega) (fun e=> ?_)).trans (h.keep k hk ha)
  rcases h.place k e.symm with h5 | h5
  ·exact ha h5
  ·omega
theorem Er (S:Nat->Prop) (c:fL) (data:List UInt8) (v:Value) (w:World) (hc:jJ c=true) (hs:c.seed<18446744073709551616) (hv:bG S w v data) (hl:data.length<=1048576):
  Calls Tryz.prog 157 #[ko c,v] w fun e w'=> ∃a cap,e= .returned (.slice a (qu (qf c data) c.mn.toNat c.mx.toNat data.length).length cap)/\w'.ownsRow w.heap.size 3 1 (.slice a (qu (qf c data) c.mn.toNat c.mx.toNat data.length).length cap) (qu (qf c data) c.mn.toNat c.mx.toNat data.length).length ((qu (qf c data) c.mn.toNat c.mx.toNat data.length).map rA)/\Below w.heap.size w w':=by
 obtain⟨HA,a,cap,rfl,hn,hm,-⟩:=id hv;unfold maxLen at hm;obtain⟨n,hA⟩: ∃n,n=data.length:=⟨_,rfl⟩;obtain⟨v1,v2,v3,v4,v5,v6,v7⟩:=lM.1 hc;obtain⟨mn,hP⟩: ∃mn:Nat,mn=c.mn.toNat:=⟨_,rfl⟩;obtain⟨mx,Hf⟩: ∃mx:Nat,mx=c.mx.toNat:=⟨_,rfl⟩;have Hs:=an (show c.mx=(mx:Int) by omega);have hQ:1<=mx/\mx<=32768:=by omega
 obtain⟨mk,hO⟩: ∃mk,mk=qf c data:=⟨_,rfl⟩;obtain⟨W,hW⟩: ∃W,W=w.alloc (.cells #[.int .i64 c.mn, .int .i64 c.mx, .int .i64 c.win, .int .i64 c.bits, .int .u64 (c.seed:Int)] 45):=⟨_,rfl⟩;have HB:=an (show Below w.heap.size w W by rw[hW]; exact eN);have HX:=an (show iQ c w.heap.size W by rw[hW]; exact aH w _);have HV:=an (show bG S W (.slice a data.length cap) data by rw[hW]; exact cE.below hv (by omega) (eN))
 rw[<-hA]at hl hn HV;rw[<-hP,<-Hf,<-hO,<-hA];have HN:=an hA;have Hq:=an hO;have Hr:=an hP;have HC:=an hc;have HS:=an hs;obtain⟨W1,hg⟩: ∃W1,W1=W.alloc (.cells #[] 3):=⟨_,rfl⟩;obtain⟨g0,hx⟩: ∃g,g=W.heap.size:=⟨_,rfl⟩;have Ht:=an (show W1.ownsRow W.heap.size 3 1 (.slice (some ⟨g0,0,none⟩) 0 0) 0 (([]:List Nat).map rA) by rw[hg,hx]; exact di (e:=3) (size:=1) (base:=W.heap.size) W #[] 0 (au _) (aX _) (by simp))
 have hB:=an (show Below W.heap.size W W1 by rw[hg]; exact eN);have HM:W1.heap.size=W.heap.size+1:=by rw[hg]; simp
 clear hv HA hA hP hO hc hs v1 v2 v3 v4 v5 v6 v7 Hf;unfold ko
 go_enter Tryz.func157,Tryz.ntmps157
 go_upto_region 1 with fail
 rw[<-hW];clear hW
 go_upto_region 2 with fail
 rw[<-hg,<-hx];clear hg;have hZ:=an hx;have h7:=an (HX.o.below hB.o);have Hw:=an (show bG S W1 (.slice a n cap) data from cE.below HV.o (by omega) hB.o);have hT:=h7.o;unfold iQ at hT;obtain⟨c0,c1,c2,c3,c4,_⟩:=aT hT;clear hT;go_wp2_with fail;clear c0 c1 c2 c3 c4;refine(yx S c data _ _ HC.o HS.o Hw.o (by rw[<-HN.o]; exact hl)).mono ?_;rw[<-HN.o,<-Hq.o,<-Hr.o]
 rintro e w2 ⟨a2,c2,rfl,hR,hG⟩;obtain⟨l2,hy⟩: ∃l,l=(kj mk mn (n+1)).length:=⟨_,rfl⟩;rw[<-hy]at hR ⊢;have Ho:=an hy;have hI:=Do mk mn (n+1);rw[<-hy]at hI;have h3:=an hR;have Hj:=an hG;have Hi:=hG.size;have hJ:l2<1099511627775:=by omega
 have HZ:=an (show ∀u∈[Value.int .i64 (n:Int)],u.oneCell'=true by simp[Value.oneCell']);clear hR hG hy hx;go_wp2_with (at_builtin; go_loud (refine bR Tryz.appIntsM rfl _ _ rfl W1.heap.size (.slice a2 l2 c2) l2 ((kj mk mn (n+1)).map rA) rfl w2 [Value.int .i64 (n:Int)] _ rfl rfl HZ.o h3.o hJ Hi ?_); intro v3 w3 ha Hc _ _; obtain⟨ge,c3,rfl⟩:=Joins.ownsRow_form ha (by omega); have hw:=an (show w3.ownsRow W1.heap.size 3 1 (.slice (some ⟨ge,0,none⟩) (l2+1) c3) (l2+1) ((oh mk mn n).map rA) by unfold oh; rw[aO]; exact ha); have hp:=an (cg Hj.o h3.o Hc (au _) Hi); clear ha Hc)
 obtain⟨N,hN⟩: ∃N,N=(oh mk mn n).length:=⟨_,rfl⟩;have h9:N=l2+1:=by rw[hN,Co,Ho.o]
 have h0:=an hN;rw[<-h9]at hw ⊢;have Hz:W1.heap.size<=ge/\ge<w3.heap.size:=hw.o.lt ge rfl;have HI:N<=c3:=by
  obtain⟨a0,c0,he,h1,h2⟩:=aI hw.o
  cases he
  exact h1
 have hX:=an (show Aw W.heap.size g0 w3 w3 (.slice (some ⟨g0,0,none⟩) 0 0) []from
  ⟨cU Ht.o hp.o,fun k hk=> .inl (by simp[Value.ownBlock]at hk; exact hk.symm),fun k _ _=>rfl,ay _ _⟩)
 have Hn:=an (show ∀(i e:Nat),(oh mk mn n)[i]? =some e->w3.cell? ⟨ge,i,none⟩=some (.int .i64 (e:Int))from fun i e h=>by
  have hi:=(aN.1 h).1;rw[hw.o.cellAt i (by omega),bn,h]; rfl)
 have h8:=an (h7.o.below hp.o);have hH:ge≠g0:=by have:=hZ.o; omega
 have hV:w.heap.size≠g0:=by have:=hZ.o; have:=az (show W.heap[w.heap.size]? =_ from HX.o); omega
 have Hb:W.heap.size<=w3.heap.size:=by have:=hp.o.size; omega
 have HH:N<=1048578:=by omega
 have Hk:=an (show Below w.heap.size w w3 from aw HB.o (hB.o.trans (hp.o.mono (by omega))));clear hN h9
 go_loopw [5,6,8] (fun o f i wr=> ∃(k s l:Nat) (L:List Nat) (ao:Option Addr) (co:Nat),k<=N/\i= .int .i64 (k:Int)/\f= .int .i64 (s:Int)/\o= .slice ao l co/\l=L.length/\s=pj (oh mk mn n) k/\xX mk mn mx n L s/\Aw W.heap.size g0 w3 wr (.slice ao l co) L) (fun _ _ i _=>N-(intOf i).toNat)
 case atStart=>exact⟨0,0,0,[],_,_,aX _,rfl,rfl,rfl,rfl,rfl, .nil,hX.o⟩
 case round=>
  obtain⟨k,s,l,L,ao,co,hk,rfl,rfl,rfl,hj,Hh,hd,hh⟩:=hrel;have hD:=an hj;have hF:=an Hh;have h4:=an hd;have hC:=an hh;clear hj Hh hd hh hX
  by_cases HE:k<N
  ·obtain⟨e,he⟩: ∃e,(oh mk mn n)[k]? =some e:=⟨_,bM (show k<(oh mk mn n).length by rw[<-h0.o]; exact HE)⟩;have hu:=an (OR he);have Hp:=an (zG he);have Hm:=an (Hn.o k e he);have HF:s<=e:=by rw[hF.o]; exact hu.o.le
   have Hy:e<=n:=hu.o.top;clear he;go_wp2_with fail
   go_loopw [5,6] (fun o f wq=> ∃(s' l':Nat) (L':List Nat) (ao':Option Addr) (co':Nat),s<=s'/\s'<=e/\f= .int .i64 (s':Int)/\o= .slice ao' l' co'/\l'=L'.length/\xX mk mn mx n L' s'/\Aw W.heap.size g0 w3 wq (.slice ao' l' co') L') (fun _ f _=>e-(intOf f).toNat)
   case atStart=>exact⟨s,l,L,ao,co,au _,HF,rfl,rfl,hD.o,h4.o,hC.o⟩
   case round=>
    obtain⟨s',l',L',ao',co',HK,HL,rfl,rfl,hj,hd,hh⟩:=hrel;have hf:=an hj;have hE:=an hd;have hr:=an hh;have q0:wr.cell? ⟨ge,k,none⟩=some (.int .i64 (e:Int)):=by
     rw[<-Hm.o];unfold World.cell?;rw[hr.o.keep ge Hz.2 hH]
    have HJ:k<c3:=by omega
    have He:(k:Int)<(N:Int):=by omega
    clear hj hd hh
    by_cases hL:s'<e
    ·have hM:(s':Int)<(e:Int):=by omega
     have hU:iQ c w.heap.size wr:=by
      unfold iQ;rw[hr.o.keep w.heap.size (az h8.o) hV];exact h8.o
     unfold iQ at hU;have c1:=bH (k:=1) hU;simp only[ak,aj,am]at c1;rw[Hs.o]at c1;clear hU;go_wp2_with fail
     go_quiet (fail)
     obtain⟨z,hz⟩: ∃z,z=min (s'+mx) e:=⟨_,rfl⟩;have Hg:min ((s':Int)+(mx:Int)) (e:Int)=(z:Int):=by omega
     rw[Hg];have Hv:=an (show AF mk mn mx n s' z by
      rw[hz];exact MD hQ.1 hL Hy hu.o.stop (fun r h1 h2=>hu.o.none r (by rw[<-hF.o]; omega) h2))
     have HO:s'<z/\z<=e:=by omega
     have hq:=an (hr.o.drew (nq:=nq));obtain⟨W5,Ha⟩: ∃y,y=wr.drewN nq:=⟨_,rfl⟩;rw[<-Ha]at hq ⊢;have Hu:=an (show W5.ownsRow W.heap.size 3 1 (.slice ao' l' co') l' (L'.map rA) by rw[hf.o]; have h1:=hq.o.own; rw[<-hf.o]at h1 ⊢; exact h1);have HG:W.heap.size<=W5.heap.size:=aB Hb hq.o.below.size;have HD:l'<1099511627775:=by
      have h1:=zV hE.o;have h2:=hf.o;omega
     have Hx:=an (show ∀u∈[Value.int .i64 (z:Int)],u.oneCell'=true by simp[Value.oneCell']);clear Ha q0 c1 hz Hg;go_wp2_with (at_builtin; go_loud (refine bR Tryz.appIntsM rfl _ _ rfl W.heap.size (.slice ao' l' co') l' (L'.map rA) rfl W5 [Value.int .i64 (z:Int)] _ rfl rfl Hx.o Hu.o HD HG ?_); intro v6 w6 hb Hd _ ho; obtain⟨a6,c6,rfl,-,-⟩:=aI hb; have Hl:=an (hq.o.push hf.o Hb hb Hd ho); clear hb Hd ho)
     go_roundw
     case rel=>exact⟨z,l'+1,L'++[z],a6,c6,by omega,by omega,rfl,rfl,by rw[ar,<-hf.o]; rfl,hE.o.snoc Hv.o,Hl.o⟩
     case measure=>simp[intOf]; omega
    ·have hS:s'=e:=by omega
     subst hS;have hM: ¬(s':Int)<(s':Int):=by omega
     go_wp2_with fail;exact⟨⟨k+1,s',l',L',ao',co',by omega,by go_num,rfl,rfl,hf.o,by rw[Hp.o],hE.o,hr.o⟩,by simp[intOf]; omega⟩
  ·have He:k=N:=by omega
   subst He;have hY:=an (show L=qu mk mn mx n by
    have h1:s=n:=by rw[hF.o,h0.o,IL]
    have h2:=h4.o;rw[h1]at h2;exact h2.det pd)
   go_wp2_with fail;go_ret;exact⟨ao,co,by rw[<-hY.o,<-hD.o]; rfl,by rw[<-hY.o]; have h1:=hC.o.own; rw[<-hD.o]at h1 ⊢; exact iU h1 HB.o.size,Hk.o.trans (hC.o.below.mono HB.o.size)⟩
theorem CW {E:List Nat} {x k:Nat} (h:k<=E.length):pj (E++[x]) k=pj E k:=by
 unfold pj
 split
 ·rfl
 ·rw[cK,cK,bO (by omega)]
theorem zF (E:List Nat):pj E E.length=E.getLast?.getD 0:=by
 unfold pj
 cases E with
 | nil=>rfl
 | cons x E=>rw[if_neg (by simp),cK,List.getLast?_eq_getElem?]
theorem Jh {E:List Nat} {k:Nat} (h:k<=E.length):(E.take k).getLast?.getD 0=pj E k:=by
 have h1:=zF (E.take k);rw[bm,fm h]at h1;rw[<-h1];unfold pj
 split
 ·rfl
 ·rw[cK,cK,em,if_pos (by omega)]
theorem Mh {mk:Nat->Bool} {mn mx n s:Nat} {E:List Nat} (h:xX mk mn mx n E s): ∀(i e:Nat),E[i]? =some e->pj E i<e/\e<=n:=by
 induction h with
 | nil=>intro i e h; simp at h
 | snoc h1 h2 ih=>
  rename_i l s q;intro i e h
  by_cases hi:i<l.length
  ·rw[bO hi]at h;rw[CW (by omega)];exact ih i e h
  ·have hb:=(aN.1 h).1;rw[ar,bQ]at hb;have ha:i=l.length:=by omega
   subst ha;rw[bI (au _),eM]at h;simp only[aj,br]at h;subst h;rw[CW (au _),zF];have h3:=h1.last;unfold lU at h3;rw[h3];exact⟨h2.1,h2.2.1⟩
structure KH (base g0 : Nat) (w2 wr : World) (o : Value) (ys : List (Value × List UInt8)) : Prop where
 own:wr.ownsRow base 29 1 o ys.length (ys.map Prod.fst)
 dat: ∀y∈ys,wr.ownsRow base 5 1 y.1 y.2.length (y.2.map aY)
 place: ∀k,o.ownBlock=some k->k=g0\/w2.heap.size<=k
 keep: ∀k,k<w2.heap.size->k≠g0->wr.heap[k]? =w2.heap[k]?
 below:Below base w2 wr
theorem KH.push {base g0:Nat} {w2 wr wb wd:World} {o o' pv:Value} {ys:List (Value×List UInt8)} {x:List UInt8} {l:Nat} (h:KH base g0 w2 wr o ys) (hl:l=ys.length) (hb:base<=w2.heap.size) (hwb:Below wr.heap.size wr wb) (hp:wb.ownsRow wr.heap.size 5 1 pv x.length (x.map aY))
  (h1:wd.ownsRow base 29 1 o' (l+1) (ys.map Prod.fst++[pv])) (h2:wb.grownBy wd o.ownBlock) (h3: ∀k,o'.ownBlock=some k->o.ownBlock=some k\/wb.heap.size<=k):KH base g0 w2 wd o' (ys++[(pv,x)]):=by
 subst hl;have hs:=h.below.size;have hd:=hwb.size;have ha:wb.ownsRow base 29 1 o ys.length (ys.map Prod.fst):=cU h.own hwb;refine⟨by rw[ar,aO]; exact h1,fun y hy=> ?_,fun k hk=> ?_,fun k hk hc=> ?_, ?_⟩
 ·rcases aU.1 hy with hy | hy
  ·exact gI (cU (h.dat y hy) hwb) ha h2 (by decide)
  ·rw[aQ]at hy;subst hy;exact gI (iU hp (by omega)) ha h2 (by decide)
 ·rcases h3 k hk with h4 | h4
  ·exact h.place k h4
  ·exact .inr (by omega)
 ·refine((h2.block k (by omega) (fun e=> ?_)).trans (hwb.block k (by omega))).trans (h.keep k hk hc)
  rcases h.place k e.symm with h5 | h5
  ·exact hc h5
  ·omega
 ·exact cg (h.below.trans (hwb.mono (by omega))) ha h2 (au _) (by omega)
theorem DJ (S:Nat->Prop) (c:fL) (data:List UInt8) (v:Value) (w:World) (hc:jJ c=true) (hs:c.seed<18446744073709551616) (hv:bG S w v data) (hl:data.length<=1048576):
  Calls Tryz.prog 125 #[ko c,v] w fun e w'=> ∃(a:Option Addr) (cap:Nat) (ys:List (Value×List UInt8)),e= .returned (.slice a ys.length cap)/\ys.map Prod.snd=fS c data/\w'.ownsRow w.heap.size 29 1 (.slice a ys.length cap) ys.length (ys.map Prod.fst)/\(∀y∈ys,w'.ownsRow w.heap.size 5 1 y.1 y.2.length (y.2.map aY))/\Below w.heap.size w w':=by
 obtain⟨HA,a,cap,rfl,hn,hm,-⟩:=id hv;unfold maxLen at hm;obtain⟨n,hA⟩: ∃n,n=data.length:=⟨_,rfl⟩;obtain⟨E,hE⟩: ∃E,E=qu (qf c data) c.mn.toNat c.mx.toNat data.length:=⟨_,rfl⟩;have Hc:=an (show fS c data=jD data 0 E by rw[hE]; rfl);have hS:=an (show xX (qf c data) c.mn.toNat c.mx.toNat data.length E data.length by rw[hE]; exact pd);obtain⟨W,hW⟩: ∃W,W=w.alloc (.cells #[.int .i64 c.mn, .int .i64 c.mx, .int .i64 c.win, .int .i64 c.bits, .int .u64 (c.seed:Int)] 45):=⟨_,rfl⟩
 have HB:=an (show Below w.heap.size w W by rw[hW]; exact eN);have HX:=an (show iQ c w.heap.size W by rw[hW]; exact aH w _);have hD:=an (show bG S w (.slice a data.length cap) data from hv);rw[<-hA]at hl hn hD;rw[<-hA];have HN:=an hA;have Hg:=an hE;have HC:=an hc;have HS:=an hs;obtain⟨W1,ho⟩: ∃W1,W1=W.alloc (.cells #[] 29):=⟨_,rfl⟩
 obtain⟨g0,hw⟩: ∃g,g=W.heap.size:=⟨_,rfl⟩;have Hm:=an (show W1.ownsRow w.heap.size 29 1 (.slice (some ⟨g0,0,none⟩) 0 0) 0 (([]:List (Value×List UInt8)).map Prod.fst) by rw[ho,hw]; exact iU (di (e:=29) (size:=1) (base:=W.heap.size) W #[] 0 (au _) (aX _) (by simp)) HB.o.size);have hM:=an (show Below W.heap.size W W1 by rw[ho]; exact eN)
 have HK:W1.heap.size=W.heap.size+1:=by rw[ho]; simp
 clear hv HA hA hE hc hs;unfold ko
 go_enter Tryz.func125,Tryz.ntmps125
 go_upto_region 1 with fail
 rw[<-hW];clear hW
 go_upto_region 2 with fail
 rw[<-ho,<-hw];clear ho;have Hi:=an hw;have Hv:=an (HX.o.below hM.o);have hh:=an (aw HB.o hM.o);have Hu:=an (show bG S W1 (.slice a n cap) data from cE.below hD.o (by omega) hh.o);have hL:=Hv.o;unfold iQ at hL;obtain⟨c0,c1,c2,c3,c4,_⟩:=aT hL;clear hL;go_wp2_with fail;clear c0 c1 c2 c3 c4;refine(Er S c data _ _ HC.o HS.o Hu.o (by rw[<-HN.o]; exact hl)).mono ?_
 rw[<-Hg.o];rintro e w2 ⟨a2,c2,rfl,hg,hF⟩;obtain⟨N,hN⟩: ∃l,l=E.length:=⟨_,rfl⟩;rw[<-hN]at hg ⊢;have hC:=an hN;have HG:N<=n:=by rw[hN,HN.o]; exact zV hS.o
 have HH:N<=c2:=by
  obtain⟨a0,c0,he,h1,h2⟩:=aI hg
  cases he
  exact h1
 have Hf:=an (show ∀(i e:Nat),E[i]? =some e-> ∃g,a2=some ⟨g,0,none⟩/\g<w2.heap.size/\g≠g0/\w2.cell? ⟨g,i,none⟩=some (.int .i64 (e:Int))from fun i e h=>by
  have hi:=(aN.1 h).1;obtain⟨g,c',he⟩:=Joins.ownsRow_form hg (by omega)
  cases he
  have h1:=hg.lt g rfl;refine⟨g,rfl,h1.2,by have:=Hi.o; omega, ?_⟩;rw[hg.cellAt i (by omega),bn,h]; rfl)
 have hP:=an (show KH w.heap.size g0 w2 w2 (.slice (some ⟨g0,0,none⟩) 0 0) []from
  ⟨cU Hm.o hF,(fun y hy=>by cases hy),fun k hk=> .inl (by simp[Value.ownBlock]at hk; exact hk.symm),fun k _ _=>rfl,ay _ _⟩)
 have hB:=an (show Below w.heap.size w w2 from aw hh.o hF);have hV:w.heap.size<=w2.heap.size:=hB.o.size;clear hg hF hN hw;go_wp2_with fail
 go_loopw [5,6,8] (fun o f i wr=> ∃(k s l:Nat) (ys:List (Value×List UInt8)) (ao:Option Addr) (co:Nat),k<=N/\i= .int .i64 (k:Int)/\f= .int .i64 (s:Int)/\o= .slice ao l co/\l=ys.length/\l=k/\s=pj E k/\ys.map Prod.snd=jD data 0 (E.take k)/\KH w.heap.size g0 w2 wr (.slice ao l co) ys) (fun _ _ i _=>N-(intOf i).toNat)
 case atStart=>exact⟨0,0,0,[],_,_,aX _,rfl,rfl,rfl,rfl,rfl,rfl,rfl,hP.o⟩
 case round=>
  obtain⟨k,s,l,ys,ao,co,hk,rfl,rfl,rfl,h7,h4,h9,Ha,hX⟩:=hrel;have hj:=an h7;have Hj:=an h4;have hG:l<1099511627775:=by omega
  have hT:=an h9;have hU:=an Ha;have hf:=an hX;clear h7 h4 h9 Ha hX hP
  by_cases HD:k<N
  ·obtain⟨e,he⟩: ∃e,E[k]? =some e:=⟨_,bM (show k<E.length by rw[<-hC.o]; exact HD)⟩;obtain⟨g,rfl,h0,hp,hb⟩:=Hf.o k e he;obtain⟨h8,Hy⟩:=Mh hS.o k e he;rw[<-hT.o]at h8;have Hk:=an (zG he);have Ht:=an (show E.take (k+1)=E.take k++[e]from dZ he);have Hz:k<=E.length:=by have:=hC.o; omega
   have Hl:=an (Jh Hz);have q0:wr.cell? ⟨g,k,none⟩=some (.int .i64 (e:Int)):=by
    rw[<-hb];unfold World.cell?;rw[hf.o.keep g h0 hp]
   have Hd:=an (show bG S wr (.slice a n cap) data from cE.below hD.o (by omega) (hB.o.trans hf.o.below));obtain⟨sa,sc,hJ,hI⟩:=ro Hd.o h8 Hy;obtain⟨x,hx⟩: ∃x,x=iT data s e:=⟨_,rfl⟩;obtain⟨m,hz⟩: ∃m,m=x.length:=⟨_,rfl⟩;rw[<-hx,<-hz]at hJ hI;have Hw:=an hx;have hQ:=an hz;have HJ:m<=n:=by rw[hz,hx]; unfold iT; rw[bm,bA,<-HN.o]; omega
   have Hs:=an hI;have He:=an hb;clear he hb hx hz hI;have HI:k<c2:=by omega
   have h3:(k:Int)<(N:Int):=by omega
   have hr:=an (show Below wr.heap.size wr (wr.alloc (.cells #[] 5))from eN);have hR:=an (show(wr.alloc (.cells #[] 5)).ownsRow wr.heap.size 5 1 (.slice (some ⟨wr.heap.size,0,none⟩) 0 0) 0 []from di (e:=5) (size:=1) (base:=wr.heap.size) wr #[] 0 (au _) (aX _) (by simp));have Hp:=an (show cE S (wr.alloc (.cells #[] 5)) 1 (.slice sa m sc) m (x.map aY) by have h1:=Hs.o; unfold bG at h1; rw[<-hQ.o]at h1; exact cE.below h1 (by omega) hr.o)
   have Hb:wr.heap.size<=(wr.alloc (.cells #[] 5)).heap.size:=hr.o.size;have hH:0+m<1099511627775:=by omega
   have q4:(wr.alloc (.cells #[] 5)).cell? ⟨g,k,none⟩=some (.int .i64 (e:Int)):=(hr.o.cell (p:=⟨g,k,none⟩) (bS q0)).trans q0;have Ho:=an (show wr.ownsRow w.heap.size 29 1 (.slice ao l co) l (ys.map Prod.fst) by have h1:=hf.o.own; rw[<-hj.o]at h1; exact h1);have HF:w.heap.size<=wr.heap.size:=aB hV hf.o.below.size;go_wp2_with (at_builtin; first
    | (refine el Tryz.appBytes rfl _ _ rfl wr.heap.size (.slice (some ⟨wr.heap.size,0,none⟩) 0 0) 0 [] rfl hR.o (.slice sa m sc) m (x.map aY) rfl Hp.o (fo x) hH Hb ?_; intro v5 w5 ha hY; rw[bX,aL]at ha; obtain⟨a5,c5,rfl,-,-⟩:=aI ha; have Hq:=an ha; have hu:=an (cg hr.o hR.o hY (au _) Hb); have Hn:=an (cU Ho.o hu.o); have HE:w.heap.size<=w5.heap.size:=aB HF hu.o.size; have q5:w5.cell? ⟨g,k,none⟩=some (.int .i64 (e:Int)):=(hu.o.cell (p:=⟨g,k,none⟩) (bS q0)).trans q0; have Hx:=an (show ∀u∈[Value.slice a5 m c5],u.oneCell'=true by simp[Value.oneCell']); clear ha hY)
    | (go_loud (refine bR Tryz.appChunks rfl _ _ rfl w.heap.size (.slice ao l co) l (ys.map Prod.fst) rfl w5 [Value.slice a5 m c5] _ rfl rfl Hx.o Hn.o hG HE ?_); intro v6 w6 hd hZ _ hq; obtain⟨a6,c6,rfl,-,-⟩:=aI hd; have hO:=an (hf.o.push (pv:= .slice a5 m c5) (x:=x) hj.o hV hu.o (by rw[<-hQ.o]; exact Hq.o) hd hZ hq); have q6:w6.cell? ⟨g,k,none⟩=some (.int .i64 (e:Int)):=(by rw[<-He.o]; unfold World.cell?; rw[hO.o.keep g h0 hp]); clear hd hZ hq))
   have Hr:=an (show(ys++[((Value.slice a5 m c5:Value),x)]).map Prod.snd=jD data 0 (E.take (k+1)) by
    rw[Ht.o,lJ,Hl.o,<-hT.o,<-Hw.o,<-hU.o,aO]; rfl)
   exact⟨⟨k+1,e,l+1,ys++[(.slice a5 m c5,x)],a6,c6,by omega,by go_num,rfl,rfl,by rw[ar,<-hj.o]; rfl,by rw[Hj.o],by rw[Hk.o],Hr.o,hO.o⟩,by simp[intOf]; omega⟩
  ·have h3:k=N:=by omega
   subst h3;have Hh:=an (show ys.map Prod.snd=fS c data by rw[hU.o,hC.o,dg,Hc.o]);go_wp2_with fail;go_ret;exact⟨ao,co,ys,by rw[<-hj.o]; rfl,Hh.o,(by have h1:=hf.o.own; rw[hj.o]at h1; exact h1),hf.o.dat,hB.o.trans hf.o.below⟩
open Go Go.RowKit Go.Maps
theorem Ch {G:Prop} (T:Prop) (rest:HdS T->G) (tl:T):G:=rest (an tl)
theorem dP.keep {S:Nat->Prop} {w w':World} {v:Value} {l:List dj} (h:dP S w v l) (hs: ∀i,S i->w'.heap[i]? =w.heap[i]?):dP S w' v l:=
 cL.same h hs (fun _ _ _ ⟨v,h1,h2,h3⟩=>⟨v,h1,cE.same h2 hs,h3⟩)
structure RdX (base bb : Nat) (k : dm) (c : fL) (gs : List (ByteArray × Int)) (tree : List dj) : Prop where
 keys:jA k=true
 cut:jJ c=true
 seed:c.seed<18446744073709551616
 gens:kq gs
 bbb:base<=bb
 tok:yM tree
 small:nG tree
def Ox (base bb:Nat) (k:dm) (c:fL) (tv gv v:Value) (gs:List (ByteArray×Int)) (lg:Bool) (p:List UInt8×List (List UInt8)) (s:List dq×Bool) (w:World) (e:Ending) (w':World):Prop:=
 e= .returned (fa (bD k gs p.1))/\ ∃v',jV w' base bb k c tv gv v' lg (gD k gs p.2 s)/\jC base bb v v' w w'
def RdC (base bb:Nat) (k:dm) (c:fL) (gs:List (ByteArray×Int)) (tree:List dj) (tv gv:Value) (lg:Bool) (f:Nat):Prop:= ∀(d:ByteArray) (v:Value) (s:List dq×Bool) (w:World),
 (bl d).length<=512->512<f+(bl d).length->jV w base bb k c tv gv v lg s->kR (· <base) w gv gs->dP (· <base) w tv tree->s.1.length+(eK k gs c tree f d).2.length<=1000000->
 Calls Tryz.prog 76 #[.pointer (some ⟨bb,0,none⟩), .string d] w (Ox base bb k c tv gv v gs lg (eK k gs c tree f d) s w)
def qj (w:World) (base:Nat) (pv:Value) (ys:List (Value×List UInt8)):Prop:=w.ownsRow base 29 1 pv ys.length (ys.map Prod.fst)/\ ∀y∈ys,w.ownsRow base 5 1 y.1 y.2.length (y.2.map aY)
section
variable {w w' wc : World} {base bb M n sz xb q : Nat} {pv rv u v v' tv gv : Value} {ys : List (Value × List UInt8)} {k : dm} {c : fL} {lg : Bool} {s : List dq × Bool} {xs : List Value} {cs : Array Value}
theorem qj.below (h:qj w base pv ys) (hb:Below w.heap.size w w'):qj w' base pv ys:=⟨cU h.1 hb,fun y hy=>cU (h.2 y hy) hb⟩
theorem qj.kp (h:qj w base pv ys) (hr:jV w base bb k c tv gv v lg s) (hk:jC base bb v v' w w'):qj w' base pv ys:=⟨jC.row hr hk h.1 (by decide) (by decide),fun y hy=>jC.row hr hk (h.2 y hy) (by decide) (by decide)⟩
theorem qj.push (h:qj w base pv ys) (hrow:w.ownsRow M 26 sz rv n xs) (hg:w.grownBy wc rv.ownBlock) (hx:wc.heap[xb]? =some (.cells cs 28 (0,0))):qj (wc.setCell ⟨xb,q,none⟩ u) base pv ys:=by
 have key: ∀ {t:TypeId} {n' z:Nat} {v':Value} {xs':List Value},w.ownsRow base t z v' n' xs'->t≠26->t≠28->(wc.setCell ⟨xb,q,none⟩ u).ownsRow base t z v' n' xs':=fun hr h1 h2=>by
  have h3:=gI hr hrow hg h1;refine eV h3 (fun i hi hu=>aF _ _ _ _ (fun e=> ?_));obtain⟨cs2,ha⟩:=bL h3 hu;exact h2 (bV (e▸ha) hx)
 exact⟨key h.1 (by decide) (by decide),fun y hy=>key (h.2 y hy) (by decide) (by decide)⟩
theorem qj.grown (h:qj w base pv ys) (hrow:w.ownsRow M 26 sz rv n xs) (hg:w.grownBy wc rv.ownBlock):qj wc base pv ys:=
 ⟨gI h.1 hrow hg (by decide),fun y hy=>gI (h.2 y hy) hrow hg (by decide)⟩
theorem qj.at' {b o n cap m:Nat} {y:Value×List UInt8} (h:qj w base (.slice (some ⟨b,o,none⟩) n cap) ys) (hy:ys[m]? =some y):w.cell? ⟨b,o+m,none⟩=some y.1:=by
 obtain⟨_,a,cap,e,_,_,h0⟩:=cG h.1;have ha:=(aN.1 hy).1
 rcases h0 with h0 | ⟨b',o',rfl,_,hc⟩
 ·omega
 ·cases e
  exact hc m y.1 (by rw[bn,hy]; rfl)
theorem yK.grown {it:cr} {v3 iv:Value} {rs:List cX} {its:List cr} (h:yK w base bb k c tv gv v lg M xb w' v3 iv s its rv it rs) (hg:w'.grownBy wc rv.ownBlock):wc.heap[xb]? =some (.cells (fh rv it).toArray 28 (0,0)):=
 (hg.block xb (az h.box) (fun e=>by
  obtain⟨cs2,hc2⟩:=bL h.row e.symm;exact absurd (bV h.box hc2) (by decide))).trans h.box
theorem qj.cell (h:qj w base pv ys) {m:Nat} {y:Value×List UInt8} (hy:ys[m]? =some y): ∃b o cap,pv= .slice (some ⟨b,o,none⟩) ys.length cap/\w.cell? ⟨b,o+m,none⟩=some y.1:=by
 obtain⟨_,a,cap,e,_,_,h0⟩:=cG h.1;have ha:=(aN.1 hy).1
 rcases h0 with h0 | ⟨b,o,rfl,_,hc⟩
 ·omega
 ·exact⟨b,o,cap,e,hc m y.1 (by rw[bn,hy]; rfl)⟩
end
theorem JF {base bb:Nat} {k:dm} {c:fL} {gs:List (ByteArray×Int)} {tree:List dj} {tv gv:Value} {lg:Bool} (f:Nat) (hX:RdX base bb k c gs tree) (IH:RdC base bb k c gs tree tv gv lg f):RdC base bb k c gs tree tv gv lg (f+1):=by
 intro d v s w hd hf h hg ht h9;have Zv:=az h.box;have hD:base<=w.heap.size:=by have:=hX.bbb; omega
 obtain⟨ta,tc,rfl,Zp,Zq,-⟩:=cL.shape ht lX.len;unfold maxLen at Zq;obtain⟨n,hn⟩: ∃n,n=tree.length:=⟨_,rfl⟩;rw[<-hn]at ht Zp h IH ⊢;have HN:=an hn;have Zn:n<=12:=by rw[hn]; exact hX.small.len
 have HX:=an hX;have z6:=an IH;have HG:=an hg;have HT:=an ht;have YP:=an h9;have HD:=an hd;have HF:=an hf;obtain⟨W0,HB⟩: ∃W0,W0=(w.alloc (.cells #[.string ⟨#[]⟩, .int .i64 0, .int .i64 0] 26)).alloc (.cells #[] 28):=⟨_,rfl⟩;have Ys:Below w.heap.size w W0:=by rw[HB]; exact(eN).alloc (by simp) _
 have YC:(w.alloc (.cells #[.string ⟨#[]⟩, .int .i64 0, .int .i64 0] 26)).heap.size=w.heap.size+1:=by simp
 have Hq:=an (show KG w base bb k c (.slice ta n tc) gv v lg W0 v (.slice (some ⟨w.heap.size+1,0,none⟩) 0 0) s []from⟨h.below Ys,jC.ofBelow Ys hD,⟨[],rfl,by
  have h1:=di (e:=28) (size:=10) (base:=w.heap.size) (w.alloc (.cells #[.string ⟨#[]⟩, .int .i64 0, .int .i64 0] 26)) #[] 0 (by rw[YC]; omega) (aX _) (by simp);rw[YC,<-HB]at h1;exact h1,by simp⟩,by rw[HB]; exact mT (dY w _) _⟩)
 clear hX IH hg ht h9 hd hf h Ys YC hn
 go_enter Tryz.func76,Tryz.ntmps76
 go_upto_region 2 with(fail)
 rw[<-HB];clear HB;go_wp2_with fail
 go_loopw [5,6] (fun iv i wr=> ∃(j:Nat) (v2:Value),j<=n/\i= .int .i64 (j:Int)/\KG w base bb k c (.slice ta n tc) gv v lg wr v2 iv (gD k gs ((dz (tree.take j) d).flatMap (iL k gs c tree f)) s) ((dz (tree.take j) d).map fun e=>cM k gs c d e (bD k gs (eK k gs c tree f e.path).1))) (fun _ i _=>n-(intOf i).toNat)
 case atStart=>exact⟨0,v,aX _,rfl,Hq.o⟩
 case round=>
  obtain⟨j,v2,hj,rfl,hQ⟩:=hrel;obtain⟨s2,YB⟩: ∃s2,s2=gD k gs ((dz (tree.take j) d).flatMap (iL k gs c tree f)) s:=⟨_,rfl⟩;obtain⟨its,hw⟩: ∃its,its=(dz (tree.take j) d).map fun e=>cM k gs c d e (bD k gs (eK k gs c tree f e.path).1):=⟨_,rfl⟩
  rw[<-YB,<-hw]at hQ;have H5:=an YB;have Yg:=an hw;have hT:=an hQ;have Hj:its.length<=12:=by rw[hw,aE]; exact aB (dF _ _) (by rw[bm,<-HN.o]; omega)
  clear hQ Hq YB hw;have hh:=hT.o.bd.box;have k5:=aA (k:=5) hh;have k6:=aA (k:=6) hh;have k7:=aA (k:=7) hh;have k8:=aA (k:=8) hh;have k9:=aA (k:=9) hh;have k10:=aA (k:=10) hh;simp only[tr,eI,fR,aM,aL,ak,am,aj]at k5 k6 k7 k8 k9 k10
  clear hh
  by_cases Zl:j<n
  ·obtain⟨e,he⟩: ∃e,tree[j]? =some e:=⟨tree[j]'(by rw[<-HN.o]; exact Zl),by simp⟩;have HE:=an he;have Ze:=an (HT.o.keep (w':=wr) (fun i hi=>hT.o.kp.below.block i hi));obtain⟨tb,ot,dv,rfl,-,-,Hh,yb,-,p0,p1,p2,p3,p4,p5⟩:=iF Ze.o he;obtain⟨da,dc,Zh,Zg,Zf⟩:=dJ.slice Hh
   subst Zh;have Yz:e∈tree:=aS he;have z5:=an Yz;have H6:=an (HX.o.tok.val e Yz);have Zt:=an yb;have z4:=an Hh
   have YM:=an (wT (d:=d) he);have Zo:e.path.size<=512:=(mh H6.o).1;have H0:=an (aB hD hT.o.kp.below.size);obtain⟨dn,Hi⟩: ∃l,l=e.data.length:=⟨_,rfl⟩;rw[<-Hi]at p4 Zg;unfold maxLen at Zf;have YH:=an Hi;clear Hh yb he Yz Hi
   go_upto_region 6 with(fail)
   obtain⟨W1,H7⟩: ∃W1:World,W1=wr.alloc (.cells #[.string e.path, .int .i64 e.kind, .int .i64 e.mode, .int .i64 e.time, .slice da dn dc, .string e.link] 79):=⟨_,rfl⟩;rw[<-H7];have YZ:Below wr.heap.size wr W1:=by rw[H7]; exact eN
   have Yn:=an (show W1.heap[wr.heap.size]? =some (.cells #[.string e.path, .int .i64 e.kind, .int .i64 e.mode, .int .i64 e.time, .slice da dn dc, .string e.link] 79 (0,0)) by rw[H7]; exact dY wr _);have y6:=an YZ;clear H7 YZ p0 p1 p2 p3 p4 p5 k5 k6 k7 k8 k9 k10;obtain⟨d0,d1,d2,d3,d4,d5,_⟩:=aT Yn.o
   by_cases hQ:cu (bl e.path)=bl d
   ·have H2:=an hQ;have HQ:=an (show d=⟨(cu (bl e.path)).toArray⟩from GO hQ.symm);clear hQ;go_wp2_with (go_at_call 92; refine(oB e.path d _ (by omega) HQ.o).mono ?_; rintro e7 w7 ⟨rfl,hP⟩; have HZ:=an (aw y6.o hP); have YT:=an (dV hP Yn.o); clear hP);clear d0 d1 d2 d3 d4 d5;obtain⟨W2,Yp⟩: ∃W,W=w7.drew:=⟨_,rfl⟩;have Yt:Below w7.heap.size w7 W2:=by rw[Yp]; exact(ay _ _).drew
    have y7:=an (aw HZ.o Yt);have hv:=an (dV Yt YT.o);obtain⟨nm,YA⟩: ∃nm:ByteArray,nm=⟨(lV (bl d) (bl e.path)).toArray⟩:=⟨_,rfl⟩;have YN:=an (show wY (bl e.path)=nm by rw[YA]; exact LJ H6.o H2.o);have H1:=an YA;refine ey (fun w'=>w'.heap[wr.heap.size]? =some (.cells #[.string e.path, .int .i64 e.kind, .int .i64 e.mode, .int .i64 e.time, .slice da dn dc, .string e.link] 79 (0,0))) (by kernel_rfl) (by kernel_rfl) ?_
    simp only[bw,bz,aG,bo,Nat.reduceAdd,Nat.reduceSub];rw[<-Yp];clear Yp Yt YT HZ Yn y6 YA
    iterate 2 (refine cF rfl (by kernel_rfl) (fun _ _ _ h=>h) rfl hv.o (by rintro w' hx; have d0:=bH (k:=0) hx; have d1:=bH (k:=1) hx; have d2:=bH (k:=2) hx; have d3:=bH (k:=3) hx; have d4:=bH (k:=4) hx; have d5:=bH (k:=5) hx; simp only[ak,am,aj]at d0 d1 d2 d3 d4 d5; clear hx; go_simp; rfl) ?_; simp only[Act.put,ag,ai,ah])
    refine bJ 3 rfl (by kernel_rfl) (by kernel_rfl) (by kernel_rfl) (fun _ _ _ h=>h) rfl hv.o (by rintro w' hx; have d0:=bH (k:=0) hx; have d1:=bH (k:=1) hx; have d2:=bH (k:=2) hx; have d3:=bH (k:=3) hx; have d4:=bH (k:=4) hx; have d5:=bH (k:=5) hx; simp only[ak,am,aj]at d0 d1 d2 d3 d4 d5; clear hx; go_simp; rfl) ?_
    simp only[Act.put,ag,ai,ah];refine bJ 4 rfl (by kernel_rfl) (by kernel_rfl) (by kernel_rfl) (fun _ _ _ h=>h) rfl hv.o (by rintro w' hx; have d0:=bH (k:=0) hx; have d1:=bH (k:=1) hx; have d2:=bH (k:=2) hx; have d3:=bH (k:=3) hx; have d4:=bH (k:=4) hx; have d5:=bH (k:=5) hx; simp only[ak,am,aj]at d0 d1 d2 d3 d4 d5; clear hx; go_simp; rfl) ?_
    simp only[Act.put,ag,ai,ah];refine bJ 5 rfl (by kernel_rfl) (by kernel_rfl) (by kernel_rfl) (fun _ _ _ h=>h) rfl hv.o (by rintro w' hx; have d0:=bH (k:=0) hx; have d1:=bH (k:=1) hx; have d2:=bH (k:=2) hx; have d3:=bH (k:=3) hx; have d4:=bH (k:=4) hx; have d5:=bH (k:=5) hx; simp only[ak,am,aj]at d0 d1 d2 d3 d4 d5; clear hx; go_simp; rfl) ?_
    simp only[Act.put,ag,ai,ah];refine bJ 6 rfl (by kernel_rfl) (by kernel_rfl) (by kernel_rfl) (fun _ _ _ h=>h) rfl hv.o (by rintro w' hx; have d0:=bH (k:=0) hx; have d1:=bH (k:=1) hx; have d2:=bH (k:=2) hx; have d3:=bH (k:=3) hx; have d4:=bH (k:=4) hx; have d5:=bH (k:=5) hx; simp only[ak,am,aj]at d0 d1 d2 d3 d4 d5; clear hx; go_simp; rfl) ?_
    simp only[Act.put,ag,ai,ah];refine bJ 7 rfl (by kernel_rfl) (by kernel_rfl) (by kernel_rfl) (fun _ _ _ h=>h) rfl hv.o (by rintro w' hx; have d0:=bH (k:=0) hx; have d1:=bH (k:=1) hx; have d2:=bH (k:=2) hx; have d3:=bH (k:=3) hx; have d4:=bH (k:=4) hx; have d5:=bH (k:=5) hx; simp only[ak,am,aj]at d0 d1 d2 d3 d4 d5; clear hx; go_simp; rfl) ?_
    simp only[Act.put,ag,ai,ah];refine bJ 8 rfl (by kernel_rfl) (by kernel_rfl) (by kernel_rfl) (fun _ _ _ h=>h) rfl hv.o (by rintro w' hx; have d0:=bH (k:=0) hx; have d1:=bH (k:=1) hx; have d2:=bH (k:=2) hx; have d3:=bH (k:=3) hx; have d4:=bH (k:=4) hx; have d5:=bH (k:=5) hx; simp only[ak,am,aj]at d0 d1 d2 d3 d4 d5; clear hx; go_simp; rfl) ?_
    simp only[Act.put,ag,ai,ah];refine bJ 9 rfl (by kernel_rfl) (by kernel_rfl) (by kernel_rfl) (fun _ _ _ h=>h) rfl hv.o (by rintro w' hx; have d0:=bH (k:=0) hx; have d1:=bH (k:=1) hx; have d2:=bH (k:=2) hx; have d3:=bH (k:=3) hx; have d4:=bH (k:=4) hx; have d5:=bH (k:=5) hx; simp only[ak,am,aj]at d0 d1 d2 d3 d4 d5; clear hx; go_simp; rfl) ?_
    simp only[Act.put,ag,ai,ah];refine bJ 10 rfl (by kernel_rfl) (by kernel_rfl) (by kernel_rfl) (fun _ _ _ h=>h) rfl hv.o (by rintro w' hx; have d0:=bH (k:=0) hx; have d1:=bH (k:=1) hx; have d2:=bH (k:=2) hx; have d3:=bH (k:=3) hx; have d4:=bH (k:=4) hx; have d5:=bH (k:=5) hx; simp only[ak,am,aj]at d0 d1 d2 d3 d4 d5; clear hx; go_simp; rfl) ?_
    simp only[Act.put,ag,ai,ah];refine bJ 11 rfl (by kernel_rfl) (by kernel_rfl) (by kernel_rfl) (fun _ _ _ h=>h) rfl hv.o (by rintro w' hx; have d0:=bH (k:=0) hx; have d1:=bH (k:=1) hx; have d2:=bH (k:=2) hx; have d3:=bH (k:=3) hx; have d4:=bH (k:=4) hx; have d5:=bH (k:=5) hx; simp only[ak,am,aj]at d0 d1 d2 d3 d4 d5; clear hx; go_simp; rfl) ?_
    simp only[Act.put,ag,ai,ah];refine bJ 12 rfl (by kernel_rfl) (by kernel_rfl) (by kernel_rfl) (fun _ _ _ h=>h) rfl hv.o (by rintro w' hx; have d0:=bH (k:=0) hx; have d1:=bH (k:=1) hx; have d2:=bH (k:=2) hx; have d3:=bH (k:=3) hx; have d4:=bH (k:=4) hx; have d5:=bH (k:=5) hx; simp only[ak,am,aj]at d0 d1 d2 d3 d4 d5; clear hx; go_simp; rfl) ?_
    simp only[Act.put,ag,ai,ah];refine bJ 13 rfl (by kernel_rfl) (by kernel_rfl) (by kernel_rfl) (fun _ _ _ h=>h) rfl hv.o (by rintro w' hx; have d0:=bH (k:=0) hx; have d1:=bH (k:=1) hx; have d2:=bH (k:=2) hx; have d3:=bH (k:=3) hx; have d4:=bH (k:=4) hx; have d5:=bH (k:=5) hx; simp only[ak,am,aj]at d0 d1 d2 d3 d4 d5; clear hx; go_simp; rfl) ?_
    simp only[Act.put,ag,ai,ah]
    apply Ch
    ·intro tail;refine sS 2 15 rfl rfl (by kernel_rfl) rfl rfl (fun K hK=> ?ca) (fun K hK=> ?al)
     case ca=>
      go_wp2_with fail;refine(wX e.path _ (by omega)).mono ?_;rintro e' w3 ⟨rfl,Hf⟩;rw[YN.o];have h4:=an (aw y7.o Hf);have hU:=an (dV Hf hv.o);clear Hf;go_wp2_with fail;refine⟨hU.o, ?_⟩;refine bJ 14 rfl (by kernel_rfl) (by kernel_rfl) (by kernel_rfl) (fun _ _ _ h=>h) rfl hU.o (by rintro w' hx; have d0:=bH (k:=0) hx; have d1:=bH (k:=1) hx; have d2:=bH (k:=2) hx; have d3:=bH (k:=3) hx; have d4:=bH (k:=4) hx; have d5:=bH (k:=5) hx; simp only[ak,am,aj]at d0 d1 d2 d3 d4 d5; clear hx; go_simp; rfl) ?_
      simp only[Act.put,ag,ai,ah];refine cy 15 rfl (fun K hK=> ?_);go_wp2_with fail;obtain⟨W,hW⟩: ∃W,W=w3.alloc (.cells #[.string ⟨#[]⟩, .int .i64 0, .int .i64 0, .int .i64 0, .int .i64 0, .string ⟨#[]⟩, .slice none 0 0, .string ⟨#[]⟩, .int .i64 0, .int .i64 0] 28):=⟨_,rfl⟩;obtain⟨xb,hR⟩: ∃b,b=w3.heap.size:=⟨_,rfl⟩
      have hY:W.heap[xb]? =some (.cells #[.string ⟨#[]⟩, .int .i64 0, .int .i64 0, .int .i64 0, .int .i64 0, .string ⟨#[]⟩, .slice none 0 0, .string ⟨#[]⟩, .int .i64 0, .int .i64 0] 28 (0,0)):=by rw[hW,hR]; exact aH w3 _
      have hG:Below w3.heap.size w3 W:=by rw[hW]; exact eN
      have hB:Below wr.heap.size wr W:=aw h4.o hG;have hE:W.heap[wr.heap.size]? =some (.cells #[.string e.path, .int .i64 e.kind, .int .i64 e.mode, .int .i64 e.time, .slice da dn dc, .string e.link] 79 (0,0)):=dV hG hU.o;have hM:wr.heap.size<xb:=by rw[hR]; exact az hU.o
      rw[<-hW,<-hR];refine⟨hE, ?_⟩;refine cH (by kernel_rfl) ?_;clear hW hR hG h4 hU;have hF:=aD hB (aD hE (aD hY hM));clear hB hE hY hM
      revert hF
      revert xb
      revert W
      exact tail.o
     case al=>
      go_wp2_with fail;obtain⟨W3,H8⟩: ∃W,W=W2.alloc (.cells #[.string ⟨#[]⟩, .int .i64 0, .int .i64 0, .int .i64 0, .int .i64 0, .string ⟨#[]⟩, .slice none 0 0, .string ⟨#[]⟩, .int .i64 0, .int .i64 0] 28):=⟨_,rfl⟩;obtain⟨xb,hR⟩: ∃b,b=W2.heap.size:=⟨_,rfl⟩;have zc:W3.heap[xb]? =some (.cells #[.string ⟨#[]⟩, .int .i64 0, .int .i64 0, .int .i64 0, .int .i64 0, .string ⟨#[]⟩, .slice none 0 0, .string ⟨#[]⟩, .int .i64 0, .int .i64 0] 28 (0,0)):=by rw[H8,hR]; exact aH W2 _
      have Hd:=an zc;have Hf:Below W2.heap.size W2 W3:=by rw[H8]; exact eN
      have h4:=an (aw y7.o Hf);have hU:=an (dV Hf hv.o);have hM:wr.heap.size<xb:=by rw[hR]; exact az hv.o
      rw[<-H8,<-hR];clear H8 hR zc Hf;refine⟨hU.o, ?_⟩;refine cy 2 rfl (fun K hK=> ?_);go_wp2_with fail;refine(wX e.path _ (by omega)).mono ?_;rintro e' W ⟨rfl,hG⟩;rw[YN.o];have hB:Below wr.heap.size wr W:=aw h4.o hG;have hE:W.heap[wr.heap.size]? =some (.cells #[.string e.path, .int .i64 e.kind, .int .i64 e.mode, .int .i64 e.time, .slice da dn dc, .string e.link] 79 (0,0)):=dV hG hU.o
      have hY:=dV hG Hd.o;have HE:=an hE;clear hG h4 hU Hd;go_wp2_with fail;refine⟨HE.o, ?_⟩;refine bJ 14 rfl (by kernel_rfl) (by kernel_rfl) (by kernel_rfl) (fun _ _ _ h=>h) rfl HE.o (by rintro w' hx; have d0:=bH (k:=0) hx; have d1:=bH (k:=1) hx; have d2:=bH (k:=2) hx; have d3:=bH (k:=3) hx; have d4:=bH (k:=4) hx; have d5:=bH (k:=5) hx; simp only[ak,am,aj]at d0 d1 d2 d3 d4 d5; clear hx; go_simp; rfl) ?_
      simp only[Act.put,ag,ai,ah];refine cH (by kernel_rfl) ?_;clear HE;have hF:=aD hB (aD hE (aD hY hM));clear hB hE hY hM
      revert hF
      revert xb
      revert W
      exact tail.o
    ·rintro W3 xb ⟨hB,hE,hY,hR⟩;have h4:=an hB;have YI:=an hE;have Hd:=an hY;clear hB hE hY hv y7;refine eJ rfl rfl (fun K hK=> ?_);obtain⟨i0,i1,i2,i3,i4,i5,i6,i7,i8,i9,_⟩:=aT Hd.o;obtain⟨g0,g1,g2,g3,g4,g5,g6,g7,g8,g9,_⟩:=gu Hd.o
     go_upto_region 8 with(fail)
     obtain⟨W4,HC⟩: ∃W4:World,W4=((((((((((W3.setCell ⟨xb,0,none⟩ (.string nm)).setCell ⟨xb,1,none⟩ (.int .i64 e.kind)).setCell ⟨xb,2,none⟩ (.int .i64 e.mode)).setCell ⟨xb,3,none⟩ (.int .i64 e.time)).setCell ⟨xb,4,none⟩ (.int .i64 (dn:Int))).setCell ⟨xb,5,none⟩ (.string e.link)).setCell ⟨xb,6,none⟩ (.slice none 0 0)).setCell ⟨xb,7,none⟩ (.string ⟨#[]⟩)).setCell ⟨xb,8,none⟩ (.int .i64 0)).setCell ⟨xb,9,none⟩ (.int .i64 0)):=⟨_,rfl⟩
     rw[<-HC];have hJ:(fh (.slice none 0 0) (cM k gs c d e ef)).toArray= #[.string nm, .int .i64 e.kind, .int .i64 e.mode, .int .i64 e.time, .int .i64 (dn:Int), .string e.link, .slice none 0 0, .string ⟨#[]⟩, .int .i64 0, .int .i64 0]:=by
      unfold fh;rw[zu H6.o,<-YH.o,H1.o];unfold cM;simp[ef]
     have hG:Below wr.heap.size wr W4:=by rw[HC]; exact ij h4.o (by omega)
     have hS:=an (hT.o.item (xb:=xb) (it:=cM k gs c d e ef) hG (by rw[hJ,HC]; exact Af Hd.o) (by omega) H0.o);have Ya:=an (show W4.heap[wr.heap.size]? =some (.cells #[.string e.path, .int .i64 e.kind, .int .i64 e.mode, .int .i64 e.time, .slice da dn dc, .string e.link] 79 (0,0)) by rw[HC]; exact(mj (show wr.heap.size≠xb by omega)).trans YI.o);have y8:=an hG
     clear HC hJ hG Hd h4 YI i0 i1 i2 i3 i4 i5 i6 i7 i8 i9 g0 g1 g2 g3 g4 g5 g6 g7 g8 g9;obtain⟨d0,d1,d2,d3,d4,d5,_⟩:=aT Ya.o;have YL:=an (show dz (tree.take (j+1)) d=dz (tree.take j) d++[e] by rw[YM.o,if_pos H2.o]);have Yl:=an (show gD k gs ((dz (tree.take (j+1)) d).flatMap (iL k gs c tree f)) s=gD k gs (iL k gs c tree f e) s2 by rw[YL.o,bW,pR,<-H5.o]; simp)
     have Yf:=an (show((dz (tree.take (j+1)) d).map fun e=>cM k gs c d e (bD k gs (eK k gs c tree f e.path).1))=its++[cM k gs c d e (bD k gs (eK k gs c tree f e.path).1)] by rw[YL.o,aO,<-Yg.o]; rfl);have YO:=an (show s2.1.length+(iL k gs c tree f e).length<=1000000 by
      have h1:=rk (k:=k) (gs:=gs) ((dz (tree.take j) d).flatMap (iL k gs c tree f)) s;rw[<-H5.o]at h1;have h2:=Jd (g:=iL k gs c tree f) HE.o H2.o;have h3:=YP.o;rw[gx,ar]at h3
      omega)
     have Yi:=an (fun nd (hn:eC nd)=>(show ii (cM k gs c d e nd)from by
      have h1:=CN (bl d) (bl e.path);rw[<-bi e.path]at h1;have h2:=(mh H6.o).2.1;refine⟨?_, ?_, ?_⟩
      ·show ByteArray.size ⟨_⟩<=_
       simp only[ByteArray.size,bU];unfold maxLen; omega
      ·show e.link.size<=_
       unfold maxLen; omega
      ·show eC (if e.kind=2 then nd else ef)
       split
       ·exact hn
       ·exact nU))
     by_cases h8:e.kind=1
     ·have e1:(e.kind == 1)=true:=by simp[h8]
      have h7:=an h8;clear h8
      go_upto_region 10 with(fail)
      clear d0 d1 d2 d3 d4 d5;have Zw:e.data.length<=60:=HX.o.small.data e z5.o;have Yw:=aB H0.o y8.o.size;refine eH (fun w'=>fV bb k c (.slice (some ⟨tb,ot,none⟩) n tc) gv v2 lg s2.2 w'/\w'.heap[wr.heap.size]? =some (.cells #[.string e.path, .int .i64 e.kind, .int .i64 e.mode, .int .i64 e.time, .slice da dn dc, .string e.link] 79 (0,0))) (by kernel_rfl) ?_
      obtain⟨V,hV⟩: ∃V:World,V=W4.drew:=⟨_,rfl⟩;rw[<-hV];have Hg:Below W4.heap.size W4 V:=by rw[hV]; exact(ay _ _).drew
      have hO:=an (hS.o.below Hg Yw);have Yb:=an (dV Hg Ya.o);have y9:=an (aw y8.o Hg);have SV:=an (show fV bb k c (.slice (some ⟨tb,ot,none⟩) n tc) gv v2 lg s2.2 V/\V.heap[wr.heap.size]? =some (.cells #[.string e.path, .int .i64 e.kind, .int .i64 e.mode, .int .i64 e.time, .slice da dn dc, .string e.link] 79 (0,0))from aD hO.o.bd.box Yb.o);clear hV Hg hS Ya y8
      iterate 6 (refine cF rfl (by kernel_rfl) (fun _ _ _ h=>h) rfl SV.o (by rintro w' ⟨hA,hx⟩; unfold fV at hA; have k5:=aA (k:=5) hA; have k6:=aA (k:=6) hA; have k7:=aA (k:=7) hA; have k8:=aA (k:=8) hA; have k9:=aA (k:=9) hA; have d4:=bH (k:=4) hx; simp only[tr,eI,fR,aM,aL,ak,am,aj]at k5 k6 k7 k8 k9 d4; clear hx hA; go_simp; rfl) ?_; simp only[Act.put,ag,ai,ah])
      refine cy 6 rfl (fun K hK=> ?_);go_wp2_with fail;refine(DJ (fun _=>True) c e.data (.slice da dn dc) V HX.o.cut HX.o.seed (by show cE _ V 1 (.slice da dn dc) e.data.length (e.data.map aY); have h1:=(dJ.below z4.o y9.o).weak (T:=fun _=>True) fun _ _=>trivial; rw[YH.o]; exact h1) (by omega)).mono ?_;rintro e' w5 ⟨pa,pcap,ys,rfl,YG,Y5,Y4,Yu⟩;have hZ:=aB H0.o y9.o.size
      have Hb:=an (hO.o.below Yu hZ);have S5:=an (show fV bb k c (.slice (some ⟨tb,ot,none⟩) n tc) gv v2 lg s2.2 w5/\w5.heap[wr.heap.size]? =some (.cells #[.string e.path, .int .i64 e.kind, .int .i64 e.mode, .int .i64 e.time, .slice da dn dc, .string e.link] 79 (0,0))from aD Hb.o.bd.box (dV Yu Yb.o));have Yj:=an (show qj w5 base (.slice pa ys.length pcap) ys from⟨fT Y5 hZ,fun y hy=>fT (Y4 y hy) hZ⟩)
      have YX:=an YG;obtain⟨yn,YF⟩: ∃l,l=ys.length:=⟨_,rfl⟩;have YW:=an YF;have y4:yn<=60:=by
       have h1:=sP HX.o.cut e.data;rw[<-YG,aE]at h1;omega
      rw[<-YF]at Yj ⊢;clear YG Y5 Y4 Yu YF hO Yb y9 SV hZ;go_wp2_with fail;refine⟨S5.o, ?_⟩;refine cF rfl (by kernel_rfl) (fun _ _ _ h=>h) rfl S5.o (by rintro w' ⟨hA,hx⟩; unfold fV at hA; have k5:=aA (k:=5) hA; have k6:=aA (k:=6) hA; have k7:=aA (k:=7) hA; have k8:=aA (k:=8) hA; have k9:=aA (k:=9) hA; have d4:=bH (k:=4) hx; simp only[tr,eI,fR,aM,aL,ak,am,aj]at k5 k6 k7 k8 k9 d4; clear hx hA; go_simp; rfl) ?_
      simp only[Act.put,ag,ai,ah];refine cH (by kernel_rfl) ?_;clear S5;obtain⟨itf,Hk⟩: ∃it,it=cM k gs c d e ef:=⟨_,rfl⟩;have Ye:=an Hk;have Ho:=Hb.o;rw[<-Hk]at Ho;have YJ:=an Ho;clear Hk Ho Hb;obtain⟨wo,Zr⟩: ∃wo:World,wo=wr:=⟨_,rfl⟩;subst Zr;go_wp2_with fail
      go_loopw [10] (fun i wq=> ∃(m:Nat) (v3 u6:Value),m<=yn/\i= .int .i64 (m:Int)/\yK w base bb k c (.slice (some ⟨tb,ot,none⟩) n tc) gv v lg wo.heap.size xb wq v3 u5 (gD k gs ((fS c e.data).take m) s2) its u6 itf (((fS c e.data).take m).map (bD k gs))/\qj wq base (.slice pa yn pcap) ys) (fun i _=>yn-(intOf i).toNat)
      case atStart=>exact⟨0,v2, .slice none 0 0,aX _,rfl,YJ.o,Yj.o⟩
      case round=>
       obtain⟨m,v3,u6,hm,rfl,h0,Y6⟩:=hrel;obtain⟨rs,y3⟩: ∃rs,rs=((fS c e.data).take m).map (bD k gs):=⟨_,rfl⟩;obtain⟨sm,Ha⟩: ∃s,s=gD k gs ((fS c e.data).take m) s2:=⟨_,rfl⟩;rw[<-y3,<-Ha]at h0;obtain⟨ra,rc,rfl,-,-⟩:=aI h0.row;have Y1:yn=(fS c e.data).length:=by rw[YW.o,<-YX.o,aE]
       obtain⟨rn,yv⟩: ∃l,l=rs.length:=⟨_,rfl⟩;have za:rn=m:=by rw[yv,y3,aE,bm]; omega
       rw[<-yv]at h0;have Hr:=an h0;have Hw:=an Y6;have YR:=an y3;have Ym:=an Ha;have YQ:=an yv;have Yk:=an za;have zz:=an Y1;have Y0:base<=wr.heap.size:=aB hD Hr.o.kp.below.size;clear h0 Y6 YJ Yj y3 Ha yv za Y1
       by_cases Zm:m<yn
       ·obtain⟨y,hy⟩: ∃y,ys[m]? =some y:=⟨ys[m]'(by rw[<-YW.o]; exact Zm),by simp⟩;have HY:=an hy;obtain⟨pb,po,pc,Y8,HO⟩:=Hw.o.cell hy;simp only[cS]at Y8;obtain⟨rfl,-,-⟩:=Y8;have zl:=Hw.o.2 y (aS hy);obtain⟨ya,yc,y5,-,-⟩:=aI zl;obtain⟨yl,y4⟩: ∃l,l=y.2.length:=⟨_,rfl⟩;rw[<-y4]at y5;rw[y5]at HO
        have HA:=an y5;have Zu:=an y4;have Yo:=an (show(fS c e.data)[m]? =some y.2 by rw[<-YX.o,bn,hy]; rfl);clear hy zl y5 y4 HO
        go_upto_region 14 with(fail)
        refine ey (fun w'=>w'.heap[xb]? =some (.cells (fh (.slice ra rn rc) itf).toArray 28 (0,0))/\w'.cell? ⟨pb,po+m,none⟩=some (.slice ya yl yc)) (by kernel_rfl) (by kernel_rfl) ?_;simp only[bw,bz,aG,bo,Nat.reduceAdd,Nat.reduceSub];obtain⟨V,hV⟩: ∃V:World,V=wr.drew:=⟨_,rfl⟩;rw[<-hV]
        have hP:Below wr.heap.size wr V:=by rw[hV]; exact(ay _ _).drew
        have hO:=an (Hr.o.below hP Y0);have H3:=an (Hw.o.below hP);have SV:=an (show V.heap[xb]? =some (.cells (fh (.slice ra rn rc) itf).toArray 28 (0,0))/\V.cell? ⟨pb,po+m,none⟩=some (.slice ya yl yc)from aD hO.o.box (by rw[<-HA.o]; exact H3.o.at' HY.o));clear hV hP Hr Hw Y0
        iterate 7 (refine cF rfl (by kernel_rfl) (fun _ _ _ h=>h) rfl SV.o (by rintro w' ⟨hx,hp⟩; unfold fh at hx; have i6:=aA (k:=6) hx; simp only[ak,am,aj]at i6; clear hx; go_simp; rfl) ?_; simp only[Act.put,ag,ai,ah])
        have Y9:sm.1.length<=1000000:=by
         have h1:=rk (k:=k) (gs:=gs) ((fS c e.data).take m) s2;rw[<-Ym.o]at h1;have h2:(((fS c e.data).take m)).length<=(fS c e.data).length:=by rw[bm]; omega
         have h3:=YO.o;unfold iL at h3;rw[if_pos h7.o]at h3;omega
        have HU:y.2.length<=32768:=(qr HX.o.cut e.data y.2 (aS Yo.o)).2;have hp:=zW base bb k c (.slice (some ⟨tb,ot,none⟩) n tc) gv v3 (.slice ya yl yc) gs lg sm.2 sm.1 y.2 V hO.o.bd HX.o.keys (HG.o.keep (fun i hi _=>hO.o.kp.below.block i hi)) HX.o.gens (by have h1:=H3.o.2 y (aS HY.o); rw[HA.o]at h1; exact h1) HU Y9 HX.o.bbb
        obtain⟨r,hr⟩: ∃r,r=bD k gs y.2:=⟨_,rfl⟩;rw[<-hr]at hp;unfold fa at hp;have HP:=an hp;have Hx:=an hr;clear hp hr Y9 HU;refine cy 7 rfl (fun K hK=> ?_);go_wp2_with fail;refine HP.o.mono ?_;rintro e7 w7 ⟨rfl,v7,HJ,Hm⟩;have hN:=an (hO.o.step HJ Hm);have Hv:=an (H3.o.kp hO.o.bd Hm);have S7:=an (show w7.heap[xb]? =some (.cells (fh (.slice ra rn rc) itf).toArray 28 (0,0))/\w7.cell? ⟨pb,po+m,none⟩=some (.slice ya yl yc)from aD hN.o.box (by rw[<-HA.o]; exact Hv.o.at' HY.o))
        clear HJ Hm hO H3 SV HP;go_wp2_with fail;refine⟨S7.o, ?_⟩;refine cy 8 rfl (fun K hK=> ?_);go_wp2_with fail;have Yr:=(ay w7.heap.size w7).alloc (au _) (.cells #[.string r.name, .int .i64 r.gen, .int .i64 r.size] 26);have S8:=an (show(w7.alloc (.cells #[.string r.name, .int .i64 r.gen, .int .i64 r.size] 26)).heap[xb]? =some (.cells (fh (.slice ra rn rc) itf).toArray 28 (0,0))/\(w7.alloc (.cells #[.string r.name, .int .i64 r.gen, .int .i64 r.size] 26)).cell? ⟨pb,po+m,none⟩=some (.slice ya yl yc)from aD (dV Yr hN.o.box) (by rw[<-HA.o]; exact(Hv.o.below Yr).at' HY.o))
        clear Yr S7;refine⟨S8.o, ?_⟩;refine cy 9 rfl (fun K hK=> ?_);have HR:rn<1099511627775:=by have:=Yk.o; omega
        have YY:wo.heap.size<=w7.heap.size:=by have:=hN.o.mark; have:=az hN.o.box; omega
        go_wp2_with (at_builtin; go_must (refine bR Tryz.appRefs rfl _ _ rfl wo.heap.size (.slice ra rn rc) rn (rs.flatMap ji) rfl w7 [.string r.name, .int .i64 r.gen, .int .i64 r.size] _ rfl rfl (qH (r:=r)) (by have h1:=hN.o.row; rw[<-YQ.o]at h1; exact h1) HR YY ?_); intro v' wc hb ha _ yp; obtain⟨ae,ce,rfl,-,-⟩:=aI hb);have Y7:=hN.o.push (r:=r) (by rw[<-YQ.o]; exact hb) ha hD
        have YE:=hN.o.grown ha;have HO:=Hv.o.grown hN.o.row ha;have z8:=an (Hv.o.push (xb:=xb) (q:=6) (u:= .slice ae (rn+1) ce) hN.o.row ha YE);have S9:=an (show wc.heap[xb]? =some (.cells (fh (.slice ra rn rc) itf).toArray 28 (0,0))/\wc.cell? ⟨pb,po+m,none⟩=some (.slice ya yl yc)from aD YE (by rw[<-HA.o]; exact HO.at' HY.o));have Hc:=an Y7
        clear hb ha yp Y7 YE HO S8 hN Hv YY;refine⟨S9.o, ?_⟩;refine cF rfl (by kernel_rfl) (fun _ _ _ h=>h) rfl S9.o (by rintro w' ⟨hx,hp⟩; unfold fh at hx; have i6:=aA (k:=6) hx; simp only[ak,am,aj]at i6; clear hx; go_simp; rfl) ?_;simp only[Act.put,ag,ai,ah]
        refine cH (by kernel_rfl) ?_;refine eJ rfl rfl (fun K hK=> ?_);have hx:=S9.o.1;unfold fh at hx;have i6:=aA (k:=6) hx;have g6:=dy (k:=6) hx;simp only[ak,am,aj]at i6;have Zc:=an (show gD k gs ((fS c e.data).take (m+1)) s2=pQ k gs sm y.2 by rw[Fj Yo.o,<-Ym.o]);have Zd:=an (show((fS c e.data).take (m+1)).map (bD k gs)=rs++[r] by rw[dZ Yo.o,aO,<-YR.o,Hx.o]; rfl)
        clear hx S9;go_wp2_with fail
        go_roundw
        case rel=>exact⟨m+1,v7, .slice ae (rn+1) ce,by omega,by go_num,by rw[Zc.o,Zd.o]; exact Hc.o,z8.o⟩
        case measure=>simp[intOf]; omega
       ·obtain rfl:m=yn:=by omega
        go_upto_region 17 with(fail)
        have He:(fS c e.data).take m=fS c e.data:=bC (by rw[<-zz.o]; exact au _);have hL:itf.chunks=(fS c e.data).map (bD k gs):=by
         rw[Ye.o]
         show(if e.kind=1 then _ else [])=_
         rw[if_pos h7.o]
        have h0:=Hr.o;rw[show rs=itf.chunks by rw[YR.o,He,hL]]at h0;have hC:=an h0;have Hu:=an (show ii itf by rw[Ye.o]; exact Yi.o ef nU);have Hy:=an (show ∀r∈itf.chunks,eC r by
         rw[hL];intro r hr;obtain⟨z,hz,rfl⟩:=aW.1 hr;exact jo HX.o.gens (by have:=(qr HX.o.cut e.data z hz).2; omega))
        have Hs:=an (show cM k gs c d e (bD k gs (eK k gs c tree f e.path).1)=itf by rw[Ye.o]; exact nR (by have:=h7.o; omega) _ _);have Hz:=an (show gD k gs (iL k gs c tree f e) s2=sm by rw[Ym.o,He]; unfold iL; rw[if_pos h7.o]);obtain⟨it,hl⟩: ∃it,it=itf:=⟨_,rfl⟩;subst hl;clear He hL h0 Hr Hw;obtain⟨zs4,hk,hu,-,hs⟩:=hC.o.its.row
        have HW:zs4.length<=12:=by rw[<-aE (f:=Prod.snd),hk]; exact Hj
        have hI:=an hk;have ho:=an hu;have hH:=an (fun z hz=>(hs z hz).1);have HV:w.heap.size<=(wr).heap.size:=hC.o.kp.below.size;clear hk hu hs;have hh:=hC.o.box;unfold fh at hh;obtain⟨i0,i1,i2,i3,i4,i5,i6,i7,i8,i9,_⟩:=aT hh;clear hh;go_wp2_with (at_builtin; go_must (refine bR Tryz.appItems rfl _ _ rfl w.heap.size u5 zs4.length (pI zs4) rfl (wr) [.string it.name, .int .i64 it.kind, .int .i64 it.mode, .int .i64 it.time, .int .i64 it.size, .string it.link, .slice ra rn rc, .string it.node.name, .int .i64 it.node.gen, .int .i64 it.node.size] _ rfl rfl (kH (it:=it)) ho.o (by omega) HV ?_); intro v' wc hb ha _ _; have Hc:=an (hC.o.done hI.o ho.o hH.o hb ha Hu.o Hy.o hD); clear hb ha)
        clear i0 i1 i2 i3 i4 i5 i6 i7 i8 i9
        go_roundw
        case rel=>exact⟨j+1,v3,by omega,by go_num,by rw[Yl.o,Yf.o,Hs.o,Hz.o]; exact Hc.o⟩
        case measure=>simp[intOf]; omega
     ·have e1:(e.kind == 1)=false:=by simp[h8]
      have h7:=an h8
      by_cases Hl:e.kind=2
      ·have e2:(e.kind == 2)=true:=by simp[Hl]
       have Ht:=an Hl;have Yx:iL k gs c tree f e=(eK k gs c tree f e.path).2:=by unfold iL; rw[if_neg h8,if_pos Hl]
       have yp:=pP (l:=bl e.path) (pK HX.o.tok (aS HE.o));rw[H2.o]at yp;have Zi:=HF.o;have HK:=z6.o e.path v2 s2 W4 (by rw[<-bi]; exact Zo) (by omega) hS.o.bd (HG.o.keep (fun i hi _=>hS.o.kp.below.block i hi)) (HT.o.keep (fun i hi=>hS.o.kp.below.block i hi)) (by rw[<-Yx]; exact YO.o);unfold Ox at HK;obtain⟨r,hr⟩: ∃r,r=bD k gs (eK k gs c tree f e.path).1:=⟨_,rfl⟩
       rw[<-Yx,<-hr]at HK;have Hx:=an hr;have Zb:=an (show eC r by rw[hr]; exact jo HX.o.gens (by have:=pm (k:=k) HX.o.gens HX.o.cut HX.o.tok HX.o.small f e.path; omega));unfold fa at HK;have Za:=an HK;clear Hl h8 Yx yp Zi HK hr;go_wp2_with fail;refine Za.o.mono ?_;rintro e' w5 ⟨rfl,v5,HH,HL⟩;have Hb:=an (hS.o.step HH HL);have hh:=Hb.o.box
       unfold fh at hh;have i7:=aA (k:=7) hh;have i8:=aA (k:=8) hh;have i9:=aA (k:=9) hh;have g7:=dy (k:=7) hh;have g8:=dy (k:=8) hh;have g9:=dy (k:=9) hh;simp only[ak,am,aj]at i7 i8 i9;clear hh HH HL d0 d1 d2 d3 d4 d5
       go_upto_region 17 with(fail)
       obtain⟨W6,Yq⟩: ∃W6:World,W6=((w5.setCell ⟨xb,7,none⟩ (.string r.name)).setCell ⟨xb,8,none⟩ (.int .i64 r.gen)).setCell ⟨xb,9,none⟩ (.int .i64 r.size):=⟨_,rfl⟩;obtain⟨it,hl⟩: ∃it,it=cM k gs c d e r:=⟨_,rfl⟩;have hL:it.chunks=[]:=by rw[hl]; unfold cM; simp only[if_neg h7.o]
       have Hp:yK w base bb k c (.slice (some ⟨tb,ot,none⟩) n tc) gv v lg wr.heap.size xb W6 v5 u5 (gD k gs (iL k gs c tree f e) s2) its (.slice none 0 0) it it.chunks:=by
        rw[hL,Yq];have Ho:=Hb.o;have Y2:it= {cM k gs c d e ef with node:=r} :=by rw[hl]; unfold cM; simp only[if_pos Ht.o]
        have Hn:(cM k gs c d e ef).node=ef:=by unfold cM; simp only[if_pos Ht.o]
        obtain⟨it0,Zj⟩: ∃i,i=cM k gs c d e ef:=⟨_,rfl⟩;rw[<-Zj]at Ho Y2 Hn;have a1:=Ho.set (q:=7) (u:= .string r.name) (it':= {it0 with node:=⟨r.name,0,0⟩}) (by simp[fh,Hn,ef]) hD;have a2:=a1.set (q:=8) (u:= .int .i64 r.gen) (it':= {it0 with node:=⟨r.name,r.gen,0⟩}) (by simp[fh]) hD;have a3:=a2.set (q:=9) (u:= .int .i64 r.size) (it':=it) (by rw[Y2]; simp[fh]) hD
        exact a3
       have hC:=an Hp;have Hu:=an (show ii it by rw[hl]; exact Yi.o r Zb.o);have Hy:=an (show ∀r∈it.chunks,eC r by rw[hL]; simp);have Hs:=an (show cM k gs c d e (bD k gs (eK k gs c tree f e.path).1)=it by rw[hl,Hx.o]);have Hz:=an (show gD k gs (iL k gs c tree f e) s2=gD k gs (iL k gs c tree f e) s2 from rfl);rw[<-Yq];clear hl hL Hp Yq hS Hb i7 i8 i9 g7 g8 g9
       obtain⟨zs4,hk,hu,-,hs⟩:=hC.o.its.row;have HW:zs4.length<=12:=by rw[<-aE (f:=Prod.snd),hk]; exact Hj
       have hI:=an hk;have ho:=an hu;have hH:=an (fun z hz=>(hs z hz).1);have HV:w.heap.size<=(W6).heap.size:=hC.o.kp.below.size;clear hk hu hs;have hh:=hC.o.box;unfold fh at hh;obtain⟨i0,i1,i2,i3,i4,i5,i6,i7,i8,i9,_⟩:=aT hh;clear hh;go_wp2_with (at_builtin; go_must (refine bR Tryz.appItems rfl _ _ rfl w.heap.size u5 zs4.length (pI zs4) rfl (W6) [.string it.name, .int .i64 it.kind, .int .i64 it.mode, .int .i64 it.time, .int .i64 it.size, .string it.link, .slice none 0 0, .string it.node.name, .int .i64 it.node.gen, .int .i64 it.node.size] _ rfl rfl (kH (it:=it)) ho.o (by omega) HV ?_); intro v' wc hb ha _ _; have Hc:=an (hC.o.done hI.o ho.o hH.o hb ha Hu.o Hy.o hD); clear hb ha)
       clear i0 i1 i2 i3 i4 i5 i6 i7 i8 i9
       go_roundw
       case rel=>exact⟨j+1,v5,by omega,by go_num,by rw[Yl.o,Yf.o,Hs.o,Hz.o]; exact Hc.o⟩
       case measure=>simp[intOf]; omega
      ·have e2:(e.kind == 2)=false:=by simp[Hl]
       have Ht:=an Hl;clear Hl h8
       go_upto_region 17 with(fail)
       obtain⟨it,hl⟩: ∃it,it=cM k gs c d e ef:=⟨_,rfl⟩;have hL:it.chunks=[]:=by rw[hl]; unfold cM; simp only[if_neg h7.o]
       have Hp:=hS.o;rw[<-hl]at Hp;have hC:=an (show yK w base bb k c (.slice (some ⟨tb,ot,none⟩) n tc) gv v lg wr.heap.size xb W4 v2 u5 s2 its (.slice none 0 0) it it.chunks by rw[hL]; exact Hp);have Hu:=an (show ii it by rw[hl]; exact Yi.o ef nU);have Hy:=an (show ∀r∈it.chunks,eC r by rw[hL]; simp);have Hs:=an (show cM k gs c d e (bD k gs (eK k gs c tree f e.path).1)=it by rw[hl]; exact nR Ht.o _ _)
       have Hz:=an (show gD k gs (iL k gs c tree f e) s2=s2 by unfold iL; rw[if_neg h7.o,if_neg Ht.o]; rfl);clear hl hL Hp hS d0 d1 d2 d3 d4 d5;obtain⟨zs4,hk,hu,-,hs⟩:=hC.o.its.row;have HW:zs4.length<=12:=by rw[<-aE (f:=Prod.snd),hk]; exact Hj
       have hI:=an hk;have ho:=an hu;have hH:=an (fun z hz=>(hs z hz).1);have HV:w.heap.size<=(W4).heap.size:=hC.o.kp.below.size;clear hk hu hs;have hh:=hC.o.box;unfold fh at hh;obtain⟨i0,i1,i2,i3,i4,i5,i6,i7,i8,i9,_⟩:=aT hh;clear hh;go_wp2_with (at_builtin; go_must (refine bR Tryz.appItems rfl _ _ rfl w.heap.size u5 zs4.length (pI zs4) rfl (W4) [.string it.name, .int .i64 it.kind, .int .i64 it.mode, .int .i64 it.time, .int .i64 it.size, .string it.link, .slice none 0 0, .string it.node.name, .int .i64 it.node.gen, .int .i64 it.node.size] _ rfl rfl (kH (it:=it)) ho.o (by omega) HV ?_); intro v' wc hb ha _ _; have Hc:=an (hC.o.done hI.o ho.o hH.o hb ha Hu.o Hy.o hD); clear hb ha)
       clear i0 i1 i2 i3 i4 i5 i6 i7 i8 i9
       go_roundw
       case rel=>exact⟨j+1,v2,by omega,by go_num,by rw[Yl.o,Yf.o,Hs.o,Hz.o]; exact Hc.o⟩
       case measure=>simp[intOf]; omega
   ·obtain⟨q,hq⟩: ∃q:ByteArray,q=⟨(cu (bl e.path)).toArray⟩:=⟨_,rfl⟩;have HQ:=an hq;have z7:=an (show dz (tree.take (j+1)) d=dz (tree.take j) d by rw[YM.o,if_neg hQ,cj]);have e1:(q.toList == d.toList)=false:=by
     rw[fd];intro hc;have h1:bl q=bl d:=by rw[<-eB,<-eB]; simpa using hc
     exact hQ (((congrArg bl hq).trans (iu _)).symm.trans h1)
    clear hQ hq;go_wp2_with (go_at_call 92; refine(oB e.path q _ (by omega) HQ.o).mono ?_; rintro e7 w7 ⟨rfl,hP⟩; have HZ:=an (aw y6.o hP); clear hP)
    go_roundw
    case rel=>exact⟨j+1,v2,by omega,by go_num,by rw[z7.o,<-H5.o,<-Yg.o]; exact hT.o.below HZ.o H0.o⟩
    case measure=>simp[intOf]; omega
  ·have Zk:j=n:=by omega
   subst Zk;have hw:its=nS k gs c tree f d:=by rw[Yg.o,HN.o,dg]; rfl
   have YK:=an (show lC wr w.heap.size u5 (nS k gs c tree f d) by rw[<-hw]; exact hT.o.its);have Ha:=EN (k:=k) (gs:=gs) HX.o.cut HX.o.small f d;have YD:=IZ (k:=k) HX.o.gens HX.o.cut HX.o.tok HX.o.small f d;have H9:=pm (k:=k) HX.o.gens HX.o.cut HX.o.tok HX.o.small (f+1) d;have Y3:th (nS k gs c tree f d)=(eK k gs c tree (f+1) d).1:=by
    rw[gx];refine LU YD (fun it hl=> ?_) (by rw[gx]at H9; simp only at H9; omega);unfold nS at hl;obtain⟨e,he,rfl⟩:=aW.1 hl;obtain⟨i,hi⟩:=List.mem_iff_getElem?.1 (ez.1 he).1;obtain⟨_,_,_,_,_,_,_,yb,_⟩:=iF HT.o hi;have:=yb.tim;simp[Lit.wf,IntKind.min,IntKind.max,IntKind.signed,IntKind.bits]at this
    show e.time<_
    omega
   have Hn:=EZ (fun _=>True) u5 (nS k gs c tree f d) wr YK.o.at (fun it hl=>EM ((nF YD).2 it hl)) (by have:=Df Ha.1 Ha.2; omega) (by have:=Ha.1; omega);unfold Gb at Hn;rw[Y3]at Hn;have Yh:=an Hn;have H1:=an H9;have YS:=an (show s2=gD k gs ((dz tree d).flatMap (iL k gs c tree f)) s by rw[H5.o,HN.o,dg])
   obtain⟨X,hX⟩: ∃X,X=(eK k gs c tree (f+1) d).1:=⟨_,rfl⟩;rw[<-hX]at Yh H1;have YV:=an hX;have z9:=an (show gD k gs (eK k gs c tree (f+1) d).2 s=pQ k gs s2 X by rw[gx,pR,<-YS.o,hX,gx]; rfl);clear hw Ha YD H9 Y3 Hn hX;go_wp2_with fail;refine Yh.o.mono ?_;rintro e' w5 ⟨cv,rfl,Yy,Hg⟩;have Yv:=aB hD hT.o.kp.below.size
   have z3:=an (fT Yy Yv);obtain⟨ca,cc,rfl,-,-⟩:=aI Yy;have Yc:=an (hT.o.below Hg Yv);obtain⟨xl,HS⟩: ∃l,l=X.length:=⟨_,rfl⟩;have Zx:1<=xl:=by
    rw[HS,YV.o,gx]
    show 1<=(fY _).length
    unfold fY;rw[ar];have:=rQ (nS k gs c tree f d).length;omega
   have Zs:xl<=32768:=by rw[HS]; exact H1.o
   have YU:=an HS;rw[<-HS];clear Yy Hg Yv HS hT Yh YK k5 k6 k7 k8 k9 k10;have hp:=zW base bb k c (.slice ta j tc) gv v2 (.slice ca xl cc) gs lg s2.2 s2.1 X w5 Yc.o.bd HX.o.keys (HG.o.keep (fun i hi _=>Yc.o.kp.below.block i hi)) HX.o.gens (by have h1:=z3.o; rw[<-YU.o]at h1 ⊢; exact h1) (by rw[<-YU.o]; exact Zs) (by
    have h1:=rk (k:=k) (gs:=gs) ((dz tree d).flatMap (iL k gs c tree f)) s;rw[<-YS.o]at h1;have h3:=YP.o;rw[gx,ar]at h3
    omega) HX.o.bbb
   have HP:=an hp;clear hp;unfold fa at HP;have e1:((xl:Int) == 0)=false:=by simp; omega
   go_upto_region 22 with(fail)
   obtain⟨r,hr⟩: ∃r,r=bD k gs X:=⟨_,rfl⟩;rw[<-hr]at HP;have Hx:=an hr;clear hr e1;go_wp2_with fail;refine HP.o.mono ?_;rintro e6 w6 ⟨rfl,v6,HI,HM⟩;have Yd:=an (Yc.o.step HI HM);clear HI HM;have H4:=an Yd.o.res;obtain⟨z0,z1,z2,_⟩:=aT H4.o;obtain⟨y0,y1,y2,_⟩:=gu H4.o;go_wp2_with fail;refine Mr H4.o rfl rfl ?_;refine⟨by rw[<-YV.o,<-Hx.o]; rfl,v6, ?_, ?_⟩
   ·rw[z9.o];exact Yd.o.bd.other H4.o (by decide) (by decide) (by decide) (fun i hi _=>eh hi)
   ·exact((Yd.o.kp.setNew (au _) hD).setNew (au _) hD).setNew (au _) hD
theorem Oc (S:Nat->Prop) (L:List dj) (v:Value) (x:Int) (w:World) (hv:dP S w v L) (hps: ∀e∈L,e.path.size<=16777216) (hx:iq L=x):Calls Tryz.prog 31 #[v] w fun e w'=>e= .returned (.int .i64 x)/\Below w.heap.size w w':=by
 rw[<-hx]; exact Dr S L v w hv hps
theorem Dw {base bb:Nat} {k:dm} {c:fL} {gs:List (ByteArray×Int)} {tree:List dj} {tv gv:Value} {lg:Bool} (hX:RdX base bb k c gs tree): ∀f,RdC base bb k c gs tree tv gv lg f
 | 0=>fun d v s w h1 h2=>by omega
 | f+1=>JF f hX (Dw hX f)
end Go.Proofs.YtpffpjbkbaleiaaGreatDoor
namespace Go.Proofs.YtpffpjbkbaleiaaGreatDoor
open Go.RowKit
section
variable {k : dm} {gs : List (ByteArray × Int)} {c : fL} {tree : List dj} {M : List (ByteArray × List UInt8)}
def mD (k:dm) (gs:List (ByteArray×Int)) (M:List (ByteArray×List UInt8)) (cs:List (List UInt8)):Prop:= ∀x∈cs,gB M (bD k gs x).name=some x
theorem rS : ∀(xs:List (List UInt8)) (acc:List UInt8),mD k gs M xs->kL M (xs.map (bD k gs)) acc= .ok (acc++xs.flatten)
 | [],acc,_=>by simp[kL]
 | x::xs,acc,h=>by
  rw[cw,kL,uF (h x (by simp))];simp only;rw[rS xs _ fun y hy=>h y (by simp[hy])];simp
structure vj (k : dm) (gs : List (ByteArray × Int)) (c : fL) (tree : List dj) : Prop where
 ok:yM tree
 cut:jJ c=true
 gens:kq gs
 time: ∀e∈tree,e.time<9223372036854775808
theorem LF (h:vj k gs c tree) {f:Nat} {d:ByteArray} : ∀it∈nS k gs c tree f d,it.time<9223372036854775808:=by
 intro it ha;obtain⟨e,he,rfl⟩:=aW.1 ha;exact h.time e (ez.1 he).1
theorem qz (h:vj k gs c tree) {f:Nat} {d:ByteArray} (hf:512<f+1+(bl d).length) {e:dj} (he:e∈dz tree d):(bl e.path).length<=512/\512<f+(bl e.path).length/\1<=f:=by
 obtain⟨ha,hb⟩:=ez.1 he;have h3:=cY (h.ok.val e ha);have h4:=fx h3;have h5:=mu h3;rw[hb]at h4;omega
theorem LE (h:vj k gs c tree) {f:Nat} {d:ByteArray} (hf:512<f+1+(bl d).length) (hb:mU k gs c tree (f+1) d=false):jB (nS k gs c tree f d)=true:=
 rX h.ok h.cut h.gens d _ fun e he hk=>by
  refine lq h.gens ?_;have h6:=qz h hf he;obtain⟨g,rfl⟩: ∃g,f=g+1:=⟨f-1,by omega⟩;exact(lG ((lG hb).1 e he hk)).2
theorem NS (f:Nat) (d:ByteArray):(eK k gs c tree (f+1) d).1∈(eK k gs c tree (f+1) d).2:=by
 rw[gx]; simp
theorem xf (h:vj k gs c tree) {f:Nat} {d:ByteArray} (hf:512<f+1+(bl d).length) (hb:mU k gs c tree (f+1) d=false) (hM:mD k gs M (eK k gs c tree (f+1) d).2):
  jy M (bD k gs (eK k gs c tree (f+1) d).1)= .ok (nS k gs c tree f d):=by
 unfold jy;rw[uF (hM _ (NS f d))];simp only;have h1:=(lG hb).2;rw[gx]at h1 ⊢;simp only at h1 ⊢;rw[LX (LE h hf hb) (LF h) h1]
theorem qY {f:Nat} {d:ByteArray} (hM:mD k gs M (eK k gs c tree (f+1) d).2) {e:dj} (he:e∈dz tree d):mD k gs M (iL k gs c tree f e):=fun x hx=>by
 refine hM x ?_;rw[gx];exact iJ _ (dG.2 ⟨e,he,hx⟩)
theorem Iq (d:ByteArray) (t:List UInt8):bl (d++⟨#[47]⟩++⟨t.toArray⟩)=bl d++47::t:=by
 rw[nz,nz,iu];simp[bl]
theorem NZ {d:ByteArray} {e:dj} (hv:gX e=true) (hp:cu (bl e.path)=bl d):jS d ⟨(lV (bl d) (bl e.path)).toArray⟩=e.path:=by
 have hk:=nw (cY hv) hp
 apply jP
 unfold jS;have h1:=hk.path
 by_cases h0:d.size=0
 ·rw[if_pos h0,iu];rw[if_pos (nE.1 h0)]at h1;exact h1.symm
 ·rw[if_neg h0,Iq];rw[if_neg (fun e=>h0 (nE.2 e))]at h1;exact h1.symm
def KV (tree:List dj) (f:Nat) (e:dj):List dj:=e::(if e.kind=2 then oQ tree f e.path else [])
theorem um (h:vj k gs c tree) {f:Nat} {d:ByteArray} {rec:ByteArray->cX->List dj->Int×List dj}
  (hrec: ∀e∈dz tree d,e.kind=2-> ∀acc:List dj,acc.length+(oQ tree f e.path).length<=4096->rec e.path (bD k gs (eK k gs c tree f e.path).1) acc=(0,acc++oQ tree f e.path))
  (hfil: ∀e∈dz tree d,e.kind=1->mD k gs M (fS c e.data)):
  ∀(L:List dj) (acc:List dj),(∀e∈L,e∈dz tree d)->acc.length+(L.flatMap (KV tree f)).length<=4096->
   jz M rec d (L.map fun e=>cM k gs c d e (bD k gs (eK k gs c tree f e.path).1)) acc=(0,acc++L.flatMap (KV tree f))
 | [],acc,_,_=>by simp[jz]
 | e::L,acc,hL,hn=>by
  have he:=hL e (by simp);obtain⟨he1,he2⟩:=ez.1 he;have hv:=h.ok.val e he1;rw[bq,ar,show(KV tree f e).length=(if e.kind=2 then oQ tree f e.path else []).length+1 from rfl]at hn;have hpath:jS d (cM k gs c d e (bD k gs (eK k gs c tree f e.path).1)).name=e.path:=NZ hv he2;have hfe:lS M (cM k gs c d e (bD k gs (eK k gs c tree f e.path).1))=(e.data,0):=by
   unfold lS
   show(if e.kind=1 then(match kL M (if e.kind=1 then(fS c e.data).map (bD k gs)else []) []with | .error x=>([],x) | .ok bs=>(bs,0))else(([],0):List UInt8×Int))=_
   by_cases h1:e.kind=1
   ·rw[if_pos h1,if_pos h1,rS _ _ (hfil e he h1),sO]
    rfl
   ·rw[if_neg h1]
    rcases sQ hv with h2 | h2 | h2
    ·exact absurd h2.1 h1
    ·rw[h2.2.1]
    ·rw[h2.2.1]
  rw[cw,jz,if_pos ⟨by rw[hpath]; exact cY hv,by omega⟩];simp only;rw[hpath,hfe];have ha:(⟨e.path,(cM k gs c d e (bD k gs (eK k gs c tree f e.path).1)).kind,(cM k gs c d e (bD k gs (eK k gs c tree f e.path).1)).mode,(cM k gs c d e (bD k gs (eK k gs c tree f e.path).1)).time,e.data,(cM k gs c d e (bD k gs (eK k gs c tree f e.path).1)).link⟩:dj)=e:=rfl
  rw[ha]
  show(if(if e.kind=2 then rec e.path (if e.kind=2 then bD k gs (eK k gs c tree f e.path).1 else ef) (acc++[e])else((0:Int),acc++[e])).1=0 then jz M rec d _ (if e.kind=2 then rec e.path (if e.kind=2 then bD k gs (eK k gs c tree f e.path).1 else ef) (acc++[e])else((0:Int),acc++[e])).2 else _)=_
  by_cases h2:e.kind=2
  ·rw[if_pos h2]at hn;rw[if_pos h2,if_pos h2,hrec e he h2 (acc++[e]) (by rw[ar,bQ]; omega),if_pos rfl];rw[um h hrec hfil L _ (fun x hx=>hL x (by simp[hx])) (by simp only[ar,bQ]; omega),bq];unfold KV;rw[if_pos h2];simp
  ·rw[if_neg h2]at hn;rw[if_neg h2,if_pos rfl];rw[um h hrec hfil L _ (fun x hx=>hL x (by simp[hx])) (by simp only[ar,bQ]; simp only[bo]at hn; omega),bq];unfold KV;rw[if_neg h2];simp
theorem CT (h:vj k gs c tree): ∀(f:Nat) (d:ByteArray) (acc:List dj),(bl d).length<=512->512<f+(bl d).length->mU k gs c tree f d=false->mD k gs M (eK k gs c tree f d).2->acc.length+(oQ tree f d).length<=4096->
  iz M f d (bD k gs (eK k gs c tree f d).1) acc=(0,acc++oQ tree f d)
 | 0,d,acc,h1,h2,_,_,_=>by omega
 | f+1,d,acc,h1,h2,hb,hM,hn=>by
  rw[iz,xf h h2 hb hM];simp only;refine um h (fun e he hk acc hacc=> ?_) (fun e he hk x hx=> ?_) (dz tree d) acc (fun _ he=>he) hn
  ·obtain⟨h3,h4,h5⟩:=qz h h2 he;refine CT h f e.path acc h3 h4 ((lG hb).1 e he hk) (fun x hx=> ?_) hacc;refine qY hM he x ?_;unfold iL;rw[if_neg (by omega),if_pos hk];exact hx
  ·refine qY hM he x ?_;unfold iL;rw[if_pos hk];exact hx
theorem LL (h:vj k gs c tree) (hb:mU k gs c tree 514 ⟨#[]⟩=false) (hM:mD k gs M (eK k gs c tree 514 ⟨#[]⟩).2):oz M (bD k gs (eK k gs c tree 514 ⟨#[]⟩).1)= .ok tree:=by
 have h0:(bl (⟨#[]⟩:ByteArray)).length=0:=rfl;have hp:=GP h.ok (f:=514) (by omega);have h1:=CT (M:=M) h 514 ⟨#[]⟩ [] (by omega) (by omega) hb hM (by rw[hp]; have:=h.ok.len; simp; omega);rw[hp,aL]at h1;unfold oz;rw[h1,if_pos (lq h.gens (lG hb).2)]
 rfl
end
section
variable {visit : cX → Except Int (List cr)}
end
section
variable {k : dm} {gs : List (ByteArray × Int)} {c : fL} {tree : List dj} {M : List (ByteArray × List UInt8)}
theorem OV {f:Nat} {d:ByteArray} {e:dj} (he:e∈dz tree d) {x:List UInt8} (hx:x∈iL k gs c tree f e):x∈(eK k gs c tree (f+1) d).2:=by
 rw[gx];exact iJ _ (dG.2 ⟨e,he,hx⟩)
theorem OU {f:Nat} {d:ByteArray} {e:dj} (he:e∈dz tree d) (hk:e.kind=2) {x:List UInt8} (hx:x∈(eK k gs c tree f e.path).2):x∈(eK k gs c tree (f+1) d).2:=by
 refine OV he ?_;unfold iL;rw[if_neg (by omega),if_pos hk];exact hx
theorem IY {d:ByteArray} {e:dj} {r:cX} (hk:e.kind=1):(cM k gs c d e r).chunks=(fS c e.data).map (bD k gs):=by
 show(if e.kind=1 then _ else [])=_
 rw[if_pos hk]
end
section
variable {k : dm} {gs : List (ByteArray × Int)} {c : fL} {tree : List dj} {M : List (ByteArray × List UInt8)}
theorem Gv {A:dj->List (List UInt8)} {B:dj->List dj} : ∀(L:List dj),(∀e∈L,(A e).length<=61*(B e).length)->(L.flatMap A).length<=61*(L.flatMap B).length
 | [],_=>by simp
 | e::L,h=>by
  have h1:=h e (by simp);have h2:=Gv L fun x hx=>h x (by simp[hx])
  rw[bq,bq,ar,ar];omega
theorem NI {B:dj->List dj} {L:List dj} {e:dj} (he:e∈L):(B e).length<=(L.flatMap B).length:=by
 obtain⟨s,t,rfl⟩:=kC he;rw[bW,bq,ar,ar];omega
theorem GJ (hc:jJ c=true) (hs:nG tree): ∀(f:Nat) (d:ByteArray),(eK k gs c tree f d).2.length<=61*(oQ tree f d).length+1
 | 0,d=>by simp[eK]
 | f+1,d=>by
  have hk: ∀e∈dz tree d,(iL k gs c tree f e).length<=61*(e::(if e.kind=2 then oQ tree f e.path else [])).length:=by
   intro e he;unfold iL
   by_cases h1:e.kind=1
   ·rw[if_pos h1];have h2:=sP hc e.data;have h3:=hs.data e (ez.1 he).1;rw[aG];omega
   ·rw[if_neg h1]
    by_cases h2:e.kind=2
    ·rw[if_pos h2,if_pos h2,aG];have:=GJ hc hs f e.path;omega
    ·rw[if_neg h2]; simp
  have:=Gv (dz tree d) hk;rw[gx]
  show(_++[_]).length<=61*((dz tree d).flatMap fun e=>e::(if e.kind=2 then oQ tree f e.path else [])).length+1
  rw[ar,bQ];omega
theorem GI (hc:jJ c=true) (hs:nG tree) (h:yM tree):(eK k gs c tree 514 ⟨#[]⟩).2.length<=733:=by
 have h1:=GJ (k:=k) (gs:=gs) hc hs 514 ⟨#[]⟩;rw[GP h (by omega)]at h1;have:=hs.len;omega
def InT (k:dm) (gs:List (ByteArray×Int)) (c:fL) (tree:List dj) (M:List (ByteArray×List UInt8)) (n:Nat) (x:List UInt8):Prop:=(∃e∈tree,e.kind=1/\x∈fS c e.data)\/ ∃f d,(bl d).length<=512/\512<f+(bl d).length/\mU k gs c tree f d=false/\mD k gs M (eK k gs c tree f d).2/\f<=514/\x=(eK k gs c tree f d).1/\(oQ tree f d).length<=n
theorem CC (h:vj k gs c tree): ∀(f:Nat) (d:ByteArray),(bl d).length<=512->512<f+(bl d).length->mU k gs c tree f d=false->mD k gs M (eK k gs c tree f d).2->f<=514-> ∀x∈(eK k gs c tree f d).2,InT k gs c tree M (oQ tree f d).length x
 | 0,d,h1,h2,_,_,_,_,_=>by omega
 | f+1,d,h1,h2,hb,hM,hf,x,hx=>by
  have hx0:=hx;rw[gx]at hx
  rcases aU.1 hx with hx | hx
  ·obtain⟨e,he,hxe⟩:=dG.1 hx;unfold iL at hxe
   by_cases hk1:e.kind=1
   ·rw[if_pos hk1]at hxe;exact .inl ⟨e,(ez.1 he).1,hk1,hxe⟩
   ·rw[if_neg hk1]at hxe
    by_cases hk:e.kind=2
    ·rw[if_pos hk]at hxe;obtain⟨h3,h4,h5⟩:=qz h h2 he;have hb2:=(lG hb).1 e he hk
     rcases CC h f e.path h3 h4 hb2 (fun x hx=>hM x (OU he hk hx)) (by omega) x hxe with h6 | ⟨f',d',a1,a2,a3,a4,a5,a6,a7⟩
     ·exact .inl h6
     ·refine .inr ⟨f',d',a1,a2,a3,a4,a5,a6, ?_⟩;have h7:=NI (B:=fun e=>e::(if e.kind=2 then oQ tree f e.path else [])) he;simp only[if_pos hk,aG]at h7
      show _<=((dz tree d).flatMap fun e=>e::(if e.kind=2 then oQ tree f e.path else [])).length
      omega
    ·rw[if_neg hk]at hxe
     cases hxe
  ·rw[aQ]at hx;refine .inr ⟨f+1,d,h1,h2,hb,hM,hf, ?_,au _⟩;rw[hx,gx]
end
open Go Go.RowKit Go.Maps
def su (l:List dj):Bool:=l.all (fun e=>decide (e.data.length<=60)) && decide (l.length<=12)
theorem dP.lts {S:Nat->Prop} {w:World} {v:Value} {l:List dj} (h:dP S w v l):dP (· <w.heap.size) w v l:=
 cL.mono h (by omega) (fun _ hk _=>hk) (fun _ _ _ ⟨v,h1,h2,h3⟩=>⟨v,h1,cE.mono h2 (fun _ hk _=>hk) (by omega),h3⟩)
theorem kR.lts {S:Nat->Prop} {w:World} {v:Value} {l:List (ByteArray×Int)} (h:kR S w v l):kR (· <w.heap.size) w v l:=by
 rcases h with h | ⟨b,h1,_,h2⟩
 ·exact .inl h
 ·exact .inr ⟨b,h1,h2.lt,h2⟩
theorem DH (S:Nat->Prop) (l:List dj) (v:Value) (w:World) (hv:dP S w v l):Calls Tryz.prog 21 #[v] w fun e w'=>e= .returned (.bool (su l))/\Below w.heap.size w w':=by
 obtain⟨a,c,rfl,hc,hm,-⟩:=cL.shape hv lX.len;unfold maxLen at hm;obtain⟨n,hn⟩: ∃n,n=l.length:=⟨_,rfl⟩;rw[<-hn]at hv hc ⊢;have HV:=an hv;have HN:=an hn;clear hv hn
 go_enter Tryz.func21,Tryz.ntmps21
 go_wp2_with fail
 go_loopw [3] (fun i wr=> ∃j:Nat,j<=n/\i= .int .i64 (j:Int)/\(∀e∈l.take j,e.data.length<=60)/\wr=w) (fun i _=>n-(intOf i).toNat)
 case atStart=>exact⟨0,aX _,rfl,by simp,rfl⟩
 case round=>
  obtain⟨j,hj,rfl,hb,rfl⟩:=hrel;have ha:=an hb;clear hb
  by_cases hp:j<n
  ·obtain⟨e,he⟩: ∃e,l[j]? =some e:=⟨l[j]'(by rw[<-HN.o]; exact hp),by simp⟩;obtain⟨b,o,dv,rfl,-,-,hf,-,-,p0,p1,p2,p3,p4,p5⟩:=iF HV.o he;obtain⟨da,dc,ho,-,-⟩:=dJ.slice hf
   subst ho;have HE:=an he;obtain⟨dn,hg⟩: ∃d,d=e.data.length:=⟨_,rfl⟩;rw[<-hg]at p4;have hh:=an hg;clear he hf p0 p1 p2 p3 p5 hg
   by_cases hd:dn<=60
   ·have hl: ¬60<(dn:Int):=by omega
    have hk:=an (show ∀e∈l.take (j+1),e.data.length<=60 from by
     rw[dZ HE.o];intro x hx
     rcases aU.1 hx with hx | hx
     ·exact ha.o x hx
     ·rw[aQ]at hx;subst hx;rw[<-hh.o]; exact hd)
    go_wp2_with fail
    go_roundw
    case rel=>exact⟨j+1,by omega,by go_num,hk.o,trivial⟩
    case measure=>simp[intOf]; omega
   ·have hl:60<(dn:Int):=by omega
    have HF:=an (show su l=false by
     unfold su;rw[Bool.and_eq_false_iff]
     left
     rw[fd];intro h;have:=cz.1 h e (aS HE.o);rw[aK,<-hh.o]at this;exact hd this)
    go_wp2_with fail;go_ret;exact⟨bY HF.o.symm,ay _ _⟩
  ·obtain rfl:j=n:=by omega
   have HB:=an (show su l=decide ((j:Int)<=12) by
    unfold su;have h1:l.all (fun e=>decide (e.data.length<=60))=true:=by
     rw[cz];intro x hx;rw[aK];exact ha.o x (by rw[bC (by rw[<-HN.o]; exact au _)]; exact hx)
    rw[h1,gP,<-HN.o]
    congr 1
    simp only[eq_iff_iff]
    omega)
   go_wp2_with fail;go_ret;exact⟨bY HB.o.symm,ay _ _⟩
def PF (r:Except Int (cX×List dq)):cX×List dq×Int:=match r with
 | .error x=>(⟨⟨#[]⟩,0,0⟩,[],x)
 | .ok p=>(p.1,p.2,0)
theorem sC.flat {res:Except Int (cX×List dq)} {r:cX} {bs:List dq} {x:Int} {w w':World} {e:Ending} (h:sC res w e w') (he:PF res=(r,bs,x)):
  Below w.heap.size w w'/\ ∃a cap zs,e= .returned (.tuple #[fa r, .slice a bs.length cap, .int .i64 x])/\zs.map Prod.snd=bs/\ig w' w.heap.size (.slice a bs.length cap) zs/\bs.length<=cap/\cap<=maxLen:=by
 obtain⟨hb,h⟩:=h;refine⟨hb, ?_⟩
 cases res with
 | error y=>
  obtain⟨rfl,-⟩:=h
  cases he
  exact⟨none,0,[],rfl,rfl,⟨bN _ _ _ _,by simp⟩,au _,aX _⟩
 | ok p=>
  obtain⟨v,zs,rfl,hz,ho⟩:=h
  cases he
  obtain⟨a,cap,rfl,h1,h2⟩:=aI ho.row;have hl:p.2.length=zs.length:=by rw[<-hz,aE]
  rw[<-hl]at h1 ho;exact⟨a,cap,zs,by rw[hl],hz,ho,h1,h2⟩
theorem zQ {w w':World} {base n cap:Nat} {a:Option Addr} {zs:List mE} {bs:List dq} (hz:zs.map Prod.snd=bs) (h:ig w base (.slice a n cap) zs) (hb:Below w.heap.size w w') {k:Nat} {b:dq} (hk:bs[k]? =some b):
  ∃bk o za zc,a=some ⟨bk,o,none⟩/\w'.cell? ⟨bk,o+k*4,none⟩=some (.string b.ref.name)/\w'.cell? ⟨bk,o+k*4+1,none⟩=some (.int .i64 b.ref.gen)/\w'.cell? ⟨bk,o+k*4+2,none⟩=some (.int .i64 b.ref.size)/\w'.cell? ⟨bk,o+k*4+3,none⟩=some (.slice za b.con.length zc)/\bG (fun _=>True) w' (.slice za b.con.length zc) b.con:=by
 rw[<-hz,bn,ie]at hk;obtain⟨z,ha,rfl⟩:=hk;have h':=h.below hb;obtain⟨bk,o,rfl,-,hf,hc⟩:=sI (cG h'.row) ha;have hd:=cG (h'.dat z (aS ha));obtain⟨_,za,zc,he,-,-,-⟩:=id hd;have q0:=hc 0 (by omega);have q1:=hc 1 (by omega);have q2:=hc 2 (by omega);have q3:=hc 3 (by omega);simp only[nL,aj,am,de]at q0 q1 q2 q3
 rw[he]at q3;exact⟨bk,o,za,zc,rfl,q0,q1,q2,q3,by rw[<-he]; exact hd.weak fun _ _=>trivial⟩
def nM (k:dm) (c:fL) (ts:List (List dj)):List dq×Bool:=ts.foldl (fun s t=>gD k [] (eK k [] c t 514 ⟨#[]⟩).2 s) ([],false)
def tQ (k:dm) (c:fL) (ts:List (List dj)):Bool:=(nM k c ts).2 || DS (nM k c ts).1
theorem BV {k:dm} {c:fL} {ts:List (List dj)} {j:Nat} {t:List dj} (h:ts[j]? =some t):nM k c (ts.take (j+1))=gD k [] (eK k [] c t 514 ⟨#[]⟩).2 (nM k c (ts.take j)):=by
 rw[dZ h];unfold nM;rw[eF]; rfl
def Gd (w:World) (sv:Value) (zs:List (Value×List dj)):Prop:=cE (· <w.heap.size) w 1 sv zs.length (zs.map Prod.fst)/\ ∀z∈zs,dP (· <w.heap.size) w z.1 z.2
theorem jV.tree {w:World} {base bb:Nat} {k:dm} {c:fL} {tv gv v:Value} {lg:Bool} {s:List dq×Bool} (h:jV w base bb k c tv gv v lg s) (tv':Value) (hb:base<=bb):jV (w.setCell ⟨bb,10,none⟩ tv') base bb k c tv' gv v lg s/\Below base w (w.setCell ⟨bb,10,none⟩ tv'):=by
 obtain⟨zs,h1,h2⟩:=h.own;have hs: ∀j,j≠bb->(w.setCell ⟨bb,10,none⟩ tv').heap[j]? =w.heap[j]? :=fun j hj=>aF _ _ _ _ hj
 have ha: ∀ {t:TypeId} {n sz:Nat} {u:Value} {xs:List Value},w.ownsRow base t sz u n xs->t≠130->(w.setCell ⟨bb,10,none⟩ tv').ownsRow base t sz u n xs:=fun hr ht=>eV hr (fun i hi hu=>hs i (fun e=>by
  obtain⟨cs,hc⟩:=bL hr hu;subst e;exact ht (bV hc h.box)))
 refine⟨⟨?_,zs,h1,ha h2.row (by decide),fun z hz=>ha (h2.dat z hz) (by decide)⟩,(ay _ _).grown (cJ w bb 10 _) ?_ (fun i hi=>by cases hi; exact hb)⟩
 ·have:=jf (k:=10) h.box tv'
  simpa [tr,eI,fR]using this
 ·have:=az h.box; omega
theorem Fb {N:List ByteArray} {m:Nat} {x:ByteArray} (h:N[m]? =some x):decide ((N.take (m+1)).Nodup)=(decide ((N.take m).Nodup) && !(N.take m).any (fun y=>decide (y=x))):=by
 rw[dZ h,dk,aK,aJ,aK,gJ,List.any_eq_false];rw[gL]
 constructor
 ·rintro⟨h1,_,h3⟩;exact⟨h1,fun y hy e=>h3 y hy x (by simp) (by simpa using e)⟩
 ·rintro⟨h1,h3⟩;refine⟨h1,by simp,fun a ha b hb e=> ?_⟩;rw[aQ]at hb;subst hb;exact h3 a ha (by simpa using e)
theorem BI {N:List ByteArray} {m:Nat} {x y:ByteArray} (h:N[m]? =some y):(N.take (m+1)).any (fun z=>decide (z=x))=((N.take m).any (fun z=>decide (z=x)) || decide (y=x)):=by
 rw[dZ h,List.any_append];simp
theorem OC (a b:ByteArray):(a.toList == b.toList)=decide (b=a):=by
 rw[dk,jU,aK]
 constructor
 ·intro h;exact(jP (by rw[<-eB,<-eB]; exact h)).symm
 ·rintro rfl; rfl
theorem Fo (k:dm) (c:fL) (zs:List (Value×List dj)) (sv:Value) (w:World) (hk:jA k=true) (hc:jJ c=true) (hsd:c.seed<18446744073709551616) (hz:Gd w sv zs) (hn:zs.length<=10) (ht: ∀z∈zs,yM z.2/\nG z.2):
  Calls Tryz.prog 32 #[kt k,ko c,sv] w fun e w'=>e= .returned (.bool (tQ k c (zs.map Prod.snd)))/\Below w.heap.size w w':=by
 obtain⟨_,sa,sc,rfl,HS,HU,-⟩:=id hz.1;unfold maxLen at HU;obtain⟨n,Hb⟩: ∃n,n=zs.length:=⟨_,rfl⟩;have HN:=an Hb;rw[<-Hb]at hz hn HS ⊢;have HZ:=an hz;have HK:=an hk;have HC:=an hc;have HM:=an hsd;have HT:=an ht;obtain⟨W0,hp⟩: ∃W0,W0=((w.alloc (.cells #[.string k.nm, .string k.st, .string k.ck, .string k.ix, .string k.tk] 42)).alloc (.cells #[.int .i64 c.mn, .int .i64 c.mx, .int .i64 c.win, .int .i64 c.bits, .int .u64 (c.seed:Int)] 45)):=⟨_,rfl⟩
 have HW:W0.heap.size=w.heap.size+2:=by rw[hp]; simp
 have Hp:Below w.heap.size w W0:=by rw[hp]; exact(eN).alloc (by simp) _
 have HG:=an (show W0.heap[w.heap.size]? =some (.cells #[.string k.nm, .string k.st, .string k.ck, .string k.ix, .string k.tk] 42 (0,0)) by rw[hp]; exact mT (dY w _) _);have HF:=an (show W0.heap[w.heap.size+1]? =some (.cells #[.int .i64 c.mn, .int .i64 c.mx, .int .i64 c.win, .int .i64 c.bits, .int .u64 (c.seed:Int)] 45 (0,0)) by rw[hp]; exact pL w _ _);obtain⟨bb,Hq⟩: ∃b,b=W0.heap.size:=⟨_,rfl⟩
 have hd:w.heap.size<=bb:=by omega
 have hA:bb=w.heap.size+2:=by omega
 clear hk hc hsd ht Hb hz;unfold kt ko
 go_enter Tryz.func32,Tryz.ntmps32
 go_upto_region 1 with(fail)
 rw[<-hp];clear hp;obtain⟨a0,a1,a2,a3,a4,_⟩:=aT HG.o;obtain⟨b0,b1,b2,b3,b4,_⟩:=aT HF.o
 go_upto_region 2 with(fail)
 obtain⟨W1,hy⟩: ∃W1:World,W1=W0.alloc (.cells (tr k c (.slice none 0 0) (.map none) (.slice none 0 0) false false).toArray 130):=⟨_,rfl⟩;have Ho:=an (show jV W1 w.heap.size bb k c (.slice none 0 0) (.map none) (.slice none 0 0) false (nM k c ((zs.map Prod.snd).take 0))from⟨by rw[hy,Hq]; exact dY W0 _,[],rfl,bN _ _ _ _,by simp⟩);have Hg:=an (show Below w.heap.size w W1 from aw Hp (by rw[hy]; exact eN))
 simp only[tr,eI,fR,aM,aL]at hy;rw[<-hy,<-hA];clear hy Hp Hq hA HW a0 a1 a2 a3 a4 b0 b1 b2 b3 b4;go_wp2_with fail
 go_loopw [8] (fun i wr=> ∃(j:Nat) (tv v:Value),j<=n/\i= .int .i64 (j:Int)/\jV wr w.heap.size bb k c tv (.map none) v false (nM k c ((zs.map Prod.snd).take j))/\Below w.heap.size w wr/\(nM k c ((zs.map Prod.snd).take j)).1.length<=j*733) (fun i _=>n-(intOf i).toNat)
 case atStart=>exact⟨0,_,_,aX _,rfl,Ho.o,Hg.o,au _⟩
 case round=>
  obtain⟨j,tv,v,hj,rfl,hh,h3,Hw⟩:=hrel;have hx:=an hh;have Hj:=an h3;have Hm:=an Hw;have hF:=cE.same HZ.o.1 (fun i hi=>h3.block i hi);clear hh h3 Hw Ho Hg
  by_cases HO:j<n
  ·obtain⟨z,hz⟩: ∃z,zs[j]? =some z:=⟨zs[j]'(by rw[<-HN.o]; exact HO),by simp⟩;obtain⟨_,sa',sc',he,_,_,h0⟩:=hF
   rcases h0 with h0 | ⟨pb,po,HR,_,hf⟩
   ·have:=HN.o; omega
   ·cases he
    subst HR;have p0:=hf j z.1 (by rw[bn,hz]; rfl);have Hf:=aS hz;obtain⟨Hd,hl⟩:=HT.o z Hf;have h4:=HZ.o.2 z Hf;obtain⟨ta,tc,hL,_,_,_⟩:=cL.shape h4 lX.len;rw[hL]at p0;obtain⟨tl,HA⟩: ∃l,l=z.2.length:=⟨_,rfl⟩;rw[<-HA]at p0 hL;have k10:=aA (k:=10) hx.o.box;have g10:=dy (k:=10) hx.o.box;simp only[tr,eI,fR,aM,aL,ak,am,aj]at k10
    have hG:=hx.o.tree (.slice ta tl tc) hd;have hR:=an (BV (k:=k) (c:=c) (j:=j) (t:=z.2) (show(zs.map Prod.snd)[j]? =some z.2 by rw[bn,hz]; rfl));have Hc:=GI (k:=k) (gs:=[]) (c:=c) HC.o hl Hd;have Hv:=Hm.o;obtain⟨s2,HQ⟩: ∃s2,s2=nM k c ((zs.map Prod.snd).take j):=⟨_,rfl⟩;rw[<-HQ]at hG Hv hR;obtain⟨W3,h1⟩: ∃W3:World,W3=wr.setCell ⟨bb,10,none⟩ (.slice ta tl tc):=⟨_,rfl⟩
    rw[<-h1]at hG;have hr:Below w.heap.size w W3:=Hj.o.trans hG.2;have hD:=Dw (base:=w.heap.size) (bb:=bb) (lg:=false) (tv:= .slice ta tl tc) (gv:= .map none) ⟨HK.o,HC.o,HM.o,mI,hd,Hd,hl⟩ 514 ⟨#[]⟩ v s2 W3 (by decide) (by decide) hG.1 (.inl ⟨rfl,rfl⟩) (by rw[<-hL]; exact h4.keep (fun i hi=>hr.block i hi)) (by
     have:j*733<=10*733:=dl _ (by omega)
     omega)
    have HD:=an hD;have hu:=an hr;have HH:=an (show(gD k [] (eK k [] c z.2 514 ⟨#[]⟩).2 s2).1.length<=(j+1)*733 by
     have:=rk (k:=k) (gs:=[]) (eK k [] c z.2 514 ⟨#[]⟩).2 s2
     omega)
    clear hf Hf Hd hl h4 hL HA hG Hc Hv hr hD hz
    go_upto_region 6 with(fail)
    rw[<-h1];clear h1 k10 g10 p0;go_wp2_with fail;refine HD.o.mono ?_;rintro e w5 ⟨rfl,v5,hB,hE⟩;have hP:=an hB;have HB:=an (hu.o.trans hE.below);clear hB hE;go_wp2_with fail
    go_roundw
    case rel=>exact⟨j+1, .slice ta tl tc,v5,by omega,by go_num,by rw[hR.o]; exact hP.o,HB.o,by rw[hR.o]; exact HH.o⟩
    case measure=>simp[intOf]; omega
  ·obtain rfl:j=n:=by omega
   clear hF;obtain⟨bs,cl,h2⟩: ∃bs cl,nM k c (zs.map Prod.snd)=(bs,cl):=⟨_,_,rfl⟩;have Hz:(zs.map Prod.snd).take j=zs.map Prod.snd:=bC (by rw[aE,<-HN.o]; exact au _);have Hk:=an (show tQ k c (zs.map Prod.snd)=(cl || !decide ((bs.map fun b=>b.ref.name).Nodup)) by unfold tQ DS; rw[h2]);have hh:=hx.o;rw[Hz,h2]at hh
   obtain⟨N,hN⟩: ∃N,N=bs.map fun b=>b.ref.name:=⟨_,rfl⟩
   rw[<-hN]at Hk;have hX:=an hN;obtain⟨ys,hI,ho⟩:=hh.own;have hs:ys.map Prod.snd=bs:=hI;obtain⟨av,cvv,hv,hH,hM⟩:=aI ho.row;have Hr:ys.length=bs.length:=by rw[<-hs,aE]
   rw[Hr]at hv hH;obtain⟨bl,hg⟩: ∃l,l=bs.length:=⟨_,rfl⟩;rw[<-hg]at hv hH;subst hv;unfold maxLen at hM;have hQ:=an hg;have HL:=an hh;clear h2 Hz hh hN hI hs ho Hr hg hx Hm;obtain⟨wo,HV⟩: ∃wo:World,wo=wr:=⟨_,rfl⟩;subst HV;go_wp2_with fail
   go_loopw [9,10] (fun i kk wq=> ∃(m:Nat) (fl:Bool),m<=bl/\i= .int .i64 (m:Int)/\jV wq w.heap.size bb k c tv (.map none) (.slice av bl cvv) false (bs,fl)/\Below w.heap.size w wq/\fl=(cl || !decide ((N.take m).Nodup))) (fun i _ _=>bl-(intOf i).toNat)
   case atStart=>exact⟨0,cl,aX _,rfl,HL.o,Hj.o,by simp⟩
   case round=>
    obtain⟨m,fl,hm,rfl,Hx,hq,Ht⟩:=hrel;have hY:=an Hx;have Hh:=an hq;have Hl:=an Ht;clear Hx hq Ht;have k12:=aA (k:=12) hY.o.box;have k14:=aA (k:=14) hY.o.box;simp only[tr,eI,fR,aM,aL,ak,am,aj]at k12 k14
    by_cases h7:m<bl
    ·obtain⟨b,hb⟩: ∃b,bs[m]? =some b:=⟨bs[m]'(by rw[<-hQ.o]; exact h7),by simp⟩;have HE:=an hb;have Hn:=an (show N[m]? =some b.ref.name by rw[hX.o,bn,hb]; rfl);obtain⟨nm,Ha⟩: ∃n,n=b.ref.name:=⟨_,rfl⟩;rw[<-Ha]at Hn;have HI:=an Ha;clear hb Ha;obtain⟨wo2,He⟩: ∃wo:World,wo=wr:=⟨_,rfl⟩;subst He;go_wp2_with fail;clear k12 k14
     go_loopw [10] (fun kk wq=> ∃(m2:Nat) (f2:Bool),m2<=m/\kk= .int .i64 (m2:Int)/\jV wq w.heap.size bb k c tv (.map none) (.slice av bl cvv) false (bs,f2)/\Below w.heap.size w wq/\f2=(fl || (N.take m2).any (fun y=>decide (y=nm)))) (fun kk _=>m-(intOf kk).toNat)
     case atStart=>exact⟨0,fl,aX _,rfl,hY.o,Hh.o,by simp⟩
     case round=>
      obtain⟨m2,f2,HX,rfl,Hy,hr,Hs⟩:=hrel;have hJ:=an Hy;have hu:=an hr;have hS:=an Hs;clear Hy hr Hs
      by_cases HP:m2<m
      ·have h8:m2<bl:=by omega
       obtain⟨b2,hq⟩: ∃b,bs[m2]? =some b:=⟨bs[m2]'(by rw[<-hQ.o]; exact h8),by simp⟩;have hW:=an (show N[m2]? =some b2.ref.name by rw[hX.o,bn,hq]; rfl);have hO:=an hq;obtain⟨nk,h9⟩: ∃n,n=b2.ref.name:=⟨_,rfl⟩;rw[<-h9]at hW;have HJ:=an h9;clear hq h9;go_wp2_with fail;obtain⟨ys,hs,ho⟩:=hJ.o.own;obtain⟨gb,go,_,_,rfl,p0,-,-,-,-⟩:=zQ hs ho (ay _ _) HE.o
       obtain⟨gb',go',_,_,Hu,q0,-,-,-,-⟩:=zQ hs ho (ay _ _) hO.o;simp only[br,jk,and_true]at Hu;obtain⟨rfl,rfl⟩:=Hu;rw[<-HI.o]at p0;rw[<-HJ.o]at q0;refine ey (fun w'=>fV bb k c tv (.map none) (.slice (some ⟨gb,go,none⟩) bl cvv) false f2 w'/\w'.cell? ⟨gb,go+m*4,none⟩=some (.string nm)/\w'.cell? ⟨gb,go+m2*4,none⟩=some (.string nk)) (by kernel_rfl) (by kernel_rfl) ?_
       simp only[bw,bz,aG,bo,Nat.reduceAdd,Nat.reduceSub];obtain⟨V,hV⟩: ∃W,W=wr.drew:=⟨_,rfl⟩;rw[<-hV];have hC:Below wr.heap.size wr V:=by rw[hV]; exact(ay _ _).drew
       have hZ:=an (hJ.o.below hC);have Hi:=an (hu.o.trans (hC.mono hu.o.size));have SM:=an (show fV bb k c tv (.map none) (.slice (some ⟨gb,go,none⟩) bl cvv) false f2 V/\V.cell? ⟨gb,go+m*4,none⟩=some (.string nm)/\V.cell? ⟨gb,go+m2*4,none⟩=some (.string nk)from⟨hZ.o.box,(hC.cell (p:=⟨gb,go+m*4,none⟩) (bS p0)).trans p0,(hC.cell (p:=⟨gb,go+m2*4,none⟩) (bS q0)).trans q0⟩)
       clear hC hs ho p0 q0 hV hJ
       cases f2 with
       | true=>
        iterate 6 (refine cF rfl (by kernel_rfl) (fun _ _ _ h=>h) rfl SM.o (by rintro w' ⟨ha,hH,hM⟩; unfold fV at ha; have k12:=aA (k:=12) ha; have k14:=aA (k:=14) ha; simp only[tr,eI,fR,aM,aL,ak,am,aj]at k12 k14; clear ha; go_simp; rfl) ?_; simp only[Act.put,ag,ai,ah])
        iterate 19 (refine LA rfl (by kernel_rfl) (fun _ _ _ h=>h) rfl SM.o ?_; simp only[Act.put,ag,ai,ah])
        iterate 3 (refine cF rfl (by kernel_rfl) (fun _ _ _ h=>h) rfl SM.o (by rintro w' ⟨ha,hH,hM⟩; unfold fV at ha; have k12:=aA (k:=12) ha; have k14:=aA (k:=14) ha; simp only[tr,eI,fR,aM,aL,ak,am,aj]at k12 k14; clear ha; go_simp; rfl) ?_; simp only[Act.put,ag,ai,ah])
        refine cH (by kernel_rfl) ?_;refine eJ rfl rfl (fun K hK=> ?_);have ha:=SM.o.1;unfold fV at ha;have k14:=aA (k:=14) ha;have kz14:=dy (k:=14) ha;simp only[tr,eI,fR,aM,aL,ak,am,aj]at k14;clear ha;have hf:=jV.clash hZ.o (true) hd;have hw:=an hf
        have hT:=an (show(true)=(fl || (N.take (m2+1)).any (fun y=>decide (y=nm))) by rw[BI hW.o,<-Bool.or_assoc,<-hS.o]; first | rfl | rw[OC]; rfl);clear hf;go_wp2_with fail
        go_roundw
        case rel=>exact⟨m2+1,true,by omega,by go_num,hw.o.1,Hi.o.trans hw.o.2.below,hT.o⟩
        case measure=>simp[intOf]; omega
       | false=>
        iterate 28 (refine cF rfl (by kernel_rfl) (fun _ _ _ h=>h) rfl SM.o (by rintro w' ⟨ha,hH,hM⟩; unfold fV at ha; have k12:=aA (k:=12) ha; have k14:=aA (k:=14) ha; simp only[tr,eI,fR,aM,aL,ak,am,aj]at k12 k14; clear ha; go_simp; rfl) ?_; simp only[Act.put,ag,ai,ah])
        refine cH (by kernel_rfl) ?_;refine eJ rfl rfl (fun K hK=> ?_);have ha:=SM.o.1;unfold fV at ha;have k14:=aA (k:=14) ha;have kz14:=dy (k:=14) ha;simp only[tr,eI,fR,aM,aL,ak,am,aj]at k14;clear ha;have hf:=jV.clash hZ.o ((nm.toList == nk.toList)) hd
        have hw:=an hf;have hT:=an (show((nm.toList == nk.toList))=(fl || (N.take (m2+1)).any (fun y=>decide (y=nm))) by rw[BI hW.o,<-Bool.or_assoc,<-hS.o]; first | rfl | rw[OC]; rfl);clear hf;go_wp2_with fail
        go_roundw
        case rel=>exact⟨m2+1,(nm.toList == nk.toList),by omega,by go_num,hw.o.1,Hi.o.trans hw.o.2.below,hT.o⟩
        case measure=>simp[intOf]; omega
      ·obtain rfl:m2=m:=by omega
       have hU:=an (show f2=(cl || !decide ((N.take (m2+1)).Nodup)) by
        rw[hS.o,Hl.o,Fb Hn.o]
        generalize decide ((N.take m2).Nodup)=D
        generalize (N.take m2).any (fun y=>decide (y=nm))=A
        cases cl<;> cases D<;> cases A<;> rfl)
       go_wp2_with fail
       go_roundw
       case rel=>exact⟨m2+1,f2,by omega,by go_num,hJ.o,hu.o,hU.o⟩
       case measure=>simp[intOf]; omega
    ·obtain rfl:m=bl:=by omega
     have hU:=an (show fl=tQ k c (zs.map Prod.snd) by
      rw[Hk.o,Hl.o,bC (by rw[hX.o,aE,<-hQ.o]; exact au _)])
     go_wp2_with fail;go_ret;exact⟨bY hU.o,Hh.o⟩
theorem Iy {a:Act} {w:World} {b:Nat} {x0 x1 x2 e9 e10:Value} (h:w.heap[b]? =some (.cells #[x0,x1,x2] 26 (0,0)))
  (h8:a.tmps[2]? =some (.pointer (some ⟨b,0,none⟩))) (h9:a.tmps[3]? =some e9) (h10:a.tmps[4]? =some e10):(results Tryz.f35 a.tmps).run Tryz.prog w= .ok (.tuple #[.agg #[x0,x1,x2],e9,e10]) w:=by
 obtain⟨m0,m1,m2,_⟩:=aT h;simp[results,Tryz.results35,go_sem,h8,h9,h10,m0,m1,m2]
theorem Iw {a:Act} {w:World} {b:Nat} {a0 a1 a2 x0 x1 x2 e9 e10:Value} {Q:Ending->World->Prop} (h:w.heap[b]? =some (.cells #[a0,a1,a2] 26 (0,0)))
  (h8:a.tmps[2]? =some (.pointer (some ⟨b,0,none⟩))) (h9:a.tmps[3]? =some e9) (h10:a.tmps[4]? =some e10) (hd:a.defers=[])
  (hQ:Q (.returned (.tuple #[.agg #[x0,x1,x2],e9,e10])) (((w.setCell ⟨b,0,none⟩ x0).setCell ⟨b,1,none⟩ x1).setCell ⟨b,2,none⟩ x2)):
  bodyPost Tryz.prog Tryz.f35 Q Exit.ret a (((w.setCell ⟨b,0,none⟩ x0).setCell ⟨b,1,none⟩ x1).setCell ⟨b,2,none⟩ x2):=cN (Iy (ve h) h8 h9 h10) hd hQ
def Ky (r:cX) (bs:List dq) (w:World) (e:Ending) (w':World):Prop:=Below w.heap.size w w'/\ ∃a cap zs,e= .returned (.tuple #[fa r, .slice a bs.length cap, .bool true])/\zs.map Prod.snd=bs/\ig w' w.heap.size (.slice a bs.length cap) zs/\bs.length<=cap/\cap<=maxLen
theorem Iv (S:Nat->Prop) (tree:List dj) (tv:Value) (w:World) (he:rx w) (ht:dP S w tv tree) {r:cX} {bs:List dq} (hb:ik eZ kF tree []= .ok (r,bs)):Calls Tryz.prog 35 #[tv] w (Ky r bs w):=by
 have HE:=an he;have HT:=an ht;have HB:=an hb;obtain⟨W0,hd⟩: ∃W0:World,W0=w.alloc (.cells #[.string ⟨#[]⟩, .int .i64 0, .int .i64 0] 26):=⟨_,rfl⟩;have hy:=an (show Below w.heap.size w W0 by rw[hd]; exact eN);have hD:=an (show W0.heap[w.heap.size]? =some (.cells #[.string ⟨#[]⟩, .int .i64 0, .int .i64 0] 26 (0,0)) by rw[hd]; exact dY w _);clear he ht hb
 go_enter Tryz.func35,Tryz.ntmps35
 go_wp2_with fail;rw[<-hd];clear hd;refine(sW _).mono ?_;rintro e w1 ⟨rfl,hm⟩;have hz:=an (aw hy.o hm);have hE:=an (dV hm hD.o);clear hm;go_wp2_with fail;refine(ou _).mono ?_;rintro e w2 ⟨rfl,hn⟩;have ha:=an (aw hz.o hn);have hF:=an (dV hn hE.o);have hw:=tO _ (fun _=>True) eZ kF tree [] tv (.map none) w2 (by decide) (HT.o.below ha.o) (.inl ⟨rfl,rfl⟩) (HE.o.below ha.o)
 have hq:=an hw;clear hn hw;go_wp2_with fail;refine hq.o.mono ?_;rintro e w3 hr;obtain⟨ho,ba,bc,zs,rfl,hx,hv,hs,hu⟩:=hr.flat (show PF (ik eZ kF tree [])=(r,bs,0) by rw[HB.o]; rfl);have hA:=an (aw ha.o ho);have hG:=an (dV ho hF.o);have hH:=an hx;have hk:=an hv;have hh:=an (aD hs hu);have hI:w.heap.size<=w2.heap.size:=ha.o.size
 obtain⟨bl,hp⟩: ∃l,l=bs.length:=⟨_,rfl⟩;have hj:=an hp;rw[<-hp]at hk hh ⊢;unfold fa;clear hr ho hx hv hs hu hq hp
 go_upto_region 2 with(fail)
 obtain⟨W3,hf⟩: ∃W3:World,W3=w3.alloc (.cells #[.string r.name, .int .i64 r.gen, .int .i64 r.size] 26):=⟨_,rfl⟩;have hg:=show Below w3.heap.size w3 W3 by rw[hf]; exact eN
 have hC:=an (show W3.heap[w3.heap.size]? =some (.cells #[.string r.name, .int .i64 r.gen, .int .i64 r.size] 26 (0,0)) by rw[hf]; exact dY w3 _);have hB:=an (aw hA.o hg);have hc:=an (dV hg hG.o);have hl:=an (hk.o.below hg);rw[<-hf];clear hf hg hk;obtain⟨p0,p1,p2,_⟩:=aT hC.o;obtain⟨z0,z1,z2,_⟩:=aT hc.o;obtain⟨y0,y1,y2,_⟩:=gu hc.o
 go_wp2_with fail;refine Iw hc.o rfl rfl rfl rfl ?_;refine⟨gW hB.o (au _),ba,bc,zs,by rw[<-hj.o]; rfl,hH.o, ?_,by rw[<-hj.o]; exact hh.o.1,hh.o.2⟩;rw[<-hj.o];exact hl.o.other hc.o (by decide) (by decide) hI (fun i hi=>eh hi)
end Go.Proofs.YtpffpjbkbaleiaaGreatDoor
namespace Go.Proofs.YtpffpjbkbaleiaaGreatDoor
open Go.RowKit
section
variable {k : dm} {gs : List (ByteArray × Int)}
theorem Ml {bs:List dq} {x:List UInt8} {b:dq} (h:b∈kz k gs bs x):b∈bs\/b=⟨bD k gs x,x⟩:=by
 unfold kz at h
 split at h
 ·exact .inl h
 ·rcases aU.1 h with h | h
  ·exact .inl h
  ·exact .inr (aQ.1 h)
theorem Mn {bs:List dq} {x:List UInt8} {b:dq} (h:b∈bs):b∈kz k gs bs x:=by
 unfold kz
 split
 ·exact h
 ·exact iJ _ h
theorem Mm (bs:List dq) (x:List UInt8):bD k gs x∈(kz k gs bs x).map dq.ref:=by
 unfold kz
 split
 ·assumption
 ·simp
theorem yO : ∀(cs:List (List UInt8)) {bs:List dq} {b:dq},b∈et k gs cs bs->b∈bs\/ ∃x∈cs,b=⟨bD k gs x,x⟩
 | [],_,_,h=> .inl h
 | x::cs,bs,b,h=>by
  rcases yO cs (bs:=kz k gs bs x) h with h | ⟨y,hy,e⟩
  ·rcases Ml h with h | h
   ·exact .inl h
   ·exact .inr ⟨x,by simp,h⟩
  ·exact .inr ⟨y,by simp[hy],e⟩
theorem yP : ∀(cs:List (List UInt8)) {bs:List dq} {b:dq},b∈bs->b∈et k gs cs bs
 | [],_,_,h=>h
 | x::cs,bs,_b,h=>yP cs (bs:=kz k gs bs x) (Mn h)
theorem yN : ∀(cs:List (List UInt8)) {bs:List dq} {x:List UInt8},x∈cs->bD k gs x∈(et k gs cs bs).map dq.ref
 | y::cs,bs,x,h=>by
  rcases bh.1 h with rfl | h
  ·obtain⟨_,hb,e⟩:=aW.1 (Mm (k:=k) (gs:=gs) bs x);exact aW.2 ⟨_,yP cs hb,e⟩
  ·exact yN cs (bs:=kz k gs bs y) h
end
def NoC (k:dm) (gs:List (ByteArray×Int)) (U:List (List UInt8)):Prop:= ∀x∈U,∀y∈U,(bD k gs x).name=(bD k gs y).name->x=y
section
variable {k : dm} {gs : List (ByteArray × Int)}
theorem Dc : ∀ {bs:List dq},(bs.map fun b=>b.ref.name).Nodup-> ∀a∈bs,∀b∈bs,a.ref.name=b.ref.name->a=b
 | x::bs,h,a,ha,b,hb,e=>by
  rw[cw,lO]at h
  rcases bh.1 ha with ha1 | ha1
  ·rcases bh.1 hb with hb1 | hb1
   ·rw[ha1,hb1]
   ·rw[ha1]at e;exact absurd (aW.2 ⟨b,hb1,e.symm⟩) h.1
  ·rcases bh.1 hb with hb1 | hb1
   ·rw[hb1]at e;exact absurd (aW.2 ⟨a,ha1,e⟩) h.1
   ·exact Dc h.2 a ha1 b hb1 e
theorem Ph {cs1 cs2:List (List UInt8)} (h1:(gD k gs cs2 (gD k gs cs1 ([],false))).2=false) (h2:DS (gD k gs cs2 (gD k gs cs1 ([],false))).1=false):NoC k gs (cs1++cs2):=by
 obtain⟨g1,g2,g3⟩:=ug h1;obtain⟨_,_,f3⟩:=ug g1;have hc: ∀x∈cs1++cs2,∃b∈(gD k gs cs2 (gD k gs cs1 ([],false))).1,b.ref=bD k gs x/\b.con=x:=fun x hx=>by
  rcases aU.1 hx with hx | hx
  ·obtain⟨b,hb,e⟩:=f3 x hx;exact⟨b,g2 b hb,e⟩
  ·exact g3 x hx
 unfold DS at h2;rw[Bool.not_eq_false',aK]at h2;intro x hx y hy e;obtain⟨a,ha,hd,he⟩:=hc x hx;obtain⟨b,hb,hf,hg⟩:=hc y hy;rw[<-hd,<-hf]at e;rw[<-he,<-hg,Dc h2 a ha b hb e]
theorem NR {cs:List (List UInt8)} (h1:(gD k gs cs ([],false)).2=false) (h2:DS (gD k gs cs ([],false)).1=false):NoC k gs cs:=by
 have:=Ph (cs1:=cs) (cs2:=[]) h1 h2
 rwa [cj]at this
theorem wm : ∀(bs:List dq) (cs:List (ByteArray×List UInt8)),(∀a∈bs,∀b∈bs,a.ref.name=b.ref.name->a.con=b.con)-> ∀b∈bs,gB (bs.foldl (fun cs b=>tp cs b.ref.name b.con) cs) b.ref.name=some b.con
 | a::bs,cs,h,b,hb=>by
  rw[eO]
  by_cases hx: ∃b'∈bs,b'.ref.name=b.ref.name
  ·obtain⟨b',hb',e⟩:=hx;have:=wm bs (tp cs a.ref.name a.con) (fun x hx y hy=>h x (by simp[hx]) y (by simp[hy])) b' hb';rw[e]at this;rw[this,h b' (by simp[hb']) b hb e]
  ·rcases bh.1 hb with rfl | hb
   ·rw[Ce bs _ _ fun y hy e=>hx ⟨y,hy,e⟩,tX,if_pos rfl]
   ·exact absurd ⟨b,hb,rfl⟩ hx
def OfC (k:dm) (gs:List (ByteArray×Int)) (U:List (List UInt8)) (bs:List dq):Prop:= ∀b∈bs,∃x∈U,b=⟨bD k gs x,x⟩
theorem BM (cs:List (List UInt8)):OfC k gs cs (et k gs cs []):=fun b hb=>by
 rcases yO cs hb with h | h
 ·cases h
 ·exact h
theorem NC {U:List (List UInt8)} {bs:List dq} (hn:NoC k gs U) (hU:OfC k gs U bs): ∀b∈bs,gB (mF bs) b.ref.name=some b.con:=
 wm bs [] fun a ha b hb e=>by
  obtain⟨x,hx,rfl⟩:=hU a ha;obtain⟨y,hy,rfl⟩:=hU b hb;exact hn x hx y hy e
theorem Lw {U cs:List (List UInt8)} {bs:List dq} (hn:NoC k gs U) (hU:OfC k gs U bs) (hc: ∀x∈cs,x∈U/\bD k gs x∈bs.map dq.ref):mD k gs (mF bs) cs:=fun x hx=>by
 obtain⟨h1,h2⟩:=hc x hx;obtain⟨b,hb,e⟩:=aW.1 h2;obtain⟨y,hy,rfl⟩:=hU b hb;have h3:=NC hn hU _ hb;simp only at e h3;rw[<-e,h3,hn y hy x h1 (congrArg cX.name e)]
theorem zk {cs:List (List UInt8)} (hn:NoC k gs cs):mD k gs (mF (et k gs cs [])) cs:=
 Lw hn (BM cs) fun _x hx=>⟨hx,yN cs hx⟩
end
section
variable {k : dm} {gs : List (ByteArray × Int)} {c : fL} {tree : List dj}
end
open Go Go.RowKit Go.Maps
theorem IM {S:Nat->Prop} {w:World} {v:Value} {l:List dj} (h:dP S w v l): ∀e∈l,e.time<9223372036854775808:=by
 intro e he;obtain⟨a,c,rfl,_⟩:=cL.shape h lX.len;obtain⟨i,hi⟩:=List.mem_iff_getElem?.1 he;obtain⟨_,_,_,_,_,_,_,ha,_⟩:=iF h hi;have:=ha.tim;simp[Lit.wf,IntKind.min,IntKind.max,IntKind.signed,IntKind.bits]at this;omega
theorem NW {w:World} {base:Nat} {v:Value} {zs:List mE} {bs:List dq} (hz:zs.map Prod.snd=bs) (h:ig w base v zs) (hr: ∀b∈bs,eC b.ref):ni (fun _=>True) w v bs:=
 ⟨zs,hz,cE.weak (cG h.row) (fun _ _=>trivial),fun z hzm=>⟨cE.weak (cG (h.dat z hzm)) (fun _ _=>trivial),hr _ (by rw[<-hz]; exact aW.2 ⟨z,hzm,rfl⟩)⟩⟩
theorem IF {k:dm} {gs:List (ByteArray×Int)} {c:fL} {tree:List dj} (h:vj k gs c tree) (hs:nG tree) {M:List (ByteArray×List UInt8)} (hM:mD k gs M (eK k gs c tree 514 ⟨#[]⟩).2): ∀x∈(eK k gs c tree 514 ⟨#[]⟩).2,x.length<=1048576:=by
 intro x hx;have hz:(bl ⟨#[]⟩).length=0:=rfl
 rcases CC h 514 ⟨#[]⟩ (by omega) (by omega) (rp h.gens h.cut h.ok hs _ _) hM (au _) x hx with⟨e,he,_,h6⟩ | ⟨f',d',a1,a2,a3,a4,a5,a6,a7⟩
 ·have:=(qr h.cut _ _ h6).2;omega
 ·rw[a6];have:=pm (k:=k) h.gens h.cut h.ok hs f' d';omega
end Go.Proofs.YtpffpjbkbaleiaaGreatDoor
namespace Go.Proofs.YtpffpjbkbaleiaaGreatDoor
open Go.RowKit
theorem zj {α:Type} {p:α->Bool} : ∀ {l:List α} {y:α},y∈l->p y=true->(∀z∈l,p z=true->z=y)->l.find? p=some y
 | [],_,h,_,_=>by cases h
 | x::l,y,h,hp,hu=>by
  rw[List.find?_cons]
  cases hx:p x with
  | true=>rw[hu x (by simp) hx]
  | false=>
   simp only
   rcases bh.1 h with rfl | h
   ·rw[hp]at hx; cases hx
   ·exact zj h hp fun z hz=>hu z (by simp[hz])
def mkB (p:List UInt8):ByteArray:=⟨p.toArray⟩
section
variable {k : dm} {gs : List (ByteArray × Int)} {c : fL} {tree : List dj} {M : List (ByteArray × List UInt8)}
theorem LR {d:ByteArray} {e x:dj} (h:yM tree) (he:e∈dz tree d) (hx:x∈dz tree d) (hn:mM (bl d) (bl x.path)=mM (bl d) (bl e.path)):x=e:=by
 obtain⟨e1,e2⟩:=ez.1 he;obtain⟨x1,x2⟩:=ez.1 hx;have h1:=(nw (cY (h.val e e1)) e2).path;have h2:=(nw (cY (h.val x x1)) x2).path;rw[hn]at h2;have h3:x.path=e.path:=jP (by rw[h1,h2]);have h4:=tY h.nodup e1;have h5:=tY h.nodup x1;rw[h3,h4]at h5;exact(bK h5).symm
theorem Lt (h:yM tree) {f:Nat} {d:ByteArray} {e:dj} (he:e∈dz tree d):(nS k gs c tree f d).find? (fun y=>decide (y.name=mkB (mM (bl d) (bl e.path))))=some (cM k gs c d e (bD k gs (eK k gs c tree f e.path).1)):=by
 refine zj (aW.2 ⟨e,he,rfl⟩) (by
  rw[aK]; rfl) fun z hz hp=> ?_
 obtain⟨x,hx,rfl⟩:=aW.1 hz;rw[aK]at hp;have h1:bl (mkB (mM (bl d) (bl x.path)))=bl (mkB (mM (bl d) (bl e.path))):=congrArg bl hp;unfold mkB at h1;rw[iu,iu]at h1;rw[LR h he hx h1]
theorem CU (h:vj k gs c tree) {e:dj} (he:e∈tree): ∀(f:Nat) (d:ByteArray) (q:List UInt8) (it:cr),(bl d).length<=512->512<f+(bl d).length->mU k gs c tree f d=false->mD k gs M (eK k gs c tree f d).2->
  (bl e.path=if bl d=[]then q else bl d++47::q)->it.kind=2->it.node=bD k gs (eK k gs c tree f d).1->
  ∃(d':ByteArray) (nd:cX),cu (bl e.path)=bl d'/\(e.kind=1->mD k gs M (fS c e.data))/\mN M ((dd 47 q).map mkB) it= .ok (cM k gs c d' e nd)/\(e.kind=2->ld nd=true)
 | 0,d,q,it,h1,h2,_,_,_,_,_=>by omega
 | f+1,d,q,it,h1,h2,hb,hM,hq,hk,hn=>by
  have hbl:Bz (bl d) (bl e.path):=by
   by_cases h0:bl d=[]
   ·exact .inl h0
   ·rw[if_neg h0]at hq;exact .inr ⟨q,hq⟩
  obtain⟨x,hx,hm⟩:=ES h.ok d _ (au _) he hbl;obtain⟨x1,x2⟩:=ez.1 hx;have hh:=nw (cY (h.ok.val x x1)) x2;have hj:=hh.no;have ha:=hh.path;have hc: ∀r,mN M (mkB (mM (bl d) (bl x.path))::r) it=mN M r (cM k gs c d x (bD k gs (eK k gs c tree f x.path).1)):=fun r=>by
   rw[mN,if_pos hk,hn,xf h h2 hb hM];simp only;rw[Lt h.ok hx]
  rcases hm with rfl | ⟨hf,hl⟩
  ·have hg:q=mM (bl d) (bl x.path):=by
    rw[ha]at hq
    split at hq
    ·exact hq.symm
    ·have:=List.append_cancel_left hq;simp only[fi,true_and]at this;exact this.symm
   refine⟨d,bD k gs (eK k gs c tree f x.path).1,x2,fun h3 y hy=>qY hM hx y (by unfold iL; rw[if_pos h3]; exact hy), ?_,fun h3=> ?_⟩
   ·rw[hg,gq 47 _ hj,cw,eL,hc]
    rfl
   ·refine lq h.gens ?_;have h6:=qz h h2 hx;obtain⟨g,rfl⟩: ∃g,f=g+1:=⟨f-1,by omega⟩;exact(lG ((lG hb).1 x hx h3)).2
  ·obtain⟨h3,h4,h5⟩:=qz h h2 hx;have hd:=pK h.ok x1;obtain⟨r,hr⟩:=hl.resolve_left hd;have hg:q=mM (bl d) (bl x.path)++47::r:=by
    rw[hr]at hq
    split at hq
    ·rename_i h0;rw[if_pos h0]at ha;rw[<-hq];exact congrArg (· ++47::r) ha
    ·rename_i h0;rw[if_neg h0]at ha;have h7:bl d++47::(mM (bl d) (bl x.path)++47::r)=bl d++47::q:=by
      rw[<-hq];have:=congrArg (· ++47::r) ha;simp only[bp,aM]at this;exact this.symm
     have:=List.append_cancel_left h7;simp only[fi,true_and]at this;exact this.symm
   obtain⟨d',nd,k1,k2,k3,k4⟩:=CU h he f x.path r (cM k gs c d x (bD k gs (eK k gs c tree f x.path).1)) h3 h4 ((lG hb).1 x hx hf) (fun y hy=>qY hM hx y (by unfold iL; rw[if_neg (by omega),if_pos hf]; exact hy))
    (by rw[if_neg hd]; exact hr) hf (by unfold cM; rw[if_pos hf])
   refine⟨d',nd,k1,k2, ?_,k4⟩;rw[hg,mB 47 _ _ hj,cw,hc];exact k3
theorem LN (h:vj k gs c tree) (hb:mU k gs c tree 514 ⟨#[]⟩=false) (hM:mD k gs M (eK k gs c tree 514 ⟨#[]⟩).2) {e:dj} (he:e∈tree):
  ∃(d':ByteArray) (nd:cX),cu (bl e.path)=bl d'/\(e.kind=1->mD k gs M (fS c e.data))/\jW M (bD k gs (eK k gs c tree 514 ⟨#[]⟩).1) e.path= .ok (cM k gs c d' e nd)/\(e.kind=2->ld nd=true):=by
 have h0:bl (⟨#[]⟩:ByteArray)=[]:=rfl;obtain⟨d',nd,k1,k2,k3,k4⟩:=CU (M:=M) h he 514 ⟨#[]⟩ (bl e.path) (my (bD k gs (eK k gs c tree 514 ⟨#[]⟩).1)) (by rw[h0]; simp) (by rw[h0]; simp) hb hM (by rw[if_pos h0]) rfl rfl;refine⟨d',nd,k1,k2, ?_,k4⟩;unfold jW;rw[if_pos ⟨cY (h.ok.val e he),lq h.gens (lG hb).2⟩];exact k3
end
open Go Go.RowKit Go.Maps Go.MapKept
theorem eY.len {S:Nat->Prop} {w:World} : ∀ {m:List (Value×Value)} {cs:List (ByteArray×List UInt8)},eY S w m cs->m.length=cs.length
 | [],[],_=>rfl
 | [],_::_,h=>False.elim h
 | _::_,[],h=>False.elim h
 | (_,_)::_,(_,_)::_,h=>by simp[eY.len h.2.2]
theorem eY.vals {S:Nat->Prop} {w:World} : ∀ {m:List (Value×Value)} {cs:List (ByteArray×List UInt8)},eY S w m cs-> ∀p∈m,∃n bs,p.1= .string n/\bG S w p.2 bs
 | [],[],_,_,hp=>by simp at hp
 | [],_::_,h,_,_=>False.elim h
 | _::_,[],h,_,_=>False.elim h
 | (k,v)::m,(n,bs)::cs,h,p,hp=>by
  rcases bh.1 hp with rfl | hp
  ·exact⟨n,bs,h.1,h.2.1⟩
  ·exact eY.vals h.2.2 p hp
end Go.Proofs.YtpffpjbkbaleiaaGreatDoor
namespace Go.Proofs.YtpffpjbkbaleiaaGreatDoor
open Go Go.RowKit
theorem rK.flat {cs:List (ByteArray×List UInt8)} {it:cr} {w w':World} {e:Ending} (h:rK cs it w e w') (hk:it.kind=1) (hv:gO it=true):
  Below w.heap.size w w'/\ ∃a c,e= .returned (.tuple #[.slice a (lS cs it).1.length c, .int .i64 (lS cs it).2])/\lA w' w.heap.size (.slice a (lS cs it).1.length c) (lS cs it).1:=by
 obtain⟨hb,h⟩:=h;rw[if_pos ⟨hk,hv⟩]at h;refine⟨hb, ?_⟩;unfold lS;rw[if_pos hk]
 cases hf:kL cs it.chunks []with
 | error x=>
  rw[hf]at h;obtain⟨rfl,-⟩:=h;exact⟨none,0,rfl,bN _ _ _ _⟩
 | ok bs=>
  rw[hf]at h;obtain⟨v,rfl,hv⟩:=h;obtain⟨a,c,rfl,-,-⟩:=aI hv;exact⟨a,c,rfl,hv⟩
def PG (r:Except Int (List dj)):List dj×Int:=match r with
 | .error x=>([],x)
 | .ok l=>(l,0)
theorem Pm {x:Int} (h0:0<=x) (h1:x<9223372036854775808):(Lit.int .i64 x).wf=true:=by
 have e1:IntKind.i64.max=9223372036854775807:=by decide
 have e2:IntKind.i64.min= -9223372036854775808:=by decide
 simp only[Lit.wf,aJ,aK];omega
theorem OS {it:cr} {p:ByteArray} {bs:List UInt8} (hv:gO it=true) (ht:it.time<9223372036854775808) (hp:dB (bl p)=true):jE ⟨p,it.kind,it.mode,it.time,bs,it.link⟩:=by
 unfold gO at hv;rw[aJ]at hv;have hh:=pg.1 hv.1;have ha:=ms hp;rw[<-bi]at ha;have he:(⟨#[]⟩:ByteArray).size=0:=rfl;have hl:it.link.size<=512:=by
  rcases nA hv.2 with hk | hk | hk
  ·rw[(lw hk hv.2).1,he]; omega
  ·rw[(qn hk hv.2).1,he]; omega
  ·exact(qX hk hv.2).2.2.2.2.1
 have hk:=nA hv.2;exact⟨by show p.size<=_; unfold maxLen; omega,by show it.link.size<=_; unfold maxLen; omega,Pm (by show 0<=it.kind; omega) (by show it.kind<_; omega),Pm hh.md0 (by have:=hh.md1; show it.mode<_; omega),Pm hh.tm0 ht⟩
theorem xG {cs:List (ByteArray×List UInt8)} {rec:ByteArray->cX->List dj->Int×List dj} {dir:ByteArray} (hrec: ∀d r acc,(∀e∈acc,jE e)-> ∀e∈(rec d r acc).2,jE e):
  ∀ {l:List cr} {acc:List dj},(∀it∈l,gO it=true/\it.time<9223372036854775808)->(∀e∈acc,jE e)-> ∀e∈(jz cs rec dir l acc).2,jE e
 | [],acc,_,ha=>ha
 | it::l,acc,hl,ha=>by
  have hl2: ∀x∈l,gO x=true/\x.time<9223372036854775808:=fun x hx=>hl x (by simp[hx])
  rw[jz]
  split
  ·rename_i hv;obtain⟨h1,h2⟩:=hl it (by simp);have hacc: ∀e∈acc++[⟨jS dir it.name,it.kind,it.mode,it.time,(lS cs it).1,it.link⟩],jE e:=fun e he=>by
    rcases aU.1 he with he | he
    ·exact ha e he
    ·obtain rfl:=aQ.1 he;exact OS h1 h2 hv.1
   by_cases hk:it.kind=2
   ·simp only[if_pos hk];have h3:=hrec (jS dir it.name) it.node _ hacc
    split
    ·exact xG hrec hl2 h3
    ·exact h3
   ·simp only[if_neg hk]
    split
    ·exact xG hrec hl2 hacc
    ·exact hacc
  ·exact ha
theorem CR {cs:List (ByteArray×List UInt8)} : ∀(n:Nat) (dir:ByteArray) (ref:cX) (acc:List dj),(∀e∈acc,jE e)-> ∀e∈(iz cs n dir ref acc).2,jE e
 | 0,_,_,acc,ha=>ha
 | n+1,dir,ref,acc,ha=>by
  rw[iz]
  cases hn:jy cs ref with
  | error x=>exact ha
  | ok l=>
   obtain⟨k,bs,_,hi⟩:=ud hn;exact xG (CR n) (fun it hit=>⟨(nF (rZ hn).2.1).2 it hit,CG hi it hit⟩) ha
theorem vu.seq {B:Nat} {w:World} {v:Value} {acc:List dj} (h:vu B w v acc) (hok: ∀e∈acc,jE e):dP (fun _=>True) w v acc:=by
 obtain⟨ys,rfl,hr,hd⟩:=h;refine⟨iw ys, ?_,Cp (fun y hy=>⟨(cG (hd y hy)).weak (fun _ _=>trivial),hok _ (aW.2 ⟨y,hy,rfl⟩)⟩)⟩;rw[aE];exact(cG hr).weak (fun _ _=>trivial)
theorem AA.flat {cs:List (ByteArray×List UInt8)} {root:cX} {l:List dj} {x:Int} {w w':World} {e:Ending} (h:AA cs root w e w') (he:PG (oz cs root)=(l,x)):
  Below w.heap.size w w'/\ ∃a cap,e= .returned (.tuple #[.slice a l.length cap, .int .i64 x])/\dP (fun _=>True) w' (.slice a l.length cap) l/\l.length<=cap/\cap<=maxLen:=by
 obtain⟨hb,h⟩:=h;refine⟨hb, ?_⟩
 cases hl:oz cs root with
 | error y=>
  rw[hl]at h he;obtain⟨rfl,-⟩:=h
  cases he
  exact⟨none,0,rfl,dP.nil _ _,au _,aX _⟩
 | ok rs=>
  rw[hl]at h he;obtain⟨v,rfl,hv⟩:=h
  cases he
  have ha: ∀e∈l,jE e:=by
   unfold oz at hl
   split at hl
   ·split at hl
    ·simp only[dr]at hl;subst hl;exact CR 514 _ _ _ (by simp)
    ·cases hl
   ·cases hl
  have hs:=hv.seq ha;obtain⟨a,cap,rfl,h1,h2,-⟩:=cL.shape hs lX.len;exact⟨a,cap,rfl,hs,h1,h2⟩
theorem Bp (S T:Nat->Prop) (L:List dj) (v u:Value) (w:World) (hv:dP S w v L) (hu:dP T w u L):
  Calls Tryz.prog 27 #[v,u] w fun e w'=>e= .returned (.bool true)/\Below w.heap.size w w':=by
 have:=yz S T L L v u w hv hu
 rwa [show decide (L=L)=true from cO rfl]at this
def PR (r:Except Int cr):cr×Int:=match r with
 | .error x=>(Nb,x)
 | .ok it=>(it,0)
theorem AB.flat {cs:List (ByteArray×List UInt8)} {root:cX} {path:ByteArray} {it:cr} {x:Int} {w w':World} {e:Ending} (h:AB cs root path w e w') (he:PR (jW cs root path)=(it,x)):
  Below w.heap.size w w'/\ ∃a cap,e= .returned (.tuple #[lT (.slice a it.chunks.length cap) it, .int .i64 x])/\dA (fun _=>True) w' (.slice a it.chunks.length cap) it.chunks/\it.chunks.length<=cap/\cap<=maxLen:=by
 obtain⟨hb,h⟩:=h;refine⟨hb, ?_⟩
 cases hl:jW cs root path with
 | error y=>
  rw[hl]at h he;obtain⟨rfl,-⟩:=h
  cases he
  exact⟨none,0,rfl,cL.nil,au _,aX _⟩
 | ok rs=>
  rw[hl]at h he;obtain⟨v,rfl,hv,-⟩:=h
  cases he
  obtain⟨a,cap,rfl,h1,h2,-⟩:=cL.shape hv oJ.len;exact⟨a,cap,rfl,dA.same hv (fun _ _ _=>⟨trivial,rfl⟩),h1,h2⟩
open Go Go.RowKit Go.Maps
theorem Mt (tree:List dj) (tv:Value) (w:World) (he:rx w) (ht:dP (fun _=>True) w tv tree) (hps: ∀e∈tree,e.path.size<=16777216):
  Calls Tryz.prog 10 #[tv] w fun e w'=>e= .returned (.bool true)/\Below w.heap.size w w':=by
 have HE:=an he;have HT:=an ht.lts;have YL:=an hps;obtain⟨ta,tc,Yp,Y1,Y0,-⟩:=cL.shape ht lX.len;unfold maxLen at Y0;have YN:=an (IM ht);obtain⟨n,hn⟩: ∃n,n=tree.length:=⟨_,rfl⟩;rw[<-hn]at Yp Y1;have HN:=an hn;subst Yp;clear he hps ht hn
 go_enter Tryz.func10,Tryz.ntmps10
 go_wp2_with fail;refine(BJ _ HE.o).mono ?_;rintro e w1 ⟨rfl,Ya⟩;have H1:=an Ya;clear Ya;go_wp2_with fail;obtain⟨sb,HW⟩: ∃b,b=su tree:=⟨_,rfl⟩;have HX:=DH _ tree (.slice ta n tc) w1 (HT.o.keep (fun i hi=>H1.o.block i hi));rw[<-HW]at HX;have YM:=an HW;refine HX.mono ?_;rintro e w2 ⟨rfl,Yb⟩;have Hl:=an (aw H1.o Yb);clear Yb HX HW
 cases sb
 ·go_wp2_with fail;go_ret;exact⟨rfl,Hl.o⟩
 obtain⟨x,hx⟩: ∃x,x=iq tree:=⟨_,rfl⟩;have Yh:=Oc (· <w.heap.size) tree (.slice ta n tc) x w2 (HT.o.keep (fun i hi=>Hl.o.block i hi)) YL.o hx.symm;have YC:=an hx.symm;have H6:=an Yh;clear hx Yh;go_wp2_with fail;refine H6.o.mono ?_;rintro e w3 ⟨rfl,hA⟩;have hl:=an (aw Hl.o hA);clear hA H6
 by_cases Ys:x=0
 rotate_left
 ·have e1:(x != 0)=true:=by simp[Ys]
  go_wp2_with fail;go_ret;exact⟨rfl,hl.o⟩
 subst Ys;have hE:=an (pD.1 YC.o);have hL:=an (show nG tree from by
  have h1:=YM.o;unfold su at h1;rw[eq_comm,aJ,aK,cz]at h1;exact⟨h1.2,fun e he=>by simpa using h1.1 e he⟩)
 go_wp2_with fail;refine(sW _).mono ?_;rintro e w4 ⟨rfl,hB⟩;have Yv:=an (aw hl.o hB);clear hB;go_wp2_with fail;refine(ou _).mono ?_;rintro e w5 ⟨rfl,hC⟩;have Yw:=an (aw Yv.o hC);clear hC;obtain⟨W5,hG⟩: ∃W5:World,W5=w5.alloc (.cells #[.slice ta n tc] 46):=⟨_,rfl⟩;have hm:Below w5.heap.size w5 W5:=by rw[hG]; exact eN
 have H2:=an (aw Yw.o hm);have Yo:Gd W5 (.slice (some ⟨w5.heap.size,0,none⟩) 1 1) [(.slice ta n tc,tree)]:=by
  have hx:W5.heap[w5.heap.size]? =some (.cells #[.slice ta n tc] 46 (0,0)):=by rw[hG]; exact dY w5 _
  refine⟨⟨rfl,some ⟨w5.heap.size,0,none⟩,1,rfl,au _,by unfold maxLen; omega, .inr ⟨w5.heap.size,0,rfl,az hx,fun j u hj=> ?_⟩⟩,fun z hz=> ?_⟩
  ·have h0:=aA (k:=0) hx
   match j,hj with
   | 0,hj=>exact h0.trans hj
  ·rw[aQ]at hz;subst hz;exact(HT.o.keep (fun i hi=>H2.o.block i hi)).lts
 have Hj:=Fo eZ kF [(.slice ta n tc,tree)] (.slice (some ⟨w5.heap.size,0,none⟩) 1 1) W5 (by decide) (by decide) (by decide) Yo (show 1<=10 by omega) (fun z hz=>by rw[aQ]at hz; subst hz; exact⟨hE.o,hL.o⟩);obtain⟨cb,HG⟩: ∃b,b=tQ eZ kF [tree]:=⟨_,rfl⟩;have YA:=an HG;rw[show [((.slice ta n tc:Value),tree)].map Prod.snd=[tree]from rfl,<-HG]at Hj
 have H7:=an Hj;clear hm Yo Hj HG;go_wp2_with fail;rw[<-hG];clear hG;refine H7.o.mono ?_;rintro e w6 ⟨rfl,hm⟩;have Hb:=an (aw H2.o hm);clear hm H7
 cases cb
 rotate_left
 ·go_wp2_with fail;go_ret;exact⟨rfl,Hb.o⟩
 have y2:=an (show NoC eZ [] (eK eZ [] kF tree 514 ⟨#[]⟩).2 from by
  have h1:=YA.o;unfold tQ nM at h1;rw[eq_comm,fH]at h1;exact NR h1.1 h1.2)
 have Hq:=an (show vj eZ [] kF tree from⟨hE.o,by decide,mI,YN.o⟩);have H3:=an (rp (k:=eZ) (gs:=[]) (c:=kF) mI (by decide) hE.o hL.o 514 ⟨#[]⟩);obtain⟨X,hX⟩: ∃X,X=(eK eZ [] kF tree 514 ⟨#[]⟩).1:=⟨_,rfl⟩;obtain⟨bs,HC⟩: ∃bs,bs=et eZ [] (eK eZ [] kF tree 514 ⟨#[]⟩).2 []:=⟨_,rfl⟩;obtain⟨r,hr⟩: ∃r,r=bD eZ [] X:=⟨_,rfl⟩
 have Hx:=an hX;have Hn:=an HC;have Hw:=an hr;have Yd:=Iv _ tree (.slice ta n tc) w6 (HE.o.below Hb.o) (HT.o.keep (fun i hi=>Hb.o.block i hi)) (r:=r) (bs:=bs) (by rw[HC,hr,hX]; exact BO (by decide) (by decide) mI hE.o hL.o);have H5:=an Yd;clear hX HC hr Yd;go_wp2_with fail;refine H5.o.mono ?_;rintro e w7 ⟨Hi,ba,bc,zs,rfl,Yu,Yc,YT,YU⟩
 unfold maxLen at YU;have Yx:=an (aw Hb.o Hi);have YS:=an Yu;have Hm:=an Yc;obtain⟨bl,HB⟩: ∃l,l=bs.length:=⟨_,rfl⟩;have Y2:=an HB;rw[<-HB]at Hm YT ⊢;unfold fa;clear Hi Yu Yc H5 HB
 go_upto_region 8 with(fail)
 obtain⟨W7,Hh⟩: ∃W7:World,W7=w7.alloc (.cells #[.string r.name, .int .i64 r.gen, .int .i64 r.size] 26):=⟨_,rfl⟩;have HF:=show Below w7.heap.size w7 W7 by rw[Hh]; exact eN
 have yb:=an (show W7.heap[w7.heap.size]? =some (.cells #[.string r.name, .int .i64 r.gen, .int .i64 r.size] 26 (0,0)) by rw[Hh]; exact dY w7 _);have Yy:=an (aw Yx.o HF);have h3:=an (Hm.o.below HF);rw[<-Hh];clear Hh HF Hm;have h9:bs.length<=733:=by
  have h1:=qW eZ [] (eK eZ [] kF tree 514 ⟨#[]⟩).2 [];have h2:=GI (k:=eZ) (gs:=[]) (c:=kF) (by decide) hL.o hE.o;rw[<-Hn.o]at h1;simp only[bo]at h1;omega
 have HH:=sL (fun _=>True) bs (.slice ba bl bc) (W7) (NW YS.o h3.o (fun b hb=>by
  obtain⟨x,hx,rfl⟩:=BM (k:=eZ) (gs:=[]) (eK eZ [] kF tree 514 ⟨#[]⟩).2 b (by rw[<-Hn.o]; exact hb);exact jo mI (IF Hq.o hL.o (zk y2.o) x hx))) (by omega)
 unfold FW at HH;have H8:=an HH;have Y3:=an h9;have y4:=an (show eC r from by rw[Hw.o]; exact jo mI (by have:=pm (k:=eZ) mI (c:=kF) (by decide) hE.o hL.o 514 ⟨#[]⟩; rw[<-Hx.o]at this; omega));have yl:=an (show mD eZ [] (mF bs) (eK eZ [] kF tree 514 ⟨#[]⟩).2 from by rw[Hn.o]; exact zk y2.o);clear HH h9
 go_wp2_with fail;refine H8.o.mono ?_;rintro e w8 ⟨mb,mm,rfl,YZ,Ym,Yl,HA⟩;have hT:=an (aw Yy.o HA);have hI:=an (dV HA yb.o);have Ht:=an (show fU (fun _=>True) w8 (.map (some mb)) (mF bs)from .inr ⟨mb,mm,rfl,trivial,Ym.is,Yl⟩);have hh:=LL Hq.o H3.o yl.o;rw[<-Hx.o,<-Hw.o]at hh;have YJ:=an hh;have HR:=uT (fun _=>True) (.map (some mb)) (mF bs) r w8 Ht.o (HE.o.below hT.o).env y4.o
 unfold fa at HR;have yp:=an HR;clear YZ Ym Yl HA H8 yb h3 hh HR;obtain⟨p0,p1,p2,_⟩:=aT hI.o;go_wp2_with fail;refine yp.o.mono ?_;rintro e w9 hr;obtain⟨hw,la,lc,rfl,HU,YX,YW⟩:=hr.flat (show PG (oz (mF bs) r)=(tree,0) by rw[YJ.o]; rfl);unfold maxLen at YW;rw[<-HN.o]at HU YX ⊢;have hY:=an (aw hT.o hw);have h4:=an (dV hw hI.o)
 have h7:=an (Ht.o.below hw);have Yn:=Bp _ _ tree (.slice la n lc) (.slice ta n tc) w9 HU (HT.o.keep (fun i hi=>hY.o.block i hi));have y5:=an Yn;clear hr hw HU yp Yn p0 p1 p2 hI Ht;go_wp2_with fail;refine y5.o.mono ?_;rintro e w10 ⟨rfl,hy⟩;have hZ:=an (aw hY.o hy);have Hp:=an (dV hy h4.o);have Hs:=an (h7.o.below hy);clear hy h4 h7 y5
 go_wp2_with fail
 go_loopw [9,10,11,12,13] (fun i _ _ _ _ wq=> ∃j:Nat,j<=n/\i= .int .i64 (j:Int)/\Below w10.heap.size w10 wq) (fun i _ _ _ _ _=>n-(intOf i).toNat)
 case atStart=>exact⟨0,aX _,rfl,ay _ _⟩
 case round=>
  obtain⟨j,hj,rfl,hb⟩:=hrel;have hQ:=an (hZ.o.trans (hb.mono hZ.o.size));have YD:=an (dV hb Hp.o);have y0:=an (Hs.o.below hb);have H4:=an hb;clear hb
  by_cases YY:j<n
  ·obtain⟨e,he⟩: ∃e,tree[j]? =some e:=⟨tree[j]'(by rw[<-HN.o]; exact YY),by simp⟩;have ya:=an he;have YO:=an (HT.o.keep (w':=wr) (fun i hi=>hQ.o.block i hi));obtain⟨tb,ot,dv,rfl,-,-,Ha,-,-,d0,d1,d2,d3,d4,d5⟩:=iF YO.o he;obtain⟨da,dc,YV,-,-⟩:=dJ.slice Ha
   subst YV;obtain⟨dn,HI⟩: ∃l,l=e.data.length:=⟨_,rfl⟩;rw[<-HI]at d4;have H9:=an HI;have He:=an (aS he);obtain⟨d',nd,k1,k2,k3,k4⟩:=LN Hq.o H3.o yl.o He.o;rw[<-Hx.o,<-Hw.o]at k3;have YF:=an k1;have YG:=an k2;have YH:=an k3;have YI:=an k4;clear he Ha HI k1 k2 k3 k4
   go_upto_region 17 with(fail)
   refine eH (fun w'=>w'.heap[w7.heap.size]? =some (.cells #[.string r.name, .int .i64 r.gen, .int .i64 r.size] 26 (0,0))/\w'.cell? ⟨tb,ot+j*6,none⟩=some (.string e.path)) (by kernel_rfl) ?_;obtain⟨V,hV⟩: ∃V:World,V=wr.drew:=⟨_,rfl⟩;rw[<-hV];have HD:Below wr.heap.size wr V:=by rw[hV]; exact(ay _ _).drew
   have Hc:=an HD;have keep: ∀(U:World),Below wr.heap.size wr U->U.heap[w7.heap.size]? =some (.cells #[.string r.name, .int .i64 r.gen, .int .i64 r.size] 26 (0,0))/\U.cell? ⟨tb,ot+j*6,none⟩=some (.string e.path):=fun U hU=>
    ⟨dV hU YD.o,(hU.cell (p:=⟨tb,ot+j*6,none⟩) (bS d0)).trans d0⟩
   have KP:=an keep;have SV:=an (keep V HD);have HS:=fun(U:World) (hU:Below wr.heap.size wr U)=>oM (fun _=>True) (.map (some mb)) (mF bs) r e.path U (y0.o.below hU) (HE.o.below (hQ.o.trans (hU.mono hQ.o.size))).env y4.o
   unfold fa at HS;have Hr:=an HS;obtain⟨it,HL⟩: ∃it,it=cM eZ [] kF d' e nd:=⟨_,rfl⟩;have hP:=YH.o;rw[<-HL]at hP;have yn:=an hP;have Hf:=an HL;clear HD hV keep HS HL hP d0 d1 d2 d3 d4 d5
   iterate 7 (refine cF rfl (by kernel_rfl) (fun _ _ _ h=>h) rfl SV.o (by rintro w' ⟨hx,hp⟩; have q0:=bH (k:=0) hx; have q1:=bH (k:=1) hx; have q2:=bH (k:=2) hx; simp only[ak,am,aj]at q0 q1 q2; clear hx; go_simp; rfl) ?_; simp only[Act.put,ag,ai,ah])
   apply Ch
   ·intro tail;refine sS 7 11 rfl rfl (by kernel_rfl) rfl rfl (fun K hK=> ?ca) (fun K hK=> ?al)
    case ca=>
     go_wp2_with fail;refine(Hr.o V Hc.o).mono ?_;rintro e' w3 ⟨hA,ha⟩;rw[yn.o]at ha;obtain⟨v,rfl,hv,hH⟩:=ha;obtain⟨ca,cc,rfl,-,-,-⟩:=cL.shape hv oJ.len;obtain⟨cn,hO⟩: ∃l,l=it.chunks.length:=⟨_,rfl⟩;rw[<-hO]at hv ⊢;have ho:=an (aw Hc.o hA);have SC:=an (KP.o w3 ho.o);have y6:=an hv;unfold lT;clear hA hv hO;go_wp2_with fail;refine⟨SC.o, ?_⟩
     refine bJ 8 rfl (by kernel_rfl) (by kernel_rfl) (by kernel_rfl) (fun _ _ _ h=>h) rfl SC.o (by rintro w' ⟨hx,hp⟩; have q0:=bH (k:=0) hx; have q1:=bH (k:=1) hx; have q2:=bH (k:=2) hx; simp only[ak,am,aj]at q0 q1 q2; clear hx; go_simp; rfl) ?_;simp only[Act.put,ag,ai,ah]
     refine bJ 9 rfl (by kernel_rfl) (by kernel_rfl) (by kernel_rfl) (fun _ _ _ h=>h) rfl SC.o (by rintro w' ⟨hx,hp⟩; have q0:=bH (k:=0) hx; have q1:=bH (k:=1) hx; have q2:=bH (k:=2) hx; simp only[ak,am,aj]at q0 q1 q2; clear hx; go_simp; rfl) ?_;simp only[Act.put,ag,ai,ah]
     refine bJ 10 rfl (by kernel_rfl) (by kernel_rfl) (by kernel_rfl) (fun _ _ _ h=>h) rfl SC.o (by rintro w' ⟨hx,hp⟩; have q0:=bH (k:=0) hx; have q1:=bH (k:=1) hx; have q2:=bH (k:=2) hx; simp only[ak,am,aj]at q0 q1 q2; clear hx; go_simp; rfl) ?_;simp only[Act.put,ag,ai,ah]
     refine cy 11 rfl (fun K hK=> ?_);go_wp2_with fail;obtain⟨W,hW⟩: ∃W,W=w3.alloc (.cells #[.string ⟨#[]⟩, .int .i64 0, .int .i64 0, .int .i64 0, .int .i64 0, .string ⟨#[]⟩, .slice none 0 0, .string ⟨#[]⟩, .int .i64 0, .int .i64 0] 28):=⟨_,rfl⟩;obtain⟨xb,hD⟩: ∃b,b=w3.heap.size:=⟨_,rfl⟩;have hq:=an (show W.heap[xb]? =some (.cells #[.string ⟨#[]⟩, .int .i64 0, .int .i64 0, .int .i64 0, .int .i64 0, .string ⟨#[]⟩, .slice none 0 0, .string ⟨#[]⟩, .int .i64 0, .int .i64 0] 28 (0,0)) by rw[hW,hD]; exact aH w3 _)
     have hB:Below w3.heap.size w3 W:=by rw[hW]; exact eN
     have hl:=an (aw ho.o hB);have S3:=an (KP.o W hl.o);have h8:=an (show dA (· ≠xb) W (.slice ca cn cc) it.chunks from cL.below (cL.mono y6.o (by omega) (fun k hk _=>by show k≠xb; omega) (fun _ _ _ h=>h)) (by omega) hB (fun _ _ _ h=>h));have hR:wr.heap.size<=xb:=by rw[hD]; exact ho.o.size
     rw[<-hW,<-hD];clear hW hD hB ho SC y6;refine⟨S3.o, ?_⟩;obtain⟨i0,i1,i2,i3,i4,i5,i6,i7,i8,i9,_⟩:=aT hq.o;obtain⟨g0,g1,g2,g3,g4,g5,g6,g7,g8,g9,_⟩:=gu hq.o;refine cy 12 rfl (fun K hK=> ?_);go_wp2_with fail;obtain⟨W4,hd⟩: ∃W4:World,W4=((((((((((W.setCell ⟨xb,0,none⟩ (.string it.name)).setCell ⟨xb,1,none⟩ (.int .i64 it.kind)).setCell ⟨xb,2,none⟩ (.int .i64 it.mode)).setCell ⟨xb,3,none⟩ (.int .i64 it.time)).setCell ⟨xb,4,none⟩ (.int .i64 it.size)).setCell ⟨xb,5,none⟩ (.string it.link)).setCell ⟨xb,6,none⟩ (.slice ca cn cc)).setCell ⟨xb,7,none⟩ (.string it.node.name)).setCell ⟨xb,8,none⟩ (.int .i64 it.node.gen)).setCell ⟨xb,9,none⟩ (.int .i64 it.node.size)):=⟨_,rfl⟩
     rw[<-hd];have hc:Below wr.heap.size wr W4:=by rw[hd]; exact ij hl.o (by omega)
     have S4:=an (show W4.heap[w7.heap.size]? =some (.cells #[.string r.name, .int .i64 r.gen, .int .i64 r.size] 26 (0,0))/\W4.cell? ⟨tb,ot+j*6,none⟩=some (.string e.path)from KP.o W4 hc);have hu:W4.heap[xb]? =some (.cells #[.string it.name, .int .i64 it.kind, .int .i64 it.mode, .int .i64 it.time, .int .i64 it.size, .string it.link, .slice ca cn cc, .string it.node.name, .int .i64 it.node.gen, .int .i64 it.node.size] 28 (0,0)):=by rw[hd]; exact Af hq.o
     have hs:dA (· ≠xb) W4 (.slice ca cn cc) it.chunks:=cL.same h8.o (fun i hi=>by rw[hd]; exact mj hi) (fun _ _ _ h=>h);clear hd i0 i1 i2 i3 i4 i5 i6 i7 i8 i9 g0 g1 g2 g3 g4 g5 g6 g7 g8 g9;refine⟨S4.o, ?_⟩;refine cF rfl (by kernel_rfl) (fun _ _ _ h=>h) rfl S4.o (by rintro w' ⟨hx,hp⟩; have q0:=bH (k:=0) hx; have q1:=bH (k:=1) hx; have q2:=bH (k:=2) hx; simp only[ak,am,aj]at q0 q1 q2; clear hx; go_simp; rfl) ?_
     simp only[Act.put,ag,ai,ah];refine cH (by kernel_rfl) ?_;clear S4 hq h8 hl;have hF:=aD hR (aD hc (aD hu (aD hs hH)));clear hc hu hs hR hH
     revert hF
     revert ca
     revert cc
     revert cn
     revert xb
     revert W4
     exact tail.o
    case al=>
     go_wp2_with fail;obtain⟨V1,Hg⟩: ∃W,W=V.alloc (.cells #[.string ⟨#[]⟩, .int .i64 0, .int .i64 0, .int .i64 0, .int .i64 0, .string ⟨#[]⟩, .slice none 0 0, .string ⟨#[]⟩, .int .i64 0, .int .i64 0] 28):=⟨_,rfl⟩;obtain⟨xb,hD⟩: ∃b,b=V.heap.size:=⟨_,rfl⟩;have H0:V1.heap[xb]? =some (.cells #[.string ⟨#[]⟩, .int .i64 0, .int .i64 0, .int .i64 0, .int .i64 0, .string ⟨#[]⟩, .slice none 0 0, .string ⟨#[]⟩, .int .i64 0, .int .i64 0] 28 (0,0)):=by rw[Hg,hD]; exact aH V _
     have y8:=an H0;have hB:Below V.heap.size V V1:=by rw[Hg]; exact eN
     have ho:=an (aw Hc.o hB);have SC:=an (KP.o V1 ho.o);have hR:wr.heap.size<=xb:=by rw[hD]; exact Hc.o.size
     have Yk:xb<V1.heap.size:=az H0;rw[<-Hg,<-hD];clear Hg hD H0 hB;have yv:=an Yk;clear Yk;refine⟨SC.o, ?_⟩;refine cy 7 rfl (fun K hK=> ?_);go_wp2_with fail;refine(Hr.o V1 ho.o).mono ?_;rintro e' W ⟨hA,ha⟩;rw[yn.o]at ha;obtain⟨v,rfl,hv,hH⟩:=ha;obtain⟨ca,cc,rfl,-,-,-⟩:=cL.shape hv oJ.len;obtain⟨cn,hO⟩: ∃l,l=it.chunks.length:=⟨_,rfl⟩
     rw[<-hO]at hv ⊢;have hl:=an (aw ho.o hA);have S3:=an (KP.o W hl.o);have hq:=an (dV hA y8.o);have h8:=an (show dA (· ≠xb) W (.slice ca cn cc) it.chunks from cL.mono hv (by omega) (fun k _ hS=>by have Y5:V1.heap.size<=k:=hS; have:=yv.o; show k≠xb; omega) (fun _ _ _ h=>h));unfold lT;clear hA hv hO ho SC y8 yv;go_wp2_with fail;refine⟨S3.o, ?_⟩
     refine bJ 8 rfl (by kernel_rfl) (by kernel_rfl) (by kernel_rfl) (fun _ _ _ h=>h) rfl S3.o (by rintro w' ⟨hx,hp⟩; have q0:=bH (k:=0) hx; have q1:=bH (k:=1) hx; have q2:=bH (k:=2) hx; simp only[ak,am,aj]at q0 q1 q2; clear hx; go_simp; rfl) ?_;simp only[Act.put,ag,ai,ah]
     refine bJ 9 rfl (by kernel_rfl) (by kernel_rfl) (by kernel_rfl) (fun _ _ _ h=>h) rfl S3.o (by rintro w' ⟨hx,hp⟩; have q0:=bH (k:=0) hx; have q1:=bH (k:=1) hx; have q2:=bH (k:=2) hx; simp only[ak,am,aj]at q0 q1 q2; clear hx; go_simp; rfl) ?_;simp only[Act.put,ag,ai,ah]
     refine bJ 10 rfl (by kernel_rfl) (by kernel_rfl) (by kernel_rfl) (fun _ _ _ h=>h) rfl S3.o (by rintro w' ⟨hx,hp⟩; have q0:=bH (k:=0) hx; have q1:=bH (k:=1) hx; have q2:=bH (k:=2) hx; simp only[ak,am,aj]at q0 q1 q2; clear hx; go_simp; rfl) ?_;simp only[Act.put,ag,ai,ah]
     obtain⟨i0,i1,i2,i3,i4,i5,i6,i7,i8,i9,_⟩:=aT hq.o;obtain⟨g0,g1,g2,g3,g4,g5,g6,g7,g8,g9,_⟩:=gu hq.o;refine cy 12 rfl (fun K hK=> ?_);go_wp2_with fail;obtain⟨W4,hd⟩: ∃W4:World,W4=((((((((((W.setCell ⟨xb,0,none⟩ (.string it.name)).setCell ⟨xb,1,none⟩ (.int .i64 it.kind)).setCell ⟨xb,2,none⟩ (.int .i64 it.mode)).setCell ⟨xb,3,none⟩ (.int .i64 it.time)).setCell ⟨xb,4,none⟩ (.int .i64 it.size)).setCell ⟨xb,5,none⟩ (.string it.link)).setCell ⟨xb,6,none⟩ (.slice ca cn cc)).setCell ⟨xb,7,none⟩ (.string it.node.name)).setCell ⟨xb,8,none⟩ (.int .i64 it.node.gen)).setCell ⟨xb,9,none⟩ (.int .i64 it.node.size)):=⟨_,rfl⟩
     rw[<-hd];have hc:Below wr.heap.size wr W4:=by rw[hd]; exact ij hl.o (by omega)
     have S4:=an (show W4.heap[w7.heap.size]? =some (.cells #[.string r.name, .int .i64 r.gen, .int .i64 r.size] 26 (0,0))/\W4.cell? ⟨tb,ot+j*6,none⟩=some (.string e.path)from KP.o W4 hc);have hu:W4.heap[xb]? =some (.cells #[.string it.name, .int .i64 it.kind, .int .i64 it.mode, .int .i64 it.time, .int .i64 it.size, .string it.link, .slice ca cn cc, .string it.node.name, .int .i64 it.node.gen, .int .i64 it.node.size] 28 (0,0)):=by rw[hd]; exact Af hq.o
     have hs:dA (· ≠xb) W4 (.slice ca cn cc) it.chunks:=cL.same h8.o (fun i hi=>by rw[hd]; exact mj hi) (fun _ _ _ h=>h);clear hd i0 i1 i2 i3 i4 i5 i6 i7 i8 i9 g0 g1 g2 g3 g4 g5 g6 g7 g8 g9;refine⟨S4.o, ?_⟩;refine bJ 13 rfl (by kernel_rfl) (by kernel_rfl) (by kernel_rfl) (fun _ _ _ h=>h) rfl S4.o (by rintro w' ⟨hx,hp⟩; have q0:=bH (k:=0) hx; have q1:=bH (k:=1) hx; have q2:=bH (k:=2) hx; simp only[ak,am,aj]at q0 q1 q2; clear hx; go_simp; rfl) ?_
     simp only[Act.put,ag,ai,ah];refine cH (by kernel_rfl) ?_;clear S4 hq h8 hl;have hF:=aD hR (aD hc (aD hu (aD hs hH)));clear hc hu hs hR hH
     revert hF
     revert ca
     revert cc
     revert cn
     revert xb
     revert W4
     exact tail.o
   ·rintro W4 xb cn cc ca ⟨hR,hc,hu,hs,hH⟩;clear SV Hr;obtain⟨HM,HO,hP,HP,HQ⟩:it.kind=e.kind/\it.mode=e.mode/\it.time=e.time/\it.link=e.link/\it.size=(dn:Int):=by
     rw[Hf.o];exact⟨rfl,rfl,rfl,rfl,by rw[zu (hE.o.val e He.o),H9.o]⟩
    rw[HM,HO,hP,HP,HQ]at hu;have Yg:it.chunks.length<=1048576:=by
     rw[Hf.o]
     show(if e.kind=1 then _ else []).length<=_
     split
     ·rw[aE];have h1:=sP (c:=kF) (by decide) e.data;have h2:=hL.o.data e He.o;omega
     ·simp
    obtain⟨_,_,Yq,Ye,Yf,-⟩:=cL.shape hs oJ.len;simp only[cS]at Yq;obtain⟨-,hO,rfl⟩:=Yq;unfold maxLen at Yf;have Hj:cn<=1048576:=by omega
    have Hd:=an (hQ.o.trans (hc.mono hQ.o.size));have y1:=an (y0.o.below hc);have Hu:=an (H4.o.trans (hc.mono H4.o.size));have Hy:=an hu;have y7:=an hs;have YE:=an hH;have YB:=an Yg;have hJ:=an (aD HM (aD HO (aD hP (aD HP HQ))));have YP:=an (HT.o.keep (w':=W4) (fun i hi=>Hd.o.block i hi));obtain⟨_,_,dv2,HY,-,-,hf,-,-,d0,d1,d2,d3,d4,d5⟩:=iF YP.o ya.o
    cases HY
    obtain⟨da2,dc2,HJ,-,-⟩:=dJ.slice hf;subst HJ;rw[<-H9.o]at d4;have Y4:=an hf;obtain⟨i0,i1,i2,i3,i4,i5,i6,i7,i8,i9,_⟩:=aT Hy.o;clear hc hu hs hH HM HO hP HP HQ Yg Ye hO hf d0;go_wp2_with fail
    go_quiet (fail)
    obtain⟨W5,hG⟩: ∃W,W=W4.drewN nq:=⟨_,rfl⟩;rw[<-hG];have hC:Below W4.heap.size W4 W5:=by rw[hG]; exact pp W4 nq
    have Ho:=an (Hd.o.trans (hC.mono Hd.o.size));have YK:=an (y1.o.below hC);have y3:=an (Hu.o.trans (hC.mono Hu.o.size));have y9:=an (dV hC Hy.o);have Yr:=cL.mono (T:=fun _=>True) (cL.below y7.o (by omega) hC (fun _ _ _ h=>h)) (by omega) (fun _ _ _=>trivial) (fun _ _ _ h=>h);have Hk:=CY (fun _=>True) (.map (some mb)) (.slice ca cn cc) (mF bs) it W5 YK.o Yr YE.o (HE.o.below Ho.o).env YB.o
    unfold lT at Hk;rw[hJ.o.1,hJ.o.2.1,hJ.o.2.2.1,hJ.o.2.2.2.1,hJ.o.2.2.2.2]at Hk;have yc:=an Hk;clear hG hC Yr Hk Hd y1 Hu Hy y7 i0 i1 i2 i3 i4 i5 i6 i7 i8 i9 d1 d2 d3 d4 d5;obtain⟨i0,i1,i2,i3,i4,i5,i6,i7,i8,i9,_⟩:=aT y9.o;go_wp2_with fail;refine yc.o.mono ?_;rintro e' w11 ⟨hm,ha⟩;have Yz:=an (Ho.o.trans (hm.mono Ho.o.size));have Hv:=an (y3.o.trans (hm.mono y3.o.size))
    have Yt:=dV hm y9.o;have i1':=aA (k:=1) Yt;simp only[ak,am,aj]at i1';have YQ:=an (HT.o.keep (w':=w11) (fun i hi=>Yz.o.block i hi));have YR:=an (show gO it=true by rw[Hf.o]; exact uO (by decide) mI (hE.o.val e He.o) YF.o YI.o);clear hm Yt yc i0 i1 i2 i3 i4 i5 i6 i7 i8 i9
    by_cases hk:e.kind=1
    ·have Yj:kL (mF bs) it.chunks []= .ok e.data:=by
      rw[Hf.o,IY hk,rS _ _ (YG.o hk),sO]; rfl
     rw[if_pos ⟨hJ.o.1.trans hk,YR.o⟩,Yj]at ha;obtain⟨v,rfl,HV⟩:=ha;obtain⟨va,vc,rfl,-,-⟩:=aI HV;obtain⟨_,_,dv3,HZ,-,-,hg,-,-,-,-,-,-,d4,-⟩:=iF YQ.o ya.o
     cases HZ
     obtain⟨da3,dc3,HK,-,-⟩:=dJ.slice hg;subst HK;have hM:bG (fun _=>True) w11 (.slice va e.data.length vc) e.data:=(cG HV).weak fun _ _=>trivial
     have hN:bG (fun _=>True) w11 (.slice da3 e.data.length dc3) e.data:=cE.weak (show cE _ w11 1 (.slice da3 e.data.length dc3) e.data.length (e.data.map aY)from hg) fun _ _=>trivial
     obtain⟨ed,Yi⟩: ∃x,x=e.data:=⟨_,rfl⟩;rw[<-Yi]at hM hN d4 ⊢;have Ye:=fun n=>ir (S:=fun _=>True) (w:=w11.drewN n) (cE.below hM (by omega) (pp w11 n))
     have Yf:=fun n=>ir (S:=fun _=>True) (w:=w11.drewN n) (cE.below hN (by omega) (pp w11 n))
     rw[hk]at i1';clear Yj HV hg hM hN Yi hk;go_wp2_with fail
     go_quiet (fail)
     obtain⟨W6,Hz⟩: ∃W,W=w11.drewN nq:=⟨_,rfl⟩;rw[<-Hz];have Hi:Below w11.heap.size w11 W6:=by rw[Hz]; exact pp w11 nq
     clear Hz;go_wp2_with fail
     go_roundw
     case rel=>exact⟨j+1,by omega,by go_num,Hv.o.trans (Hi.mono Hv.o.size)⟩
     case measure=>simp[intOf]; omega
    ·rw[if_neg (fun h=>hk (hJ.o.1▸h.1))]at ha;subst ha;have e1:(e.kind != 1)=true:=by simp[hk]
     clear hk;go_wp2_with fail
     go_roundw
     case rel=>exact⟨j+1,by omega,by go_num,Hv.o⟩
     case measure=>simp[intOf]; omega
  ·obtain rfl:j=n:=by omega
   go_wp2_with fail;go_ret;exact⟨rfl,hQ.o⟩
end Go.Proofs.YtpffpjbkbaleiaaGreatDoor
namespace Go.Proofs.YtpffpjbkbaleiaaGreatDoor
open Go.ChangeShapes Go.WideShapes Go.ChangeAt Go.RowKit Go.Lib Go.Shelf
open Go.ChangeMaps (open_string shut_string)
section
variable {H : Type} {enc : TypeId × Value → H}
end
def OA :List (String×DataW Unit):=[("math/bits.deBruijn64tab",Rows.laid_math_bits_deBruijn64tab),("kinkeep/sha256.initial",Rows.laid_kinkeep_sha256_initial),("kinkeep/sha256.constants",Rows.laid_kinkeep_sha256_constants),("kinkeep/hmac.pads",Rows.laid_kinkeep_hmac_pads),("unicode/utf8.acceptRanges",Rows.laid_unicode_utf8_acceptRanges),("unicode/utf8.first",Rows.laid_unicode_utf8_first)]
theorem own :ownKnob Tryz.prog.godebug=none:=by kernel_rfl
theorem Ij :(Rows.laid_unicode_utf8_acceptRanges:DataW Unit)=acceptData:=by kernel_rfl
theorem It :(Rows.laid_math_bits_deBruijn64tab:DataW Unit)=tabData .u8 (Lib.deBruijn64tab.map fun(n:Nat)=>(n:Int)):=by kernel_rfl
theorem EH :(Rows.laid_kinkeep_sha256_initial:DataW Unit)=tabData .u32 (pX.list.map fun(n:Nat)=>(n:Int)):=by kernel_rfl
theorem AR :(Rows.laid_kinkeep_sha256_constants:DataW Unit)=tabData .u32 (kc.map fun(n:Nat)=>(n:Int)):=by kernel_rfl
theorem NY :(Rows.laid_kinkeep_hmac_pads:DataW Unit)=tabData .u8 [54,92]:=by kernel_rfl
theorem rq {P:Program} {w:World} {n:String} {k:IntKind} {zs:List Int} {g:Nat} {t e:TypeId} {N:Nat} (hg:P.globalNamed n=some g) (hty:(P.globals[g]?).map (·.type)=some t)
  (ht:P.underlying t=some (.array N e)) (he:P.underlying e=some (.int k)) (hce:P.cellsOf e=1) (hct:P.cellsOf t=N) (h:VarReads P w n (tabData k zs)) (j:Nat):w.cell? ⟨g,j,none⟩=(zs.map fun z=>Value.int k z)[j]? :=by
 obtain⟨g',t',cs,fuel,p,hc,ha,hb,hd⟩:=h;obtain rfl:=bK (hg.symm.trans hc);obtain rfl:=bK (hty.symm.trans ha);rw[World.var?_cell hg hb j,<-Array.getElem?_toList,cells_of_tab ht he hce hct hd]
theorem vB {w:World} {b k:Nat} {v:Value} (h:w.cell? ⟨b,k,none⟩=some v):b<w.heap.size:=by
 by_cases hb:b<w.heap.size
 ·exact hb
 ·exfalso
  have:w.heap[b]? =none:=Array.getElem?_eq_none (by omega);simp[World.cell?,this]at h
theorem OT {W:World} (hL:laidMetH Tryz.prog OA W) (hsh:W.ShapedOpen Tryz.prog):rx W:=by
 rw[MakeChecks.laidMetH_plain _ _ _ (by kernel_rfl)]at hL;have h1:=gK hL (.head _);have h2:=gK hL (.tail _ (.head _));have h3:=gK hL (.tail _ (.tail _ (.head _)));have h4:=gK hL (.tail _ (.tail _ (.tail _ (.head _))));have h5:=gK hL (.tail _ (.tail _ (.tail _ (.tail _ (.head _)))));have h6:=gK hL (.tail _ (.tail _ (.tail _ (.tail _ (.tail _ (.head _))))))
 rw[It]at h1;rw[EH]at h2;rw[AR]at h3;rw[NY]at h4;rw[Ij]at h5;have c1:=rq (g:=6) (t:=213) (e:=5) (N:=64) (by kernel_rfl) (by kernel_rfl) (by kernel_rfl) (by kernel_rfl) (by kernel_rfl) (by kernel_rfl) h1;have c2:=rq (g:=2) (t:=216) (e:=215) (N:=8) (by kernel_rfl) (by kernel_rfl) (by kernel_rfl) (by kernel_rfl) (by kernel_rfl) (by kernel_rfl) h2
 have c3:=rq (g:=5) (t:=252) (e:=215) (N:=64) (by kernel_rfl) (by kernel_rfl) (by kernel_rfl) (by kernel_rfl) (by kernel_rfl) (by kernel_rfl) h3;have c4:=rq (g:=0) (t:=221) (e:=5) (N:=2) (by kernel_rfl) (by kernel_rfl) (by kernel_rfl) (by kernel_rfl) (by kernel_rfl) (by kernel_rfl) h4;have ha:W.cell? ⟨0,0,none⟩=some (.int .u8 54):=c4 0;have he:W.cell? ⟨0,1,none⟩=some (.int .u8 92):=c4 1
 have hI:oI W:=fun j x hj=>by
  rw[c2 j];simp[hj,fc]
 have hK:lY W:=fun j x hj=>by
  rw[c3 j];simp[hj,fc]
 have hD:TabAt 6 Lib.deBruijn64tab W:=fun j hj=>by
  rw[c1 j];simp[hj]
 have hc:=hI 0 0x6a09e667 rfl;have hd:=hK 0 0x428a2f98 rfl;have hb:=hD 0 (by decide);refine⟨⟨?_, ?_⟩,⟨hI,hK,⟨ha,he⟩,vB hc,vB hd,vB ha⟩,⟨hD,vB hb⟩⟩
 ·exact cell_of_shapedOpen_int (zero:= #[.int .i64 0]) (t:=3) hsh (fN (by kernel_rfl)) (by kernel_rfl) rfl (by kernel_rfl) (by kernel_rfl) ja
 ·exact utf8Tabs_of_readsT (U8Types.of196 Tryz.laysValid) ⟨by kernel_rfl,by kernel_rfl,by kernel_rfl,by kernel_rfl,by kernel_rfl,by kernel_rfl,by kernel_rfl⟩ (Pinned.utf8First_eq▸h6) h5
end Go.Proofs.YtpffpjbkbaleiaaGreatDoor
namespace Go.Proofs.YtpffpjbkbaleiaaGreatDoor
open Go.ChangeShapes Go.WideShapes Go.ChangeAt Go.RowKit Go.Lib Go.Shelf
section
variable {H : Type} {enc : TypeId × Value → H} {P : Program} {W : World} {base : Nat}
theorem Ns (a:Addr) (i j:Nat):(a.add i).add j=a.add (i+j):=by
 unfold Addr.add
 by_cases hi:i=0
 ·simp[hi]
 ·by_cases hj:j=0
  ·simp[hi,hj]
  ·simp[hi,hj]; omega
end
section
variable {H : Type} {enc : TypeId × Value → H} {W : World} {base b0 : Nat} {spare : Nat → Bool} {held : Bool} {v : Value} {d : DataW H} {ps : List MemPlace}
theorem pF {P:Program} {t:TypeId} {fs:Array Field} {fuel:Nat} {cs:List Value} {x:DataW H×List MemPlace} (ht:P.underlying t=some (.struct fs)) (h:DataW.trod enc P W base spare held fuel t cs=some x) (i:Nat) {f:Field} (hf:fs[i]? =some f):
  ∃n y,DataW.trod enc P W base spare held n f.type ((cs.drop f.offset).take (P.cellsOf f.type))=some y:=by
 obtain⟨xs,n,_,_,_,ha,hF⟩:=DataW.trod_struct ht h;have hi:i<xs.length:=by rw[ha]; exact(aP.1 hf).1
 exact⟨n,xs[i],by rw[hF i f hf]; simp[hi]⟩
theorem FH {P:Program} {t:TypeId} {fs:Array Field} {fuel:Nat} {cs:List Value} {x:DataW H×List MemPlace} (ht:P.underlying t=some (.struct fs)) (h:DataW.trod enc P W base spare held fuel t cs=some x):cs.length=P.cellsOf t:=by
 obtain⟨xs,n,_,_,hl,_,_⟩:=DataW.trod_struct ht h;exact hl
theorem Lb :Tryz.prog.cellsOf 9=1:=by kernel_rfl
theorem La :Tryz.prog.cellsOf 3=1:=by kernel_rfl
theorem Nx :Tryz.prog.cellsOf 5=1:=by kernel_rfl
theorem IB :Tryz.prog.cellsOf 29=1:=by kernel_rfl
theorem BS :Tryz.prog.cellsOf 79=6:=by kernel_rfl
theorem Px {α:Type} {cs:List α} (h:cs.length=6): ∃c0 c1 c2 c3 c4 c5,cs=[c0,c1,c2,c3,c4,c5]:=by
 match cs,h with
 | [c0,c1,c2,c3,c4,c5],_=>exact⟨c0,c1,c2,c3,c4,c5,rfl⟩
def BA (c:List Value) (b:UInt8):Prop:=c=[aY b]
theorem JH {n:Nat} {cs:List Value} {y:DataW H×List MemPlace} (h:DataW.trod enc Tryz.prog W base spare held n 5 cs=some y): ∃b,BA cs b:=by
 obtain⟨a,e,_,hw⟩:=DataW.trod_int Tryz.underlying5 h;have h1:0<=a/\a<=255:=by
  simp only[Lit.wf,aJ,aK]at hw;exact⟨hw.1,hw.2⟩
 refine⟨UInt8.ofNat a.toNat, ?_⟩;unfold BA;rw[mf (by omega),e,Int.toNat_of_nonneg h1.1]
theorem AL {S:Nat->Prop} {w:World} {v:Value} {bs:List UInt8} (h:cL S w 1 BA v bs):bG S w v bs:=by
 obtain⟨cells,h1,h2⟩:=h;have: ∀(bs:List UInt8) (cells:List Value),eQ BA cells bs->cells=bs.map aY:=by
  intro bs
  induction bs with
  | nil=>intro cells h; exact h
  | cons x bs ih=>
   rintro cells ⟨c,rest,rfl,hc,hr⟩;rw[ih rest hr,show c=[aY x]from hc]; rfl
 rw[this bs cells h2]at h1;exact h1
theorem Es {S:Nat->Prop} {w:World} {v:Value} {bs:List UInt8} (h:bG S w v bs):dJ S w v bs:=h
end
end Go.Proofs.YtpffpjbkbaleiaaGreatDoor
