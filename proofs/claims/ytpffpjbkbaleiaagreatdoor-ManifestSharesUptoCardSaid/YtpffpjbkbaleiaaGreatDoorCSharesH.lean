/- Texts of this proof, one after the other: LookB, Luk24, RbA, RbB, AwR, RbC, RbD, AwS, NodB, LawNod, RdP, RfA, RfD, RfE, RfF, RcT, RfG, R14, R16A, R16B. -/
import Derived.Test.YtpffpjbkbaleiaaGreatDoorCSharesG
set_option maxRecDepth 100000
set_option maxHeartbeats 8000000
namespace Go.Proofs.YtpffpjbkbaleiaaGreatDoor
section
open Go Go.RowKit
theorem Nd {a:Act} {w:World} {b:Nat} {x0 x1 x2 x3 x4 x5 x6 x7 x8 x9 e7:Value} (h:w.heap[b]? =some (.cells #[x0,x1,x2,x3,x4,x5,x6,x7,x8,x9] 28 (0,0)))
  (h6:a.tmps[6]? =some (.pointer (some ⟨b,0,none⟩))) (h7:a.tmps[7]? =some e7):(results Tryz.f28 a.tmps).run Tryz.prog w= .ok (.tuple #[.agg #[x0,x1,x2,x3,x4,x5,x6,x7,x8,x9],e7]) w:=by
 obtain⟨m0,m1,m2,m3,m4,m5,m6,m7,m8,m9,_⟩:=aT h;simp[results,Tryz.results28,go_sem,h6,h7,m0,m1,m2,m3,m4,m5,m6,m7,m8,m9]
theorem pK {a:Act} {w:World} {b:Nat} {a0 a1 a2 a3 a4 a5 a6 a7 a8 a9 x0 x1 x2 x3 x4 x5 x6 x7 x8 x9 e7:Value} {Q:Ending->World->Prop} (h:w.heap[b]? =some (.cells #[a0,a1,a2,a3,a4,a5,a6,a7,a8,a9] 28 (0,0)))
  (h6:a.tmps[6]? =some (.pointer (some ⟨b,0,none⟩))) (h7:a.tmps[7]? =some e7) (hd:a.defers=[])
  (hQ:Q (.returned (.tuple #[.agg #[x0,x1,x2,x3,x4,x5,x6,x7,x8,x9],e7])) ((((((((((w.setCell ⟨b,0,none⟩ x0).setCell ⟨b,1,none⟩ x1).setCell ⟨b,2,none⟩ x2).setCell ⟨b,3,none⟩ x3).setCell ⟨b,4,none⟩ x4).setCell ⟨b,5,none⟩ x5).setCell ⟨b,6,none⟩ x6).setCell ⟨b,7,none⟩ x7).setCell ⟨b,8,none⟩ x8).setCell ⟨b,9,none⟩ x9)):
  bodyPost Tryz.prog Tryz.f28 Q Exit.ret a ((((((((((w.setCell ⟨b,0,none⟩ x0).setCell ⟨b,1,none⟩ x1).setCell ⟨b,2,none⟩ x2).setCell ⟨b,3,none⟩ x3).setCell ⟨b,4,none⟩ x4).setCell ⟨b,5,none⟩ x5).setCell ⟨b,6,none⟩ x6).setCell ⟨b,7,none⟩ x7).setCell ⟨b,8,none⟩ x8).setCell ⟨b,9,none⟩ x9):=cS (Nd (Jm h) h6 h7) hd hQ
theorem Of {S:Nat->Prop} {w w':World} {a:Option Addr} {n cap:Nat} {xs:List ByteArray} (h:lP S w (.slice a n cap) xs) (hb:Below w.heap.size w w') {k:Nat} {x:ByteArray} (hx:xs[k]? =some x):
  ∃b o,a=some ⟨b,o,none⟩/\b<w.heap.size/\w'.cell? ⟨b,o+k,none⟩=some (.string x):=by
 obtain⟨_,a',cap',he,_,_,h0⟩:=h
 cases he
 rcases h0 with h0 | ⟨b,o,rfl,_,hc⟩
 ·have:=(aA.1 hx).1;omega
 ·have q:=hc k (.string x) (IJ hx);exact⟨b,o,rfl,cR q,(hb.cell (p:=⟨b,o+k,none⟩) (cR q)).trans q⟩
structure LkI (w2 : World) (ib : Nat) (wr : World) (it : ci) : Prop where
 below:Below ib w2 wr
 box: ∃ca cc,wr.heap[ib]? =some (.cells (fu (.slice ca it.chunks.length cc) it).toArray 28 (0,0))/\dJ (fun k=>ib<k) wr (.slice ca it.chunks.length cc) it.chunks
 ok:iI it
theorem LkI.next {w2 wr w':World} {ib:Nat} {it:ci} (h:LkI w2 ib wr it) (hb:Below wr.heap.size wr w'):LkI w2 ib w' it:=by obtain⟨ca,cc,h1,h2⟩:=h.box;have hl:=am h1;exact⟨h.below.trans (hb.mono (by omega)),⟨ca,cc,(hb.block ib hl).trans h1,cU.below h2 (by omega) hb (fun _ _ _ h=>h)⟩,h.ok⟩
theorem Fp {root:bY} (h:dZ root):iI (nE root):=⟨by show(0:Nat)<=_; unfold maxLen; omega,by show(0:Nat)<=_; unfold maxLen; omega,h⟩
def OR (cs:List (ByteArray×List UInt8)) (root:bY) (path:ByteArray) (w:World) (e:Ending) (w':World):Prop:=Below w.heap.size w w'/\match lq cs root path with
 | .error x=>e= .returned (.tuple #[.agg #[.string ⟨#[]⟩, .int .i64 0, .int .i64 0, .int .i64 0, .int .i64 0, .string ⟨#[]⟩, .slice none 0 0, .string ⟨#[]⟩, .int .i64 0, .int .i64 0], .int .i64 x])/\x≠0
 | .ok it=> ∃v,e= .returned (.tuple #[sC v it, .int .i64 0])/\dJ (w.heap.size<= ·) w' v it.chunks/\iI it
theorem sD (S:Nat->Prop) (cv:Value) (cs:List (ByteArray×List UInt8)) (root:bY) (path:ByteArray) (w:World) (hc:fI S w cv cs) (henv:nJ w) (hr:dZ root):Calls Tryz.prog 28 #[eC root,cv, .string path] w (OR cs root path w):=by
 obtain⟨W0,hG⟩:=bH ((w.alloc (.cells #[.string root.name, .int .i64 root.gen, .int .i64 root.size] 26)).alloc (.cells #[.string ⟨#[]⟩, .int .i64 0, .int .i64 0, .int .i64 0, .int .i64 0, .string ⟨#[]⟩, .slice none 0 0, .string ⟨#[]⟩, .int .i64 0, .int .i64 0] 28));have hA:=ag (show Below w.heap.size w W0 by rw[hG]; exact(eT).alloc (by simp) _);have Hq:=ag (show W0.heap[w.heap.size]? =some (.cells #[.string root.name, .int .i64 root.gen, .int .i64 root.size] 26 (0,0)) by rw[hG]; exact mz (ez w _) _)
 have Hf:=ag (show W0.heap[w.heap.size+1]? =some (.cells #[.string ⟨#[]⟩, .int .i64 0, .int .i64 0, .int .i64 0, .int .i64 0, .string ⟨#[]⟩, .slice none 0 0, .string ⟨#[]⟩, .int .i64 0, .int .i64 0] 28 (0,0)) by rw[hG]; exact ql w _ _);have HI:=ag (kU.start (hc.below hA.o) (henv.below hA.o));have HR:=ag hr;unfold eC;clear hc henv hr
 go_enter Tryz.func28,Tryz.ntmps28
 go_upto_region 1 with(fail)
 rw[<-hG];clear hG
 cases hp:dH (bl path)with
 | false=>
  have HM:=ag (show lq cs root path= .error 1 by unfold lq; rw[if_neg (by rw[hp]; simp)]);have HP:=ag hp;clear hp;go_wp2_with fail;refine(Lv path W0 HI.o.env HP.o).mono ?_;rintro e w1 ⟨rfl,hd⟩;have hB:=ag (aj hA.o hd);have hu:=ag (eA hd Hf.o);obtain⟨z0,z1,z2,z3,z4,z5,z6,z7,z8,z9,_⟩:=aT hu.o;obtain⟨g0,g1,g2,g3,g4,g5,g6,g7,g8,g9,_⟩:=gT hu.o
  clear hd;go_wp2_with fail;refine pK hu.o rfl rfl rfl ⟨jv hB.o (by show w.heap.size<=w.heap.size+1; omega), ?_⟩;rw[HM.o];exact⟨rfl,by decide⟩
 | true=>
  have HP:=ag hp
  cases hv:lj root with
  | false=>
   have HM:=ag (show lq cs root path= .error 1 by unfold lq; rw[if_neg (by rw[hv]; simp)]);have Hd:=ag hv;clear hp hv;go_wp2_with fail;refine(EG path W0 HI.o.env HP.o).mono ?_;rintro e w1 ⟨ap,cp,rfl,-,-,-,hd⟩;have hB:=ag (aj hA.o hd);have Ho:=ag hd;have hN:=ag (eA hd Hq.o);have hu:=ag (eA hd Hf.o);obtain⟨r0,r1,r2,_⟩:=aT hN.o
   clear hd;go_wp2_with fail;refine(iD root false _ HR.o Hd.o).mono ?_;rintro e w2 ⟨rfl,hl⟩;have hM:=ag (aj hB.o hl);have hn:=ag (eA hl hu.o);obtain⟨z0,z1,z2,z3,z4,z5,z6,z7,z8,z9,_⟩:=aT hn.o;obtain⟨g0,g1,g2,g3,g4,g5,g6,g7,g8,g9,_⟩:=gT hn.o;clear hl r0 r1 r2;go_wp2_with fail;refine pK hn.o rfl rfl rfl ⟨jv hM.o (by show w.heap.size<=w.heap.size+1; omega), ?_⟩
   rw[HM.o];exact⟨rfl,by decide⟩
  | true=>
   have HM:=ag (show lq cs root path=pJ cs (jR (bl path)) (nE root) by unfold lq; rw[if_pos ⟨hp,hv⟩]);have Hd:=ag hv;clear hp hv;go_wp2_with fail;refine(EG path W0 HI.o.env HP.o).mono ?_;rintro e w1 ⟨ap,cp,rfl,Hw,HO,hU,hd⟩;obtain⟨ps,Hj⟩:=bH (jR (bl path));rw[<-Hj]at hU Hw ⊢;have HG:=ag Hj;obtain⟨np,hh⟩:=bH ps.length;rw[<-hh]at hU Hw ⊢
   have h8:=ag hh;have HH:=ag hU;unfold maxLen at HO;have hB:=ag (aj hA.o hd);have Ho:=ag hd;have hN:=ag (eA hd Hq.o);have hu:=ag (eA hd Hf.o);obtain⟨r0,r1,r2,_⟩:=aT hN.o;clear hd;clear Hj hh hU;go_wp2_with fail;refine(iD root true _ HR.o Hd.o).mono ?_;rintro e w2 ⟨rfl,hl⟩;have hM:=ag (aj hB.o hl);have hn:=ag (eA hl hu.o)
   have Hy:=eA hl hN.o;clear r0 r1 r2;obtain⟨r0,r1,r2,_⟩:=aT Hy;clear Hy;go_wp2_with fail;obtain⟨W3,hP⟩:=bH (w2.alloc (.cells #[.string ⟨#[]⟩, .int .i64 2, .int .i64 0, .int .i64 0, .int .i64 0, .string ⟨#[]⟩, .slice none 0 0, .string root.name, .int .i64 root.gen, .int .i64 root.size] 28));rw[<-hP];have h2:=ag (show LkI w2 w2.heap.size W3 (nE root)from⟨by rw[hP]; exact eT,⟨none,0,by rw[hP]; exact ez w2 _,cU.nil⟩,Fp HR.o⟩)
   obtain⟨ib,Hh⟩:=bH w2.heap.size;rw[<-Hh]at h2 ⊢;have hs:=ag Hh;have Ha:=ag (bX.below HH.o (by omega) hl);have He:=ag (aj Ho.o hl);clear hP r0 r1 r2 hl Hh
   go_loopw [33] (fun i wr=> ∃(k:Nat) (it:ci),k<=np/\i= .int .i64 (k:Int)/\pJ cs (ps.drop k) it=lq cs root path/\LkI w2 ib wr it) (fun i _=>np-(intOf i).toNat)
   ·exact⟨0,nE root,aR _,rfl,by rw[HM.o,<-HG.o]; rfl,h2.o⟩
   ·obtain⟨k,it,hk,rfl,Hu,Hi⟩:=hrel;have h3:=ag Hu;have ho:=ag Hi;obtain⟨ca,cc,Hs,Hx⟩:=Hi.box;have he:=ag Hs;have HJ:=ag Hx;clear Hu Hi Hs Hx h2;have hO:=ag ((ho.o.below.block (w.heap.size+1) (by rw[hs.o]; exact am hn.o)).trans hn.o);have Hp:=ag (hM.o.trans (ho.o.below.mono (by rw[hs.o]; exact hM.o.size)));have HT:w.heap.size+1≠ib:=by have:=am hn.o; have:=hs.o; omega
    by_cases Hv:k<np
    ·obtain⟨c,hc⟩: ∃c,ps[k]? =some c:=⟨ps[k]'(by rw[<-h8.o]; exact Hv),by simp⟩;obtain⟨pb,po,rfl,HU,hH⟩:=Of Ha.o (by have:=ho.o.below; rw[hs.o]at this; exact this) hc;have Hm:=ag (show ps.drop k=c::ps.drop (k+1) by
      rw[cD (by rw[<-h8.o]; exact Hv)]
      congr 1
      exact(aA.1 hc).2)
     obtain⟨W4,hR⟩:=bH (wr.alloc (.cells #[.string c] 9));have hy:Below wr.heap.size wr W4:=by rw[hR]; exact eT
     have Hl:=ag (show W4.cell? ⟨wr.heap.size,0,none⟩=some (.string c) by rw[hR]; exact(ar (ez wr _)).trans rfl);have hZ:=ag (ho.o.next hy);have ha:=ag (eA hy he.o);have hE:=ag (eA hy hO.o);have hV:=ag (aj Hp.o hy);have Hn:=ag (HI.o.keepL (He.o.trans ((ho.o.below.mono (by rw[hs.o]; exact He.o.size)).trans (hy.mono (an He.o.size (by have:=ho.o.below.size; exact this))))) (ah _))
     clear hc hy
     go_upto_region 8 with(fail)
     rw[<-hR];clear hR hH;have i0:=ar (k:=0) ha.o;have i1:=ar (k:=1) ha.o;have i2:=ar (k:=2) ha.o;have i3:=ar (k:=3) ha.o;have i4:=ar (k:=4) ha.o;have i5:=ar (k:=5) ha.o;have i6:=ar (k:=6) ha.o;have i7:=ar (k:=7) ha.o;have i8:=ar (k:=8) ha.o;have i9:=ar (k:=9) ha.o;simp only[fu,fV]at i0 i1 i2 i3 i4 i5 i6 i7 i8 i9
     by_cases hq:it.kind=2
     ·have e1:(it.kind != 2)=false:=by simp[hq]
      have hC:=ag (show(match gq cs it.node with | .error x=> .error x | .ok l=>match l.find? (fun y=>decide (y.name=c))with | none=> .error 4 | some y=>pJ cs (ps.drop (k+1)) y)=lq cs root path by have:=h3.o; rw[Hm.o,pJ,if_pos hq]at this; exact this);have hw:=tW _ cv cs it.node W4 Hn.o.cont ho.o.ok.nd Hn.o.env;unfold Bz at hw;clear hq
      cases hh:gq cs it.node with
      | error x=>
       rw[hh]at hw;have h7:=ag hw;have HE:=ag (show lq cs root path= .error x by have:=hC.o; rw[hh]at this; exact this.symm);clear hh hw;go_wp2_with fail;refine h7.o.mono ?_;rintro e w5 ⟨hm,rfl,hx⟩;have hW:=ag (aj hV.o hm);have hF:=ag (eA hm hE.o);have e2:(x != 0)=true:=by simp[hx]
       have HX:=ag hx;clear hx hm i0 i1 i2 i3 i4 i5 i6 i7 i8 i9;obtain⟨z0,z1,z2,z3,z4,z5,z6,z7,z8,z9,_⟩:=aT hF.o;obtain⟨g0,g1,g2,g3,g4,g5,g6,g7,g8,g9,_⟩:=gT hF.o;go_wp2_with fail;refine pK hF.o rfl rfl rfl ⟨jv hW.o (by show w.heap.size<=w.heap.size+1; omega), ?_⟩;rw[HE.o];exact⟨rfl,HX.o⟩
      | ok l=>
       rw[hh]at hw;have h7:=ag hw;have hD:=ag (show(match l.find? (fun y=>decide (y.name=c))with | none=> .error 4 | some y=>pJ cs (ps.drop (k+1)) y)=lq cs root path by have:=hC.o; rw[hh]at this; exact this);have HC:=ag (xQ hh);clear hh hw;go_wp2_with fail;refine h7.o.mono ?_;rintro e w5 ⟨hm,v5,rfl,Hk⟩;have hW:=ag (aj hV.o hm)
       have hF:=ag (eA hm hE.o);have h0:=ag (hZ.o.next hm);have hY:=ag (eA hm ha.o);have HA:=ag ((hm.cell (p:=⟨wr.heap.size,0,none⟩) (cR Hl.o)).trans Hl.o);obtain⟨a5,cap5,rfl,HL,HN,-⟩:=cU.shape Hk lm.len;unfold maxLen at HN;have Hc:=ag Hk;have Hr:=ag (show ib<W4.heap.size from am ha.o);obtain⟨nl,hT⟩:=bH l.length
       rw[<-hT]at Hc HL ⊢;have HF:=ag hT;have HS:nl<=4096:=by rw[hT]; exact HC.o.1
       clear hm Hk hT i0 i1 i2 i3 i4 i5 i6 i7 i8 i9;go_wp2_with fail;refine(yX _ l c wr.heap.size (.slice a5 nl cap5) w5 Hc.o HA.o).mono ?_;rintro e w6 ⟨rfl,hz⟩;have Hz:=ag (aj hW.o hz);have Hg:=ag (eA hz hF.o);have h1:=ag (h0.o.next hz);have hb:=ag (eA hz hY.o);have hX:=ag hz;clear hz
       rcases Ag c l 0 with⟨hf,hI⟩ | ⟨j,y,hj,hf,hI⟩
       ·have h4:=ag (show lq cs root path= .error 4 by have:=hD.o; rw[hf]at this; exact this.symm);rw[hI];clear hf hI;obtain⟨z0,z1,z2,z3,z4,z5,z6,z7,z8,z9,_⟩:=aT Hg.o;obtain⟨g0,g1,g2,g3,g4,g5,g6,g7,g8,g9,_⟩:=gT Hg.o;go_wp2_with fail;refine pK Hg.o rfl rfl rfl ⟨jv Hz.o (by show w.heap.size<=w.heap.size+1; omega), ?_⟩;rw[h4.o]
        exact⟨rfl,by decide⟩
       ·have h4:=ag (show pJ cs (ps.drop (k+1)) y=lq cs root path by have:=hD.o; rw[hf]at this; exact this);rw[hI,bO];obtain⟨b7,o7,ca7,cc7,rfl,hJ,hL,HK,-,hg⟩:=lR Hc.o hX.o hj;have HQ:j<nl:=by rw[HF.o]; exact(aA.1 hj).1
        have h9:=ag hJ;have Hb:=ag hL;have q0:=hg 0 (by omega);have q1:=hg 1 (by omega);have q2:=hg 2 (by omega);have q3:=hg 3 (by omega);have q4:=hg 4 (by omega);have q5:=hg 5 (by omega);have q6:=hg 6 (by omega);have q7:=hg 7 (by omega);have q8:=hg 8 (by omega);have q9:=hg 9 (by omega);simp only[fu,aD,cI,dh]at q0 q1 q2 q3 q4 q5 q6 q7 q8 q9
        have i0:=ar (k:=0) hb.o;have i1:=ar (k:=1) hb.o;have i2:=ar (k:=2) hb.o;have i3:=ar (k:=3) hb.o;have i4:=ar (k:=4) hb.o;have i5:=ar (k:=5) hb.o;have i6:=ar (k:=6) hb.o;have i7:=ar (k:=7) hb.o;have i8:=ar (k:=8) hb.o;have i9:=ar (k:=9) hb.o;simp only[fu,fV]at i0 i1 i2 i3 i4 i5 i6 i7 i8 i9
        obtain⟨g0,g1,g2,g3,g4,g5,g6,g7,g8,g9,_⟩:=gT hb.o;clear hf hI hj hJ hL hg;go_wp2_with fail
        go_roundw
        ·refine⟨k+1,y,by omega,by go_num,h4.o,⟨jv h1.o.below (ah _),⟨ca7,cc7,Jm hb.o,dJ.same Hb.o (fun i hi hS=>⟨aO Hr.o hS,qg (by have:=Hr.o; omega)⟩)⟩,h9.o⟩⟩
        simp[intOf]; omega
     ·have e1:(it.kind != 2)=true:=by simp[hq]
      have HD:=ag (show lq cs root path= .error 4 by have:=h3.o; rw[Hm.o,pJ,if_neg hq]at this; exact this.symm);clear hq;obtain⟨z0,z1,z2,z3,z4,z5,z6,z7,z8,z9,_⟩:=aT hE.o;obtain⟨g0,g1,g2,g3,g4,g5,g6,g7,g8,g9,_⟩:=gT hE.o;go_wp2_with fail;refine pK hE.o rfl rfl rfl ⟨jv hV.o (by show w.heap.size<=w.heap.size+1; omega), ?_⟩;rw[HD.o]
      exact⟨rfl,by decide⟩
    ·have hq:k=np:=by omega
     subst hq;have Ht:lq cs root path= .ok it:=by have:=h3.o; rw[h8.o,jh]at this; rw[<-this]; rfl
     have HB:=ag Ht;obtain⟨z0,z1,z2,z3,z4,z5,z6,z7,z8,z9,_⟩:=aT hO.o;obtain⟨g0,g1,g2,g3,g4,g5,g6,g7,g8,g9,_⟩:=gT hO.o;have i0:=ar (k:=0) he.o;have i1:=ar (k:=1) he.o;have i2:=ar (k:=2) he.o;have i3:=ar (k:=3) he.o;have i4:=ar (k:=4) he.o;have i5:=ar (k:=5) he.o;have i6:=ar (k:=6) he.o;have i7:=ar (k:=7) he.o
     have i8:=ar (k:=8) he.o;have i9:=ar (k:=9) he.o;simp only[fu,fV]at i0 i1 i2 i3 i4 i5 i6 i7 i8 i9;clear Ht;go_wp2_with fail;refine pK hO.o rfl rfl rfl ⟨jv Hp.o (by show w.heap.size<=w.heap.size+1; omega), ?_⟩;rw[HB.o];refine⟨_,rfl,dJ.same HJ.o (fun k hk hS=>⟨by have:=am hn.o; have:=hs.o; omega,qg (by have:=am hn.o; have:=hs.o; omega)⟩),ho.o.ok⟩
theorem MC (s:ByteArray) (w:World) (hs:s.size<=16777216):Calls Tryz.prog 87 #[.string s] w fun e w'=> ∃a cap,e= .returned (.slice a (jR (bl s)).length cap)/\(jR (bl s)).length<=cap/\cap<=maxLen/\lP (w.heap.size<= ·) w' (.slice a (jR (bl s)).length cap) (jR (bl s))/\Below w.heap.size w w':=by refine(nG s w hs).mono ?_;rintro e w' ⟨v,xs,rfl,hx,hv,hb⟩;have:xs=jR (bl s):=sK (hx.trans (AM _).symm);subst this;obtain⟨a,cap,rfl,h1,h2,_⟩:=hv.shape;exact⟨a,cap,rfl,h1,h2,hv,hb⟩
open Go Go.RowKit Go.Maps
theorem Az (S:Nat->Prop) (k:dq) (g:Nat) (gi:Int) (data:List UInt8) (dv:Value) (w:World) (hgi:gi=(g:Int)) (hk:jK k=true) (hg:g<=1099511627776) (hv:bB S w dv data) (hl:data.length<=32768):
  Calls Tryz.prog 178 #[kJ k, .int .i64 gi,dv] w fun e w'=>e= .returned (.tuple #[.string (ms k g data), .int .i64 0])/\Below w.heap.size w w':=by
 subst hgi;exact FT S k g data dv w hk hg hv hl
theorem MI {a:Act} {w:World} {b:Nat} {x0 x1 x2:Value} (h:w.heap[b]? =some (.cells #[x0,x1,x2] 26 (0,0)))
  (h4:a.tmps[6]? =some (.pointer (some ⟨b,0,none⟩))):(results Tryz.f158 a.tmps).run Tryz.prog w= .ok (.agg #[x0,x1,x2]) w:=by
 obtain⟨m0,m1,m2,_⟩:=aT h;simp[results,Tryz.results158,go_sem,h4,m0,m1,m2]
theorem MH {a:Act} {w:World} {b:Nat} {a0 a1 a2 x0 x1 x2:Value} {Q:Ending->World->Prop} (h:w.heap[b]? =some (.cells #[a0,a1,a2] 26 (0,0)))
  (h4:a.tmps[6]? =some (.pointer (some ⟨b,0,none⟩))) (hd:a.defers=[])
  (hQ:Q (.returned (.agg #[x0,x1,x2])) (((w.setCell ⟨b,0,none⟩ x0).setCell ⟨b,1,none⟩ x1).setCell ⟨b,2,none⟩ x2)):
  bodyPost Tryz.prog Tryz.f158 Q Exit.ret a (((w.setCell ⟨b,0,none⟩ x0).setCell ⟨b,1,none⟩ x1).setCell ⟨b,2,none⟩ x2):=cS (MI (vK h) h4) hd hQ
def OP (k:dq) (b:Nat) (w:World):Prop:=w.heap[b]? =some (.cells #[.string k.nm, .string k.st, .string k.ck, .string k.ix, .string k.tk] 42 (0,0))/\w.heap[b+1]? =some (.cells #[.string ⟨#[]⟩, .int .i64 0, .int .i64 0] 26 (0,0))
theorem OP.below {k:dq} {b:Nat} {w w':World} (h:OP k b w) (hb:Below w.heap.size w w'):OP k b w':=⟨(hb.block _ (am h.1)).trans h.1,(hb.block _ (am h.2)).trans h.2⟩
theorem xn (S T:Nat->Prop) (k:dq) (gs:List (ByteArray×Int)) (gv:Value) (x:List UInt8) (cv:Value) (w:World) (hk:jK k=true) (hG:ld T w gv gs) (hT: ∀i,T i->i<w.heap.size) (hgs:kC gs) (hv:bB S w cv x) (hl:x.length<=32768):
  Calls Tryz.prog 158 #[kJ k,cv,gv] w fun e w'=>e= .returned (eC (bF k gs x))/\Below w.heap.size w w':=by
 obtain⟨hJ,a,cap,rfl,hn,hm,-⟩:=id hv;unfold maxLen at hm;obtain⟨n,hp⟩:=bH x.length;have HN:=ag hp;obtain⟨W,hW⟩:=bH ((w.alloc (.cells #[.string k.nm, .string k.st, .string k.ck, .string k.ix, .string k.tk] 42)).alloc (.cells #[.string ⟨#[]⟩, .int .i64 0, .int .i64 0] 26));have HB:=ag (show Below w.heap.size w W by rw[hW]; exact(eT).alloc (by simp) _);have HX:=ag (show OP k w.heap.size W by rw[hW]; exact⟨mz (aC w _) _,by have:=aC (w.alloc (.cells #[.string k.nm, .string k.st, .string k.ck, .string k.ix, .string k.tk] 42)) (.cells #[.string ⟨#[]⟩, .int .i64 0, .int .i64 0] 26); rw[show(w.alloc (.cells #[.string k.nm, .string k.st, .string k.ck, .string k.ix, .string k.tk] 42)).heap.size=w.heap.size+1 by simp]at this; exact this⟩)
 have he:=ag (show bB S w (.slice a x.length cap) x from hv);rw[<-hp]at hl he ⊢;have HK:=ag hk;have hC:=ag hG;have hr:=ag hgs;have hE:=ag hT;clear hv hJ hp hk hG hgs hT;unfold kJ
 go_enter Tryz.func158,Tryz.ntmps158
 go_upto_region 1 with fail
 rw[<-hW];clear hW;have hb:=HX.o.1;obtain⟨k0,k1,k2,k3,k4,_⟩:=aT hb;clear hb;have hF:=ag (show bB S W (.slice a n cap) x from bX.below he.o (by omega) HB.o);go_wp2_with fail;clear k0 k1 k2 k3 k4;refine(Az S k 0 0 x _ _ rfl HK.o (by decide) hF.o (by rw[<-HN.o]; exact hl)).mono ?_;rintro e w1 ⟨rfl,hg⟩;obtain⟨nm,hc⟩:=bH (ms k 0 x);have hq:nm.size=32:=by rw[hc]; exact lG _ _ _
 rw[<-hc];have hD:=ag hc;have hd:=ag (aj HB.o hg);have hu:=ag (HX.o.below hg);have ho:=Dj (hC.o.keep (w':=w1) (fun i hi _=>hd.o.block i (hE.o i hi))) (n:=nm) (by rw[hq]; decide);obtain⟨gi,ha⟩:=bH (mU gs nm);rw[<-ha]at ho;obtain⟨gn,hw⟩:=bH (gi.toNat:Nat);have hj:gi=(gn:Int):=by have:=BQ hr.o nm; rw[<-ha]at this; omega
 have hI:gn<=1099511627776:=by have:=BQ hr.o nm; rw[<-ha]at this; omega
 have hA:=ag ha;rw[hj]at ho;have hz:=ag hj;have hB:=ag hw;have hb:=hu.o.1;obtain⟨k0,k1,k2,k3,k4,_⟩:=aT hb;clear hb hg hc ha hw hj;have hH:=ag (show bB S w1 (.slice a n cap) x from bX.below he.o (by omega) hd.o);go_wp2_with fail;refine(Az S k gn gn x _ _ rfl HK.o hI hH.o (by rw[<-HN.o]; exact hl)).mono ?_;rintro e w2 ⟨rfl,hh⟩;clear k0 k1 k2 k3 k4 ho
 have hy:=ag (aj hd.o hh);have hf:=ag (hu.o.below hh);have hs:=ag (show bF k gs x=⟨ms k gn x,(gn:Int),(n:Int)⟩ by unfold bF;rw[<-hD.o,<-hA.o,<-hB.o,<-hz.o,<-HN.o])
 clear hh;obtain⟨z0,z1,z2,_⟩:=aT hf.o.2;obtain⟨y0,y1,y2,_⟩:=gT hf.o.2;obtain⟨rn,hx⟩:=bH (ms k gn x);rw[<-hx]at hs ⊢;clear hx;go_wp2_with fail;refine MH hf.o.2 rfl rfl ⟨?_, ?_⟩
 ·rw[hs.o]; rfl
 ·exact iu hy.o (by omega)
def xK (l:List UInt8):ByteArray:=(jR l).getLast?.getD ⟨#[]⟩
theorem Kn {d p t:List UInt8} (h:rF d p t):xK p=⟨t.toArray⟩:=by
 unfold xK jR;have h1:(dd 47 p).getLast? =some t:=by
  rw[h.path]
  split
  ·rw[fW 47 _ h.no]; rfl
  ·rw[mK,fW 47 _ h.no]; simp
 rw[List.getLast?_map,h1]; rfl
theorem Gd (l:List UInt8):1<=(jR l).length:=by unfold jR; rw[aw]; exact ov 47 l
theorem xJ (s:ByteArray) (w:World) (hs:s.size<=16777216):Calls Tryz.prog 124 #[.string s] w fun e w'=>e= .returned (.string (xK (bl s)))/\Below w.heap.size w w':=by
 go_enter Tryz.func124,Tryz.ntmps124
 go_wp2_with fail;refine(MC s w hs).mono ?_;rintro e w1 ⟨a,cap,rfl,hc,hm,hd,hb⟩;obtain⟨n,hn⟩:=bH ((jR (bl s)).length);have hh:1<=n:=by rw[hn]; exact Gd _
 unfold maxLen at hm;obtain⟨x,hx⟩: ∃x,(jR (bl s))[n-1]? =some x:=⟨_,bn (by omega)⟩;have HL:=ag (show xK (bl s)=x by unfold xK; rw[List.getLast?_eq_getElem?,<-hn,hx]; rfl);have hf:=ag hb;obtain⟨_,_,he,-,-,ha⟩:=lP.shape hd;simp only[df]at he;obtain⟨rfl,-,rfl⟩:=he;obtain⟨b,o,rfl,-,q0⟩:=ha (n-1) x hx
 rw[<-hn]at hc ⊢;have hj:IntKind.i64.wrap ((n:Int)-1)=((n-1:Nat):Int):=by rw[bI]; omega
 have hg:(n:Int)-1=((n-1:Nat):Int):=by omega
 clear hd hb hn hx ha;go_wp2_with fail;go_ret;exact⟨by rw[HL.o]; rfl,hf.o⟩
def tZ (k:dq) (c:fQ) (tv gv v:Value) (lg cl:Bool):List Value:=eW k++gx c++[tv,gv,v, .bool lg, .bool cl]
structure kg (w : World) (base bb : Nat) (k : dq) (c : fQ) (tv gv v : Value) (lg : Bool) (s : List cQ × Bool) : Prop where
 box:w.heap[bb]? =some (.cells (tZ k c tv gv v lg s.2).toArray 130 (0,0))
 own: ∃zs:List mp,zs.map Prod.snd=s.1/\iz w base v zs
theorem kg.below {w w':World} {base bb:Nat} {k:dq} {c:fQ} {tv gv v:Value} {lg:Bool} {s:List cQ×Bool} (h:kg w base bb k c tv gv v lg s) (hb:Below w.heap.size w w'):kg w' base bb k c tv gv v lg s:=by obtain⟨zs,h1,h2⟩:=h.own;exact⟨(hb.block _ (am h.box)).trans h.box,zs,h1,h2.below hb⟩
structure jM (base bb : Nat) (v v' : Value) (w w' : World) : Prop where
 below:Below base w w'
 same: ∀i,i<w.heap.size->i≠bb->v.ownBlock≠some i->w'.heap[i]? =w.heap[i]?
 place: ∀i,v'.ownBlock=some i->v.ownBlock=some i\/w.heap.size<=i
theorem jM.refl (base bb:Nat) (v:Value) (w:World):jM base bb v v w w:=⟨ak _ _,fun _ _ _ _=>rfl,fun _ h=> .inl h⟩
theorem jM.trans {base bb:Nat} {v v1 v2:Value} {A B C:World} (h:jM base bb v v1 A B) (k:jM base bb v1 v2 B C):jM base bb v v2 A C:=by
 have hs:=h.below.size;refine⟨h.below.trans k.below,fun i h1 h2 h3=>(k.same i (by omega) h2 (fun e=> ?_)).trans (h.same i h1 h2 h3),fun i e=> ?_⟩
 ·rcases h.place i e with e2 | e2
  ·exact h3 e2
  ·omega
 ·rcases k.place i e with e2 | e2
  ·exact h.place i e2
  ·exact .inr (by omega)
theorem jM.ofBelow {base bb:Nat} {v:Value} {w w':World} (h:Below w.heap.size w w') (hb:base<=w.heap.size):jM base bb v v w w':=⟨h.mono hb,fun k h1 _ _=>h.block k h1,fun _ e=> .inl e⟩
theorem jM.row {w w':World} {base bb B sz n:Nat} {k:dq} {c:fQ} {tv gv v v' u:Value} {lg:Bool} {s:List cQ×Bool} {t:TypeId} {xs:List Value} (h:kg w base bb k c tv gv v lg s) (hk:jM base bb v v' w w') (hr:w.ownsRow B t sz u n xs) (h1:t≠130) (h2:t≠53):w'.ownsRow B t sz u n xs:=
 fj hr (fun i hi hu=>by
  obtain⟨cs,hc⟩:=bK hr hu;refine hk.same i hi (fun e=> ?_) (fun e=> ?_)
  ·subst e; exact h1 (bU hc h.box)
  ·obtain⟨zs,_,ho⟩:=h.own;obtain⟨cs2,hc2⟩:=bK ho.row e;exact h2 (bU hc hc2))
theorem jM.blk {w w':World} {base bb i:Nat} {k:dq} {c:fQ} {tv gv v v':Value} {lg:Bool} {s:List cQ×Bool} {cs:Array Value} {t:TypeId} {z:Nat×Nat} (h:kg w base bb k c tv gv v lg s) (hk:jM base bb v v' w w') (hx:w.heap[i]? =some (.cells cs t z)) (h1:t≠130) (h2:t≠53):w'.heap[i]? =some (.cells cs t z):=
 (hk.same i (am hx) (fun e=>by subst e; exact h1 (bU hx h.box)) (fun e=>by obtain⟨zs,_,ho⟩:=h.own;obtain⟨cs2,hc2⟩:=bK ho.row e;exact h2 (bU hx hc2))).trans hx
theorem kg.clash {w:World} {base bb:Nat} {k:dq} {c:fQ} {tv gv v:Value} {lg cl:Bool} {bs:List cQ} (h:kg w base bb k c tv gv v lg (bs,cl)) (cl':Bool) (hb:base<=bb):kg (w.setCell ⟨bb,14,none⟩ (.bool cl')) base bb k c tv gv v lg (bs,cl')/\jM base bb v v w (w.setCell ⟨bb,14,none⟩ (.bool cl')):=by
 obtain⟨zs,h1,h2⟩:=h.own;have hs: ∀j,j≠bb->(w.setCell ⟨bb,14,none⟩ (.bool cl')).heap[j]? =w.heap[j]? :=fun j hj=>az _ _ _ _ hj
 have ha: ∀ {t:TypeId} {n sz:Nat} {u:Value} {xs:List Value},w.ownsRow base t sz u n xs->t≠130->(w.setCell ⟨bb,14,none⟩ (.bool cl')).ownsRow base t sz u n xs:=fun hr ht=>fj hr (fun i hi hu=>hs i (fun e=>by obtain⟨cs,hc⟩:=bK hr hu;subst e;exact ht (bU hc h.box)))
 refine⟨⟨?_,zs,h1,ha h2.row (by decide),fun z hz=>ha (h2.dat z hz) (by decide)⟩,(ak _ _).grown (cJ w bb 14 _) ?_ (fun i hi=>by cases hi; exact hb),fun i hi e1 _=>hs i e1,fun i e=> .inl e⟩
 ·have:=jb (k:=14) h.box (.bool cl')
  simpa [tZ,eW,gx]using this
 ·have:=am h.box; omega
theorem kg.push {w w2:World} {base bb:Nat} {k:dq} {c:fQ} {tv gv v v' dv:Value} {lg cl:Bool} {bs:List cQ} {zs:List mp} {b:cQ} (hz:zs.map Prod.snd=bs) (h:iz w base v zs) (hx:w.heap[bb]? =some (.cells (tZ k c tv gv v lg cl).toArray 130 (0,0)))
  (hn:w.ownsRow base 5 1 dv b.con.length (b.con.map aZ)) (hown:w2.ownsRow base 53 4 v' (zs.length+1) (iw zs++nT dv b)) (hg:w.grownBy w2 v.ownBlock) (hpl: ∀k,v'.ownBlock=some k->v.ownBlock=some k\/w.heap.size<=k) (hbe:base<=bb):
  kg (w2.setCell ⟨bb,12,none⟩ v') base bb k c tv gv v' lg (bs++[b],cl)/\jM base bb v v' w (w2.setCell ⟨bb,12,none⟩ v'):=by
 have hk:=am hx;have he:base<=w.heap.size:=by omega
 have hf:v.ownBlock≠some bb:=fun e=>by obtain⟨cs,hc⟩:=bK h.row e;exact absurd (bU hx hc) (by decide)
 have hb:v'.ownBlock≠some bb:=fun e=>by
  rcases hpl bb e with e | e
  ·exact hf e
  ·omega
 have hh:=(hg.block bb hk (fun e=>hf e.symm)).trans hx;have ha: ∀(u:Value) (ds:List UInt8),w.ownsRow base 5 1 u ds.length (ds.map aZ)->(w2.setCell ⟨bb,12,none⟩ v').ownsRow base 5 1 u ds.length (ds.map aZ):=by intro u ds hd;refine fj hd (fun i hi hu=> ?_);obtain⟨cs,hc⟩:=bK hd hu;rw[az _ _ _ _ (show i≠bb from fun e=>absurd (bU (e▸hc) hx) (by decide))];refine hg.block i hi (fun e=> ?_);obtain⟨cs2,hj⟩:=bK h.row e.symm;exact absurd (bU hc hj) (by decide)
 refine⟨⟨?_,zs++[(dv,b)],by simp[hz], ?_,fun z hz=> ?_⟩,⟨?_,fun i hi e1 e3=> ?_,fun i e=> ?_⟩⟩
 ·have:=jb (k:=12) hh v'
  simpa [tZ,eW,gx]using this
 ·rw[ai,bT,vj];exact hown.kept (cJ _ _ _ _) (.inr (fun e=>hb e))
 ·rcases aP.1 hz with hz | hz
  ·exact ha _ _ (h.dat z hz)
  ·rw[aL]at hz;subst hz;exact ha _ _ hn
 ·exact((ak _ _).grown hg he (fun i hi=>(h.row.lt i hi).1)).grown (cJ w2 bb 12 v') (an he hg.size) (fun i hi=>by cases hi; exact hbe)
 ·rw[az _ _ _ _ (show i≠bb from e1)];exact hg.block i hi (fun e=>e3 e.symm)
 ·rcases hpl i e with e | e
  ·exact .inl e
  ·exact .inr (by omega)
theorem PJ {a:Act} {w:World} {b:Nat} {x0 x1 x2:Value} (h:w.heap[b]? =some (.cells #[x0,x1,x2] 26 (0,0)))
  (h4:a.tmps[4]? =some (.pointer (some ⟨b,0,none⟩))):(results Tryz.f126 a.tmps).run Tryz.prog w= .ok (.agg #[x0,x1,x2]) w:=by
 obtain⟨m0,m1,m2,_⟩:=aT h;simp[results,Tryz.results126,go_sem,h4,m0,m1,m2]
theorem Cc {a:Act} {w:World} {b:Nat} {a0 a1 a2 x0 x1 x2:Value} {Q:Ending->World->Prop} (h:w.heap[b]? =some (.cells #[a0,a1,a2] 26 (0,0)))
  (h4:a.tmps[4]? =some (.pointer (some ⟨b,0,none⟩))) (hd:a.defers=[])
  (hQ:Q (.returned (.agg #[x0,x1,x2])) (((w.setCell ⟨b,0,none⟩ x0).setCell ⟨b,1,none⟩ x1).setCell ⟨b,2,none⟩ x2)):
  bodyPost Tryz.prog Tryz.f126 Q Exit.ret a (((w.setCell ⟨b,0,none⟩ x0).setCell ⟨b,1,none⟩ x1).setCell ⟨b,2,none⟩ x2):=cS (PJ (vK h) h4) hd hQ
theorem Fi {bs:List cQ} {j:Nat} {b:cQ} (h:bs[j]? =some b):iH (bs.take (j+1))=pq (iH (bs.take j)) b.ref.name b.con:=by
 unfold iH;rw[dC h,dW]
 rfl
theorem dO.miss' {S:Nat->Prop} {w:World} {n:ByteArray} {v:Value} {x:List UInt8} (hv:bB S w v x): ∀ {m:List (Value×Value)} {cs:List (ByteArray×List UInt8)},dO S w m cs->(∀p∈m,p.1≠Value.string n)->dO S w (m++[(.string n,v)]) (pq cs n x)
 | [],[],_,_=>⟨rfl,hv,trivial⟩
 | [],_::_,h,_=>False.elim h
 | _::_,[],h,_=>False.elim h
 | (k,u)::m,(n',b')::cs,h,hm=>by
  have hne:n'≠n:=fun e=>hm (k,u) (by simp) (by rw[h.1,e])
  rw[pq,if_neg hne];exact⟨h.1,h.2.1,dO.miss' hv h.2.2 (fun p hp=>hm p (by simp[hp]))⟩
theorem dO.hit' {S:Nat->Prop} {w:World} {n:ByteArray} : ∀ {m:List (Value×Value)} {cs:List (ByteArray×List UInt8)},dO S w m cs->(∃p∈m,p.1=Value.string n)-> ∃m1 old m2,m=m1++(.string n,old)::m2/\ ∀(w':World) (S':Nat->Prop) (v:Value) (x:List UInt8),(∀v bs,bB S w v bs->bB S' w' v bs)->bB S' w' v x->dO S' w' (m1++(.string n,v)::m2) (pq cs n x)
 | [],[],_,⟨_,hp,_⟩=>by simp at hp
 | [],_::_,h,_=>False.elim h
 | _::_,[],h,_=>False.elim h
 | (k,u)::m,(n',b')::cs,h,hp=>by
  have hmono: ∀ {w':World} {S':Nat->Prop},(∀v bs,bB S w v bs->bB S' w' v bs)->dO S w m cs->dO S' w' m cs:=by
   intro w' S' hm;have: ∀ {m:List (Value×Value)} {cs:List (ByteArray×List UInt8)},dO S w m cs->dO S' w' m cs:=by
    intro m
    induction m with
    | nil=>intro cs h; cases cs with
     | nil=>trivial
     | cons=>exact h
    | cons p m ih=>intro cs h; cases cs with
     | nil=>exact h
     | cons q cs=>exact⟨h.1,hm _ _ h.2.1,ih h.2.2⟩
   exact this
  by_cases hn:n'=n
  ·subst hn;refine⟨[],u,m,by rw[h.1]; rfl,fun w' S' v x hm hv=> ?_⟩;rw[pq,if_pos rfl];exact⟨rfl,hv,hmono hm h.2.2⟩
  ·obtain⟨p,hc,hb⟩:=hp;have ha:p∈m:=by
    rcases aU.1 hc with rfl | ha
    ·have:=h.1.symm.trans hb;simp only[eJ]at this;exact absurd this hn
    ·exact ha
   obtain⟨m1,old,m2,h1,h2⟩:=dO.hit' h.2.2 ⟨p,ha,hb⟩;refine⟨(k,u)::m1,old,m2,by rw[h1]; rfl,fun w' S' v x hm hv=> ?_⟩;rw[pq,if_neg hn];exact⟨h.1,hm _ _ h.2.1,h2 w' S' v x hm hv⟩
def mN (S:Nat->Prop) (w:World) (v:Value) (bs:List cQ):Prop:= ∃zs:List mp,zs.map Prod.snd=bs/\bX S w 4 v zs.length (iw zs)/\ ∀z∈zs,bB S w z.1 z.2.con/\dZ z.2.ref
theorem wJ : ∀ {zs:List mp} {k:Nat} {z:mp},zs[k]? =some z-> ∀j,j<4->(iw zs)[k*4+j]? =(nT z.1 z.2)[j]?
 | [],k,_,h,_,_=>by simp at h
 | x::zs,0,z,h,j,hj=>by simp at h; subst h;unfold iw;rw[bC,jl,bO,bJ (by exact hj)]
 | x::zs,k+1,z,h,j,hj=>by
  have:=wJ (zs:=zs) (k:=k) (z:=z) (by simpa using h) j hj;unfold iw at this ⊢;rw[bC,bE (by show 4<=_; omega),<-this]
  congr 1
  show(k+1)*4+j-4=_
  omega
theorem tE {S:Nat->Prop} {w:World} {a:Option Addr} {n cap:Nat} {zs:List mp} (h:bX S w 4 (.slice a n cap) zs.length (iw zs)) {k:Nat} {z:mp} (hz:zs[k]? =some z):
  ∃b o,a=some ⟨b,o,none⟩/\S b/\b<w.heap.size/\ ∀j,j<4->w.cell? ⟨b,o+k*4+j,none⟩=(nT z.1 z.2)[j]? :=by
 obtain⟨_,a',cap',he,_,_,h0⟩:=h
 cases he
 have ha:=(aA.1 hz).1
 rcases h0 with h0 | ⟨b,o,rfl,hS,hc⟩
 ·omega
 ·have g:=fun j (hj:j<4)=>hc (k*4+j) _ ((wJ hz j hj).trans (bn (l:=nT z.1 z.2) hj))
  have g0:=g 0 (by omega);refine⟨b,o,rfl,hS,cR (a:=⟨b,o+(k*4+0),none⟩) g0,fun j hj=> ?_⟩;rw[dp,g j hj];exact(bn (l:=nT z.1 z.2) hj).symm
theorem mN.below {S:Nat->Prop} {w w':World} {v:Value} {bs:List cQ} (h:mN S w v bs) (hb:Below w.heap.size w w'):mN S w' v bs:=by obtain⟨zs,h1,h2,h3⟩:=h;exact⟨zs,h1,bX.below h2 (by omega) hb,fun z hz=>⟨bX.below (h3 z hz).1 (by omega) hb,(h3 z hz).2⟩⟩
def Bs (S:Nat->Prop) (bs:List cQ) (w:World) (e:Ending) (w':World):Prop:= ∃mb m,e= .returned (.map (some mb))/\w.heap.size<=mb/\iQ Tryz.prog 9 w' mb m/\dO S w' m (iH bs)/\Below w.heap.size w w'
theorem qb (S:Nat->Prop) (bs:List cQ) (v:Value) (w:World) (hv:mN S w v bs) (hl:bs.length<=1000000):Calls Tryz.prog 36 #[v] w (Bs S bs w):=by
 obtain⟨zs,hF,he,hf⟩:=hv;obtain⟨_,a,cap,rfl,Ha,hm,-⟩:=id he;unfold maxLen at hm;have hC:=ag he;have hy:=ag hf
 have hO:=ag hF;obtain⟨n,hn⟩:=bH zs.length;have Hf:n<=1000000:=by rw[hn,<-aw (f:=Prod.snd),hF]; exact hl
 rw[<-hn]at Ha ⊢;have HN:=ag hn;have Hd:= @run_makeMap Tryz.prog;obtain⟨W0,hu⟩:=bH (w.alloc (.map #[] 0));have hY:=ag (show iQ Tryz.prog 9 W0 w.heap.size [] by rw[hu]; exact iQ.made w);have hX:=ag (show Below w.heap.size w W0 by rw[hu]; exact eT);clear he hf hF hn hl
 go_enter Tryz.func36,Tryz.ntmps36
 go_upto_region 2 with(fail)
 rw[<-hu];clear hu Hd;go_wp2_with fail
 go_loopw [4] (fun i wr=> ∃(j:Nat) (m:List (Value×Value)),j<=n/\i= .int .i64 (j:Int)/\iQ Tryz.prog 9 wr w.heap.size m/\dO S wr m (iH (bs.take j))/\Below w.heap.size w wr) (fun i _=>n-(intOf i).toNat)
 ·exact⟨0,[],aR _,rfl,hY.o,trivial,hX.o⟩
 ·obtain⟨j,m,hj,rfl,hU,hT,hb⟩:=hrel;have hs:=ag hU;have hA:=ag hT;have HB:=ag hb;clear hU hT hb
  by_cases Hc:j<n
  ·obtain⟨z,hz⟩: ∃z,zs[j]? =some z:=⟨zs[j]'(by rw[<-HN.o]; exact Hc),by simp⟩;obtain⟨b,o,rfl,-,h8,hR⟩:=tE hC.o hz;have hq:=hy.o z (aM hz);have He:=ag hq;have h0:=ag (show bs[j]? =some z.2 by rw[<-hO.o,bm,hz]; rfl);obtain⟨_,za,zc,hG,-,-,-⟩:=id hq.1;have g:=fun i (hi:i<4)=>(HB.o.cell (p:=⟨b,o+j*4+i,none⟩) h8).trans (hR i hi)
   have q0:=g 0 (by omega);have q3:=g 3 (by omega);simp only[nT,aD,cI,dh]at q0 q3;rw[hG]at q3;obtain⟨zl,hE⟩:=bH z.2.con.length;rw[<-hE]at q3;obtain⟨nm,hx⟩:=bH z.2.ref.name;rw[<-hx]at q0;have hD:nm.size<=maxLen:=by rw[hx]; exact hq.2.nm
   have ht:Tryz.prog.underlying 55=some (.map 9 29):=ll;have hN:=ag ht;have hM:=ag (show iH (bs.take (j+1))=pq (iH (bs.take j)) nm z.2.con by rw[Fi h0.o,hx]);have hH:=ag (show ∀W:World,Below w.heap.size w W->bB S W (.slice za zl zc) z.2.con from fun W hW=>by rw[hE,<-hG]; exact bX.below hq.1 (by omega) hW);have h9:w.heap.size<wr.heap.size:=hs.o.lt
   clear ht hz hR hq hG g hE hx;go_wp2_with fail;refine bL [some 12,none] (by kernel_rfl) (by kernel_rfl) (by kernel_rfl) ?_;simp only[ef,aS,aY,bA,bQ];have hJ:=ag (hs.o.same (w':=wr.drew) rfl)
   repeat (first | (refine cy rfl ?_; simp only[bM]) | (refine cP rfl (fun K hK=> ?_); go_simp; refine hK _ ?_; clear hK K))
   refine cO ?_;refine eE rfl (fun K hK=> ?_);have hP: ∀(w9:World),wr.drew.grownBy w9 (some w.heap.size)->Below w.heap.size w w9:=fun w9 hg=>(HB.o.trans ((ak wr.heap.size wr).drew.mono HB.o.size)).grown hg (eZ h9) (fun i hi=>by cases hi; exact ah _)
   have hr:=ag hP
   have ha: ∀(w9:World),wr.drew.grownBy w9 (some w.heap.size)-> ∀v bs,bB S wr v bs->bB S w9 v bs:=fun w9 hg v bs hv=>by
    obtain⟨h1,a9,cap9,rfl,h2,h3,h4⟩:=hv;refine⟨h1,a9,cap9,rfl,h2,h3, ?_⟩
    rcases h4 with h4 | ⟨b9,o9,rfl,hS,hc⟩
    ·exact .inl h4
    ·refine .inr ⟨b9,o9,rfl,hS,fun i u hi=> ?_⟩;have q:=hc i u hi;rw[<-q];refine cC (hg.block b9 (cR (a:=⟨b9,o9+i,none⟩) q) (fun e=> ?_));have:b9=w.heap.size:=by simpa using e
     subst this;obtain⟨es,clock,h7,_⟩:=hs.o;simp[World.cell?,h7]at q
   have hI:=ag ha;clear hP ha
   by_cases hw: ∃p∈m,p.1=Value.string nm
   ·obtain⟨m1,old,m2,rfl,ho⟩:=hA.o.hit' hw;have hZ:=ag ho;clear hw ho;go_wp2_with (at_mapUpdate; go_must (refine qA gB rfl _ _ _ _ rfl hN.o w.heap.size m1 m2 (.string nm) (.slice za zl zc) old hJ.o rfl rfl rfl ?_); intro w9 hk hh);have hB:=ag hk;have hd:=ag hh;clear hk hh;go_wp2_with fail
    go_roundw
    ·exact⟨j+1,_,by omega,by go_num,hB.o,by rw[hM.o]; exact hZ.o w9 S _ _ (hI.o w9 hd.o) (hH.o w9 (hr.o w9 hd.o)),hr.o w9 hd.o⟩
    simp[intOf]; omega
   ·have hV: ∀p∈m,p.1≠Value.string nm:=fun p hp e=>hw ⟨p,hp,e⟩
    have hL:=ag hV;clear hw hV;go_wp2_with (at_mapUpdate; go_must (refine kO gB rfl _ _ _ _ rfl hN.o w.heap.size m hJ.o rfl (.string nm) (.slice za zl zc) rfl rfl (iL hD) hL.o ?_); intro w9 hk hh);have hB:=ag hk;have hd:=ag hh;clear hk hh;go_wp2_with fail
    go_roundw
    ·exact⟨j+1,_,by omega,by go_num,hB.o,by rw[hM.o]; exact dO.miss' (hH.o w9 (hr.o w9 hd.o)) (hA.o.mono (hI.o w9 hd.o)) hL.o,hr.o w9 hd.o⟩
    simp[intOf]; omega
  ·have Hb:j=n:=by omega
   subst Hb;go_wp2_with fail;go_ret;have h1:=hA.o;rw[bo (by rw[<-hO.o,aw,<-HN.o]; exact ah _)]at h1;exact⟨_,m,rfl,ah _,hs.o,h1,HB.o⟩
def gz (bb:Nat) (k:dq) (c:fQ) (tv gv v:Value) (lg cl:Bool) (w:World):Prop:=w.heap[bb]? =some (.cells (tZ k c tv gv v lg cl).toArray 130 (0,0))
theorem gz.below {bb:Nat} {k:dq} {c:fQ} {tv gv v:Value} {lg cl:Bool} {w w':World} (h:gz bb k c tv gv v lg cl w) (hb:Below w.heap.size w w'):gz bb k c tv gv v lg cl w':=eA hb h
theorem Ep (w:World) (n:Nat):Below w.heap.size w (w.drewN n):=⟨rfl,rfl,rfl,ah _,fun _ _=>rfl⟩
theorem Iz {α:Type} {p:α->Bool} : ∀ {l:List α} {j:Nat} {b:α},l[j]? =some b->p b=true->(∀y∈l.take j,p y=false)->l.find? p=some b
 | [],_,_,h,_,_=>by simp at h
 | a::l,0,b,h,hp,_=>by
  obtain rfl:a=b:=by simpa using h
  simp[hp]
 | a::l,j+1,b,h,hp,hn=>by have h1:p a=false:=hn a (by simp);rw[List.find?_cons,h1];exact Iz (l:=l) (j:=j) (by simpa using h) hp (fun y hy=>hn y (by simp[hy]))
theorem kg.other {w w':World} {base bb b:Nat} {k:dq} {c:fQ} {tv gv v:Value} {lg:Bool} {s:List cQ×Bool} {cs:Array Value} {t:TypeId} {z:Nat×Nat} (h:kg w base bb k c tv gv v lg s) (hb:w.heap[b]? =some (.cells cs t z)) (h1:t≠130) (h2:t≠53) (h3:t≠5) (hs: ∀i,i≠b->i<w.heap.size->w'.heap[i]? =w.heap[i]?):kg w' base bb k c tv gv v lg s:=by
 obtain⟨zs,hz,hr,hd⟩:=h.own;refine⟨(hs bb (fun e=> ?_) (am h.box)).trans h.box,zs,hz,fj hr (fun i hi hu=>hs i (fun e=> ?_) hi),fun y hy=>fj (hd y hy) (fun i hi hu=>hs i (fun e=> ?_) hi)⟩
 ·subst e; exact h1 (bU hb h.box)
 ·subst e;obtain⟨cs2,ha⟩:=bK hr hu;exact h2 (bU hb ha)
 ·subst e;obtain⟨cs2,ha⟩:=bK (hd y hy) hu;exact h3 (bU hb ha)
theorem jM.setNew {base bb b j:Nat} {v v' u:Value} {w w':World} (h:jM base bb v v' w w') (hb:w.heap.size<=b) (hbz:base<=w.heap.size):jM base bb v v' w (w'.setCell ⟨b,j,none⟩ u):=
 ⟨cz h.below (show base<=b by omega) u,fun i h1 h2 h3=>(az _ _ _ _ (show i≠b by omega)).trans (h.same i h1 h2 h3),h.place⟩
theorem AP (base bb:Nat) (k:dq) (c:fQ) (tv gv v cv:Value) (gs:List (ByteArray×Int)) (lg cl:Bool) (bs:List cQ) (x:List UInt8) (w:World) (h:kg w base bb k c tv gv v lg (bs,cl)) (hk:jK k=true) (hG:ld (· <base) w gv gs) (hgs:kC gs) (hx:w.ownsRow base 5 1 cv x.length (x.map aZ)) (hl:x.length<=32768) (hbs:bs.length<=1000000) (hbe:base<=bb):
  Calls Tryz.prog 126 #[.pointer (some ⟨bb,0,none⟩),cv] w fun e w'=>e= .returned (eC (bF k gs x))/\ ∃v',kg w' base bb k c tv gv v' lg (qr k gs (bs,cl) x)/\jM base bb v v' w w':=by
 have H5:=am h.box;have hf:base<=w.heap.size:=by omega
 obtain⟨zs,Hs,ho⟩:=h.own;obtain⟨av,cvv,hv,hB,hC⟩:=aH ho.row;obtain⟨n,hn⟩:=bH zs.length;rw[<-hn]at hv hB;subst hv;unfold maxLen at hC;have hL:=ag hn;have Hk:=ag Hs;have HO:=ag ho;have H7:n<=1000000:=by rw[hn,<-aw (f:=Prod.snd),Hs]; exact hbs
 clear hbs Hs ho hn;obtain⟨W1,h3⟩:=bH (w.alloc (.cells #[.string ⟨#[]⟩, .int .i64 0, .int .i64 0] 26));have HM:=ag (show Below w.heap.size w W1 by rw[h3]; exact eT);have HS:=ag (show W1.heap[w.heap.size]? =some (.cells #[.string ⟨#[]⟩, .int .i64 0, .int .i64 0] 26 (0,0)) by rw[h3]; exact aC w _);have HH:=ag h;have HK:=ag hk;have HG:=ag hG;have Hu:=ag hgs
 have hX:=ag hx;obtain⟨ax,cx,rfl,hA,H4⟩:=aH hx;obtain⟨xl,Hq⟩:=bH x.length;rw[<-Hq]at hl hX ⊢;have hJ:=ag Hq;clear h hk hG hgs hx hA H4 Hq
 go_enter Tryz.func126,Tryz.ntmps126
 go_upto_region 1 with fail
 rw[<-h3];clear h3;refine eV (gz bb k c tv gv (.slice av n cvv) lg cl) (by kernel_rfl) ?_;obtain⟨V,hV⟩:=bH W1.drew;rw[<-hV];have hb:Below W1.heap.size W1 V:=by rw[hV]; exact(ak _ _).drew
 have hR:=ag (aj HM.o hb);have Hf:=ag (eA hb HS.o);have SV:=ag (show gz bb k c tv gv (.slice av n cvv) lg cl V from gz.below HH.o.box hR.o);clear hV hb
 iterate 9 (refine cF rfl SV.o (by rintro w' hx; have ha:=hx; unfold gz at ha; have k0:=ar (k:=0) ha; have k1:=ar (k:=1) ha; have k2:=ar (k:=2) ha; have k3:=ar (k:=3) ha; have k4:=ar (k:=4) ha; have k11:=ar (k:=11) ha; simp only[tZ,eW,gx,aK,aJ,fV]at k0 k1 k2 k3 k4 k11; clear hx ha; go_simp; rfl) ?_; simp only[bM])
 obtain⟨rf,HL⟩:=bH (bF k gs x);have hF:=ag HL;clear HL;have H0: ∀i,(· <base) i->i<V.heap.size:=fun i hi=>aO hi (an hf hR.o.size)
 refine xx 9 10 rfl rfl (by kernel_rfl) rfl rfl (fun K hK=> ?ca) (fun K hK=> ?al)
 case' ca=>
  have H1:Below V.heap.size V V:=ak _ _;go_wp2_with fail;refine(xn _ _ k gs gv x _ _ HK.o (HG.o.keep (w':=V) (fun i hi _=>hR.o.block i (aO hi hf))) H0 Hu.o (show bB (fun _=>True) V (.slice ax xl cx) x by
   have h1:=cK (cY hX.o hR.o)
   show bX _ V 1 _ x.length (x.map aZ)
   rw[<-hJ.o];exact h1.weak fun _ _=>trivial) (by rw[<-hJ.o]; exact hl)).mono ?_
  rintro e w2 ⟨rfl,hd⟩;rw[<-hF.o];have hP:=ag (aj hR.o hd);have h2:=ag (eA hd Hf.o);have S2:=ag (gz.below SV.o hd);clear hd H1;unfold eC;go_wp2_with fail;refine⟨S2.o, ?_⟩;refine cA 10 rfl (fun K hK=> ?_);go_wp2_with fail;obtain⟨Z,hZ⟩:=bH (w2.alloc (.cells #[.string ⟨#[]⟩, .int .i64 0, .int .i64 0] 26));rw[<-hZ];have hc:Below w2.heap.size w2 Z:=by rw[hZ]; exact eT
  have Ha:=ag (aj hP.o hc);have Hg:=ag (eA hc h2.o);have SZ:=ag (gz.below S2.o hc);obtain⟨xb,hE⟩:=bH w2.heap.size;have hW:=ag (show Z.heap[xb]? =some (.cells #[.string ⟨#[]⟩, .int .i64 0, .int .i64 0] 26 (0,0)) by rw[hZ,hE]; exact aC w2 _);have Hp:w.heap.size<xb:=by rw[hE]; exact am h2.o
  rw[<-hE];clear hZ hc hE;refine⟨SZ.o, ?_⟩
 case' al=>
  go_wp2_with fail;obtain⟨w2,h8⟩:=bH (V.alloc (.cells #[.string ⟨#[]⟩, .int .i64 0, .int .i64 0] 26));rw[<-h8];have hd:Below V.heap.size V w2:=by rw[h8]; exact eT
  have hP:=ag (aj hR.o hd);have h2:=ag (eA hd Hf.o);have S2:=ag (gz.below SV.o hd);obtain⟨xb,hE⟩:=bH V.heap.size;have HV:=ag (show w2.heap[xb]? =some (.cells #[.string ⟨#[]⟩, .int .i64 0, .int .i64 0] 26 (0,0)) by rw[h8,hE]; exact aC V _);have Hp:w.heap.size<xb:=by rw[hE]; exact am Hf.o
  rw[<-hE];have Hl: ∀i,(· <base) i->i<w2.heap.size:=fun i hi=>aO hi (an hf hP.o.size)
  clear h8 hd hE;refine⟨S2.o, ?_⟩;refine cA 9 rfl (fun K hK=> ?_);go_wp2_with fail;refine(xn _ _ k gs gv x _ _ HK.o (HG.o.keep (w':=w2) (fun i hi _=>hP.o.block i (aO hi hf))) Hl Hu.o (show bB (fun _=>True) w2 (.slice ax xl cx) x by
   have h1:=cK (cY hX.o hP.o)
   show bX _ w2 1 _ x.length (x.map aZ)
   rw[<-hJ.o];exact h1.weak fun _ _=>trivial) (by rw[<-hJ.o]; exact hl)).mono ?_
  rintro e Z ⟨rfl,hc⟩;rw[<-hF.o];have Ha:=ag (aj hP.o hc);have Hg:=ag (eA hc h2.o);have SZ:=ag (gz.below S2.o hc);have hW:=ag (eA hc HV.o);clear hc;unfold eC;go_wp2_with fail;refine⟨SZ.o, ?_⟩
 all_goals
  obtain⟨z0,z1,z2,_⟩:=aT hW.o;obtain⟨y0,y1,y2,_⟩:=gT hW.o;refine cA 11 rfl (fun K hK=> ?_);go_wp2_with fail;obtain⟨Y,hY⟩:=bH ((((Z.setCell ⟨xb,0,none⟩ (.string rf.name)).setCell ⟨xb,1,none⟩ (.int .i64 rf.gen)).setCell ⟨xb,2,none⟩ (.int .i64 rf.size)));have HP:=ag (show Below w.heap.size w Y by rw[hY]; exact iu Ha.o (by omega));have HX:=ag (show Y.heap[xb]? =some (.cells #[.string rf.name, .int .i64 rf.gen, .int .i64 rf.size] 26 (0,0)) by rw[hY]; exact vK hW.o)
  have HU:=ag (show Y.heap[w.heap.size]? =some (.cells #[.string ⟨#[]⟩, .int .i64 0, .int .i64 0] 26 (0,0)) by rw[hY]; exact(eB (by omega)).trans Hg.o);have SY:=ag (show gz bb k c tv gv (.slice av n cvv) lg cl Y by rw[hY]; exact(eB (by omega)).trans SZ.o);rw[<-hY];clear hY z0 z1 z2 y0 y1 y2 SZ hW Hg Ha;refine⟨SY.o, ?_⟩;refine cH (by kernel_rfl) ?_;go_wp2_with fail
  go_loopw [6] (fun i wr=> ∃j:Nat,j<=n/\i= .int .i64 (j:Int)/\(∀b∈bs.take j,¬b.ref=rf)/\Below Y.heap.size Y wr) (fun i _=>n-(intOf i).toNat)
  ·exact⟨0,aR _,rfl,by simp,ak _ _⟩
  ·obtain⟨j,hj,rfl,HI,hb⟩:=hrel;have Hb:=ag HI;have HB:=ag hb;have h9:=ag (aj HP.o hb);have Hj:=ag (eA hb HX.o);have Hx:=ag (eA hb HU.o);have SW:=ag (gz.below SY.o hb);clear HI hb
   by_cases H3:j<n
   ·obtain⟨z,hz⟩: ∃z,zs[j]? =some z:=⟨zs[j]'(by rw[<-hL.o]; exact H3),by simp⟩;have HA:=ag (HO.o.dat z (aM hz));have HC:=ag (show bs[j]? =some z.2 by rw[<-Hk.o,bm,hz]; rfl);have hO:=cK (cY HO.o.row h9.o);rw[<-hL.o]at hO;obtain⟨gb,go,rfl,-,H6,hh⟩:=tE (by rw[<-hL.o]; exact hO) hz;have q0:=hh 0 (by omega)
    have q1:=hh 1 (by omega);have q2:=hh 2 (by omega);have q3:=hh 3 (by omega);simp only[nT,aD,cI,dh]at q0 q1 q2 q3;obtain⟨za,zc,Ht,-,-⟩:=aH HA.o;rw[Ht]at q3;have HY:=ag Ht;obtain⟨zl,Hr⟩:=bH z.2.con.length;rw[<-Hr]at q3;have HD:=ag Hr;have HE:=ag q3;obtain⟨r,hr⟩:=bH z.2.ref;rw[<-hr]at q0 q1 q2
    have HR:=ag hr;have h7:=Qg r rf;have ha:=SW.o;unfold gz at ha;have k0:=ar (k:=0) ha;have k1:=ar (k:=1) ha;have k2:=ar (k:=2) ha;have k3:=ar (k:=3) ha;have k4:=ar (k:=4) ha;have k11:=ar (k:=11) ha;have k12:=ar (k:=12) ha;have k14:=ar (k:=14) ha;simp only[tZ,eW,gx,aK,aJ,fV]at k0 k1 k2 k3 k4 k11 k12 k14
    obtain⟨p0,p1,p2,_⟩:=aT Hj.o;unfold eC at h7;clear ha hO hz hh q3 Ht Hr hr k0 k1 k2 k3 k4 k11 k14
    by_cases hm:r=rf
    ·have e1:decide (r=rf)=true:=by simp[hm]
     rw[e1]at h7;clear e1;go_wp2_with fail
     go_quiet (fail)
     obtain⟨W2,hM⟩:=bH (wr.drewN nq);rw[<-hM];have hd:Below wr.heap.size wr W2:=by rw[hM]; exact Ep wr nq
     have h0:=ag (show qr k gs (bs,cl) x=(bs,cl || !decide (z.2.con=x)) by unfold qr;rw[Iz (b:=z.2) HC.o (by rw[<-HR.o,<-hF.o]; simp[hm]) (fun y hy=>by rw[<-hF.o]; simpa using Hb.o y hy)])
     have HN:=ag (aj h9.o hd);have Hy:=ag (eA hd Hj.o);have Hv:=ag (eA hd Hx.o);have S3:=ag (gz.below SW.o hd);have HQ:=ag ((hd.cell (p:=⟨gb,go+j*4+3,none⟩) (cR HE.o)).trans HE.o);clear hM hd k12 q0 q1 q2 p0 p1 p2 h7;go_wp2_with fail;obtain⟨W3,hN⟩:=bH W2.drew;refine eP (fun w'=>gz bb k c tv gv (.slice (some ⟨gb,go,none⟩) n cvv) lg cl w'/\w'.cell? ⟨gb,go+j*4+3,none⟩=some (.slice za zl zc)/\bB (fun _=>True) w' (.slice za zl zc) z.2.con/\bB (fun _=>True) w' (.slice ax xl cx) x) (by kernel_rfl) (by kernel_rfl) ?_
     simp only[bu,bw,ay,bp,Nat.reduceAdd,Nat.reduceSub];rw[<-hN];have hs:Below W2.heap.size W2 W3:=by rw[hN]; exact(ak _ _).drew
     have hu:=ag (aj HN.o hs);have hH:=ag (eA hs Hy.o);have hS:=ag (eA hs Hv.o);have S4:=ag (gz.below S3.o hs);have SM:=ag (show gz bb k c tv gv (.slice (some ⟨gb,go,none⟩) n cvv) lg cl W3/\W3.cell? ⟨gb,go+j*4+3,none⟩=some (.slice za zl zc)/\bB (fun _=>True) W3 (.slice za zl zc) z.2.con/\bB (fun _=>True) W3 (.slice ax xl cx) x from
      ⟨S4.o,(hs.cell (p:=⟨gb,go+j*4+3,none⟩) (cR HQ.o)).trans HQ.o,by
       have h1:=cK (cY HA.o hu.o);rw[HY.o,<-HD.o]at h1
       show bX _ W3 1 _ z.2.con.length (z.2.con.map aZ)
       rw[<-HD.o];exact h1.weak fun _ _=>trivial,by
       have h1:=cK (cY hX.o hu.o)
       show bX _ W3 1 _ x.length (x.map aZ)
       rw[<-hJ.o];exact h1.weak fun _ _=>trivial⟩)
     clear hs hN S3 Hy Hv HQ
     cases cl with
     | true=>
      iterate 6 (refine cF rfl SM.o (by rintro w' ⟨ha,hq,hB,hC⟩; unfold gz at ha; have k12:=ar (k:=12) ha; have k14:=ar (k:=14) ha; have HF:=jH hB; have h4:=jH hC; simp only[tZ,eW,gx,aK,aJ,fV]at k12 k14; clear ha hB hC; go_simp; rfl) ?_; simp only[bM])
      iterate 12 (refine MO rfl SM.o ?_; simp only[bM])
      iterate 3 (refine cF rfl SM.o (by rintro w' ⟨ha,hq,hB,hC⟩; unfold gz at ha; have k12:=ar (k:=12) ha; have k14:=ar (k:=14) ha; have HF:=jH hB; have h4:=jH hC; simp only[tZ,eW,gx,aK,aJ,fV]at k12 k14; clear ha hB hC; go_simp; rfl) ?_; simp only[bM])
      refine cH (by kernel_rfl) ?_;refine eX rfl rfl (fun K hK=> ?_);have ha:=S4.o;unfold gz at ha;have k0:=ar (k:=0) ha;have k1:=ar (k:=1) ha;have k2:=ar (k:=2) ha;have k3:=ar (k:=3) ha;have k4:=ar (k:=4) ha;have k11:=ar (k:=11) ha;have k12:=ar (k:=12) ha;have k14:=ar (k:=14) ha;simp only[tZ,eW,gx,aK,aJ,fV]at k0 k1 k2 k3 k4 k11 k12 k14
      have kz14:=dD (k:=14) ha;clear ha
      go_upto_region 7 with(fail)
      have hh:=kg.clash (HH.o.below hu.o) (true) hbe;have Hc:=ag (show qr k gs (bs,_) x=(bs,true) by rw[h0.o]; by_cases he:z.2.con=x<;> simp[he]);obtain⟨W5,hp⟩:=bH (W3.setCell ⟨bb,14,none⟩ (.bool (true)));have Hh:=ag (show W5.heap[xb]? =some (.cells #[.string rf.name, .int .i64 rf.gen, .int .i64 rf.size] 26 (0,0)) by rw[hp]; exact(az _ _ _ _ (show xb≠bb by omega)).trans hH.o)
      have hD:=ag (show W5.heap[w.heap.size]? =some (.cells #[.string ⟨#[]⟩, .int .i64 0, .int .i64 0] 26 (0,0)) by rw[hp]; exact(az _ _ _ _ (show w.heap.size≠bb by omega)).trans hS.o);rw[<-hp]at hh ⊢;have hT:=ag hh;clear hh hp k0 k1 k2 k3 k4 k11 k12 k14 kz14 SM S4 hH hS;obtain⟨p0,p1,p2,_⟩:=aT Hh.o;obtain⟨z0,z1,z2,_⟩:=aT hD.o;obtain⟨y0,y1,y2,_⟩:=gT hD.o
      go_wp2_with fail;refine Cc hD.o rfl rfl ?_;refine⟨by rw[<-hF.o]; rfl, .slice (some ⟨gb,go,none⟩) n cvv, ?_, ?_⟩
      ·rw[Hc.o];exact hT.o.1.other hD.o (by decide) (by decide) (by decide) (fun i hi _=>eB hi)
      ·exact((((jM.ofBelow hu.o hf).trans hT.o.2).setNew (ah _) hf).setNew (ah _) hf).setNew (ah _) hf
     | false=>
      iterate 21 (refine cF rfl SM.o (by rintro w' ⟨ha,hq,hB,hC⟩; unfold gz at ha; have k12:=ar (k:=12) ha; have k14:=ar (k:=14) ha; have HF:=jH hB; have h4:=jH hC; simp only[tZ,eW,gx,aK,aJ,fV]at k12 k14; clear ha hB hC; go_simp; rfl) ?_; simp only[bM])
      refine cH (by kernel_rfl) ?_;refine eX rfl rfl (fun K hK=> ?_);have ha:=S4.o;unfold gz at ha;have k0:=ar (k:=0) ha;have k1:=ar (k:=1) ha;have k2:=ar (k:=2) ha;have k3:=ar (k:=3) ha;have k4:=ar (k:=4) ha;have k11:=ar (k:=11) ha;have k12:=ar (k:=12) ha;have k14:=ar (k:=14) ha;simp only[tZ,eW,gx,aK,aJ,fV]at k0 k1 k2 k3 k4 k11 k12 k14
      have kz14:=dD (k:=14) ha;clear ha
      go_upto_region 7 with(fail)
      have hh:=kg.clash (HH.o.below hu.o) ((!(z.2.con == x))) hbe;have Hc:=ag (show qr k gs (bs,_) x=(bs,(!(z.2.con == x))) by rw[h0.o]; by_cases he:z.2.con=x<;> simp[he]);obtain⟨W5,hp⟩:=bH (W3.setCell ⟨bb,14,none⟩ (.bool ((!(z.2.con == x)))));have Hh:=ag (show W5.heap[xb]? =some (.cells #[.string rf.name, .int .i64 rf.gen, .int .i64 rf.size] 26 (0,0)) by rw[hp]; exact(az _ _ _ _ (show xb≠bb by omega)).trans hH.o)
      have hD:=ag (show W5.heap[w.heap.size]? =some (.cells #[.string ⟨#[]⟩, .int .i64 0, .int .i64 0] 26 (0,0)) by rw[hp]; exact(az _ _ _ _ (show w.heap.size≠bb by omega)).trans hS.o);rw[<-hp]at hh ⊢;have hT:=ag hh;clear hh hp k0 k1 k2 k3 k4 k11 k12 k14 kz14 SM S4 hH hS;obtain⟨p0,p1,p2,_⟩:=aT Hh.o;obtain⟨z0,z1,z2,_⟩:=aT hD.o;obtain⟨y0,y1,y2,_⟩:=gT hD.o
      go_wp2_with fail;refine Cc hD.o rfl rfl ?_;refine⟨by rw[<-hF.o]; rfl, .slice (some ⟨gb,go,none⟩) n cvv, ?_, ?_⟩
      ·rw[Hc.o];exact hT.o.1.other hD.o (by decide) (by decide) (by decide) (fun i hi _=>eB hi)
      ·exact((((jM.ofBelow hu.o hf).trans hT.o.2).setNew (ah _) hf).setNew (ah _) hf).setNew (ah _) hf
    ·have e1:decide (r=rf)=false:=by simp[hm]
     rw[e1]at h7;have HT:=ag (show ∀b∈bs.take (j+1),¬b.ref=rf by
      rw[dC HC.o];intro b hb
      rcases aP.1 hb with hb | hb
      ·exact Hb.o b hb
      ·rw[aL]at hb; subst hb; rw[<-HR.o]; exact hm)
     clear e1 hm;go_wp2_with fail
     go_quiet (fail)
     obtain⟨W2,hM⟩:=bH (wr.drewN nq);rw[<-hM];have hd:Below wr.heap.size wr W2:=by rw[hM]; exact Ep wr nq
     clear hM;go_wp2_with fail
     go_roundw
     ·exact⟨j+1,by omega,by go_num,HT.o,HB.o.trans (hd.mono HB.o.size)⟩
     simp[intOf]; omega
   ·have H2:j=n:=by omega
    subst H2;have h0:=ag (show qr k gs (bs,cl) x=(bs++[⟨rf,x⟩],cl) by
     unfold qr;rw[<-hF.o];rw[fg.2 (fun y hy=>by
      have:=Hb.o y (by rw[bo (by rw[<-Hk.o,aw,<-hL.o]; exact ah _)]; exact hy)
      simpa using this)])
    have ha:=SW.o;unfold gz at ha;have k0:=ar (k:=0) ha;have k1:=ar (k:=1) ha;have k2:=ar (k:=2) ha;have k3:=ar (k:=3) ha;have k4:=ar (k:=4) ha;have k11:=ar (k:=11) ha;have k12:=ar (k:=12) ha;have k14:=ar (k:=14) ha;simp only[tZ,eW,gx,aK,aJ,fV]at k0 k1 k2 k3 k4 k11 k12 k14;clear ha k0 k1 k2 k3 k4 k11 k14
    go_wp2_with fail;clear k12;obtain⟨W3,hN⟩:=bH wr.drew;refine eP (fun w'=>gz bb k c tv gv (.slice av j cvv) lg cl w'/\w'.heap[xb]? =some (.cells #[.string rf.name, .int .i64 rf.gen, .int .i64 rf.size] 26 (0,0))) (by kernel_rfl) (by kernel_rfl) ?_;simp only[bu,bw,ay,bp,Nat.reduceAdd,Nat.reduceSub]
    rw[<-hN];have hs:Below wr.heap.size wr W3:=by rw[hN]; exact(ak _ _).drew
    have hu:=ag (aj h9.o hs);have hH:=ag (eA hs Hj.o);have hS:=ag (eA hs Hx.o);have S4:=ag (gz.below SW.o hs);have SM:=ag (aB S4.o hH.o);clear hs hN
    iterate 8 (refine cF rfl SM.o (by rintro w' ⟨ha,hA⟩; unfold gz at ha; have k12:=ar (k:=12) ha; have p0:=bD (k:=0) hA; have p1:=bD (k:=1) hA; have p2:=bD (k:=2) hA; simp only[tZ,eW,gx,aK,aJ,fV]at k12 p0 p1 p2; clear ha hA; go_simp; rfl) ?_; simp only[bM])
    refine cA 8 rfl (fun K hK=> ?_);go_wp2_with fail;have Hm:=(ak W3.heap.size W3).alloc (ah _) (.cells #[.string rf.name, .int .i64 rf.gen, .int .i64 rf.size, .slice ax xl cx] 53);have HZ:=ag (aB (gz.below S4.o Hm) (eA Hm hH.o));have He:=ag (HO.o.below hu.o);have HW:=ag (cY hX.o hu.o);clear Hm SM;refine⟨HZ.o, ?_⟩;refine cA 9 rfl (fun K hK=> ?_)
    go_wp2_with (at_builtin; go_must (refine bP Tryz.appBlobs rfl _ _ rfl base (.slice av j cvv) j (iw zs) rfl W3 [.string rf.name, .int .i64 rf.gen, .int .i64 rf.size, .slice ax xl cx] _ rfl rfl (rI (b:=⟨rf,x⟩)) (by have h1:=He.o.row; rw[<-hL.o]at h1; exact h1) (by omega) (an hf hu.o.size) ?_); intro v' wc hw hg _ HJ; obtain⟨ae,ce,rfl,-,-⟩:=aH hw)
    have Ho:=He.o.row;rw[<-hL.o]at Ho;have Hn: ∀(i:Nat) (cs:Array Value) (t:TypeId) (z:Nat×Nat),W3.heap[i]? =some (.cells cs t z)->t≠53->i<W3.heap.size/\some i≠(Value.slice av j cvv).ownBlock:=fun i cs t z hi ht=>⟨am hi,fun e=>by obtain⟨cs2,h4⟩:=bK Ho e.symm;exact ht (bU hi h4)⟩
    have keepC: ∀(i:Nat) (cs:Array Value) (t:TypeId) (z:Nat×Nat),W3.heap[i]? =some (.cells cs t z)->t≠53->wc.heap[i]? =some (.cells cs t z):=fun i cs t z hi ht=>(hg.block i (Hn i cs t z hi ht).1 (fun e=>(Hn i cs t z hi ht).2 e)).trans hi
    have SC:=ag (show gz bb k c tv gv (.slice av j cvv) lg cl wc from keepC _ _ _ _ S4.o (by decide));have Hi:=ag (keepC _ _ _ _ hH.o (by decide));have Hw:=ag (keepC _ _ _ _ hS.o (by decide));have SM:=ag (aB SC.o Hi.o);have hI:=kg.push (c:=c) (k:=k) (tv:=tv) (gv:=gv) (lg:=lg) (cl:=cl) (b:=⟨rf,x⟩) Hk.o He.o S4.o (by have h1:=HW.o; rw[hJ.o]at h1; exact h1) (by rw[<-hL.o]; exact(by rw[<-hJ.o]; exact hw)) hg HJ hbe
    have Hd:=ag hI;have kb:bb<wc.heap.size:=am SC.o;have Hz:=ag ((az wc ⟨bb,12,none⟩ (.slice ae (j+1) ce) xb (show xb≠bb by omega)).trans Hi.o);have hU:=ag ((az wc ⟨bb,12,none⟩ (.slice ae (j+1) ce) w.heap.size (show w.heap.size≠bb by omega)).trans Hw.o);clear hw hg HJ Ho Hn keepC hI;refine⟨SM.o, ?_⟩
    iterate 2 (refine cF rfl SM.o (by rintro w' ⟨ha,hA⟩; unfold gz at ha; have k12:=ar (k:=12) ha; have p0:=bD (k:=0) hA; have p1:=bD (k:=1) hA; have p2:=bD (k:=2) hA; simp only[tZ,eW,gx,aK,aJ,fV]at k12 p0 p1 p2; clear ha hA; go_simp; rfl) ?_; simp only[bM])
    refine cH (by kernel_rfl) ?_;refine eX rfl rfl (fun K hK=> ?_);have ha:=SC.o;unfold gz at ha;have k12:=ar (k:=12) ha;have kz12:=dD (k:=12) ha;simp only[tZ,eW,gx,aK,aJ,fV]at k12;clear ha
    go_upto_region 9 with(fail)
    obtain⟨W5,hp⟩:=bH (wc.setCell ⟨bb,12,none⟩ (.slice ae (j+1) ce));rw[<-hp]at Hd Hz hU ⊢;clear hp k12 kz12 SM SC Hi Hw kb;obtain⟨p0,p1,p2,_⟩:=aT Hz.o;obtain⟨z0,z1,z2,_⟩:=aT hU.o;obtain⟨y0,y1,y2,_⟩:=gT hU.o;go_wp2_with fail;refine Cc hU.o rfl rfl ?_;refine⟨by rw[<-hF.o]; rfl, .slice ae (j+1) ce, ?_, ?_⟩
    ·rw[h0.o];exact Hd.o.1.other hU.o (by decide) (by decide) (by decide) (fun i hi _=>eB hi)
    ·exact((((jM.ofBelow hu.o hf).trans Hd.o.2).setNew (ah _) hf).setNew (ah _) hf).setNew (ah _) hf
theorem kg.otherRow {w w':World} {base bb B sz n:Nat} {k:dq} {c:fQ} {tv gv v r:Value} {lg:Bool} {s:List cQ×Bool} {t:TypeId} {xs:List Value} (h:kg w base bb k c tv gv v lg s) (hr:w.ownsRow B t sz r n xs) (hg:w.grownBy w' r.ownBlock) (h1:t≠130) (h2:t≠53) (h3:t≠5):kg w' base bb k c tv gv v lg s:=by obtain⟨zs,hz,ho,hd⟩:=h.own;refine⟨(hg.block bb (am h.box) (fun e=> ?_)).trans h.box,zs,hz,gX ho hr hg (fun e=>h2 e.symm),fun z hz=>gX (hd z hz) hr hg (fun e=>h3 e.symm)⟩;obtain⟨cs,hc⟩:=bK hr e.symm;exact h1 (bU hc h.box)
theorem jM.otherRow {w0 w w':World} {base bb B sz n:Nat} {v v' r:Value} {t:TypeId} {xs:List Value} (h:jM base bb v v' w0 w) (hr:w.ownsRow B t sz r n xs) (hg:w.grownBy w' r.ownBlock) (hB:w0.heap.size<=B) (hbz:base<=w0.heap.size):jM base bb v v' w0 w':=
 ⟨h.below.grown hg (an hbz h.below.size) (fun i hi=>an (an hbz hB) (hr.lt i hi).1),fun i h1 h2 h3=>(hg.block i (aO h1 h.below.size) (fun e=>by have:=(hr.lt i e.symm).1; omega)).trans (h.same i h1 h2 h3),h.place⟩
structure sw (w : World) (B M : Nat) (iv : Value) (its : List ci) : Prop where
 row: ∃zs:List vh,zs.map Prod.snd=its/\w.ownsRow B 28 10 iv zs.length (qi zs)/\(∀i,iv.ownBlock=some i->i<M)/\ ∀z∈zs,(w.ownsRow B 26 3 z.1 z.2.chunks.length (z.2.chunks.flatMap jt)/\iI z.2/\ ∀r∈z.2.chunks,dZ r)/\ ∀i,z.1.ownBlock=some i->i<M
theorem lN.lt {w:World} {B:Nat} {iv:Value} {its:List ci} (h:lN w B iv its):sw w B w.heap.size iv its:=by obtain⟨zs,h1,h2,h3⟩:=h.row;exact⟨zs,h1,h2,fun i hi=>(h2.lt i hi).2,fun z hz=>⟨h3 z hz,fun i hi=>((h3 z hz).1.lt i hi).2⟩⟩
theorem sw.own {w:World} {B M:Nat} {iv:Value} {its:List ci} (h:sw w B M iv its):lN w B iv its:=by obtain⟨zs,h1,h2,_,h3⟩:=h.row;exact⟨zs,h1,h2,fun z hz=>(h3 z hz).1⟩
theorem sw.same {w w':World} {B M:Nat} {iv:Value} {its:List ci} (h:sw w B M iv its) (hs: ∀i,i<M->w'.heap[i]? =w.heap[i]?):sw w' B M iv its:=by obtain⟨zs,h1,h2,h4,h3⟩:=h.row;exact⟨zs,h1,fj h2 (fun i _ hi=>hs i (h4 i hi)),h4,fun z hz=>⟨⟨fj (h3 z hz).1.1 (fun i _ hi=>hs i ((h3 z hz).2 i hi)),(h3 z hz).1.2⟩,(h3 z hz).2⟩⟩
theorem sw.keep {w w':World} {base bb B M:Nat} {k:dq} {c:fQ} {tv gv v v' iv:Value} {lg:Bool} {s:List cQ×Bool} {its:List ci} (hi:sw w B M iv its) (h:kg w base bb k c tv gv v lg s) (hk:jM base bb v v' w w'):sw w' B M iv its:=by obtain⟨zs,h1,h2,h4,h3⟩:=hi.row;exact⟨zs,h1,jM.row h hk h2 (by decide) (by decide),h4,fun z hz=>⟨⟨jM.row h hk (h3 z hz).1.1 (by decide) (by decide),(h3 z hz).1.2⟩,(h3 z hz).2⟩⟩
structure LV (w : World) (base bb : Nat) (k : dq) (c : fQ) (tv gv v : Value) (lg : Bool) (wr : World) (v2 iv : Value) (s2 : List cQ × Bool) (its : List ci) : Prop where
 bd:kg wr base bb k c tv gv v2 lg s2
 kp:jM base bb v v2 w wr
 its:lN wr w.heap.size iv its
 res:wr.heap[w.heap.size]? =some (.cells #[.string ⟨#[]⟩, .int .i64 0, .int .i64 0] 26 (0,0))
structure zy (w : World) (base bb : Nat) (k : dq) (c : fQ) (tv gv v : Value) (lg : Bool) (M xb : Nat) (wr : World) (v2 iv : Value) (s2 : List cQ × Bool) (its : List ci) (rv : Value) (it : ci) (rs : List bY) : Prop where
 bd:kg wr base bb k c tv gv v2 lg s2
 kp:jM base bb v v2 w wr
 its:sw wr w.heap.size M iv its
 res:wr.heap[w.heap.size]? =some (.cells #[.string ⟨#[]⟩, .int .i64 0, .int .i64 0] 26 (0,0))
 box:wr.heap[xb]? =some (.cells (fu rv it).toArray 28 (0,0))
 row:wr.ownsRow M 26 3 rv rs.length (rs.flatMap jt)
 mark:w.heap.size<M/\M<=xb
section
variable {w wr w' : World} {base bb M xb : Nat} {k : dq} {c : fQ} {tv gv v v2 v3 iv rv : Value} {lg : Bool} {s2 s3 : List cQ × Bool} {its : List ci} {it : ci} {rs : List bY}
theorem LV.step (h:LV w base bb k c tv gv v lg wr v2 iv s2 its) (h1:kg w' base bb k c tv gv v3 lg s3) (h2:jM base bb v2 v3 wr w'):LV w base bb k c tv gv v lg w' v3 iv s3 its:=
 ⟨h1,h.kp.trans h2,(h.its.lt.keep h.bd h2).own,jM.blk h.bd h2 h.res (by decide) (by decide)⟩
theorem LV.below (h:LV w base bb k c tv gv v lg wr v2 iv s2 its) (hb:Below wr.heap.size wr w') (hbz:base<=wr.heap.size):LV w base bb k c tv gv v lg w' v2 iv s2 its:=
 h.step (h.bd.below hb) (jM.ofBelow hb hbz)
theorem zy.step (h:zy w base bb k c tv gv v lg M xb wr v2 iv s2 its rv it rs) (h1:kg w' base bb k c tv gv v3 lg s3) (h2:jM base bb v2 v3 wr w'):zy w base bb k c tv gv v lg M xb w' v3 iv s3 its rv it rs:=
 ⟨h1,h.kp.trans h2,h.its.keep h.bd h2,jM.blk h.bd h2 h.res (by decide) (by decide),jM.blk h.bd h2 h.box (by decide) (by decide),jM.row h.bd h2 h.row (by decide) (by decide),h.mark⟩
theorem zy.below (h:zy w base bb k c tv gv v lg M xb wr v2 iv s2 its rv it rs) (hb:Below wr.heap.size wr w') (hbz:base<=wr.heap.size):zy w base bb k c tv gv v lg M xb w' v2 iv s2 its rv it rs:=
 h.step (h.bd.below hb) (jM.ofBelow hb hbz)
theorem LV.item {W:World} (h:LV w base bb k c tv gv v lg wr v2 iv s2 its) (hb:Below wr.heap.size wr W) (hbx:W.heap[xb]? =some (.cells (fu (.slice none 0 0) it).toArray 28 (0,0))) (hx:wr.heap.size<=xb) (hbz:base<=wr.heap.size):zy w base bb k c tv gv v lg wr.heap.size xb W v2 iv s2 its (.slice none 0 0) it []:=by have h2:=h.below hb hbz;exact⟨h2.bd,h2.kp,h.its.lt.same (fun i hi=>hb.block i hi),h2.res,hbx,bN _ _ _ _,am h.res,hx⟩
theorem zy.set (h:zy w base bb k c tv gv v lg M xb wr v2 iv s2 its rv it rs) {q:Nat} {u:Value} {it':ci} (hc:(fu rv it).toArray.setIfInBounds q u=(fu rv it').toArray) (hbz:base<=w.heap.size):zy w base bb k c tv gv v lg M xb (wr.setCell ⟨xb,q,none⟩ u) v2 iv s2 its rv it' rs:=by
 have hm:=h.mark;have hs: ∀j,j≠xb->(wr.setCell ⟨xb,q,none⟩ u).heap[j]? =wr.heap[j]? :=fun j hj=>az _ _ _ _ hj
 refine⟨h.bd.other h.box (by decide) (by decide) (by decide) (fun j hj _=>hs j hj),h.kp.setNew (by omega) hbz,h.its.same (fun i hi=>hs i (by omega)),(hs _ (by omega)).trans h.res,by rw[<-hc]; exact jb h.box u,fj h.row (fun j hj hu=>hs j (fun e=> ?_)),hm⟩;obtain⟨cs2,ha⟩:=bK h.row hu;exact absurd (bU h.box (e▸ha)) (by decide)
theorem zy.push {wc:World} {rv':Value} {r:bY} (h:zy w base bb k c tv gv v lg M xb wr v2 iv s2 its rv it rs) (hown:wc.ownsRow M 26 3 rv' (rs.length+1) (rs.flatMap jt++jt r)) (hg:wr.grownBy wc rv.ownBlock) (hbz:base<=w.heap.size):zy w base bb k c tv gv v lg M xb (wc.setCell ⟨xb,6,none⟩ rv') v2 iv s2 its rv' it (rs++[r]):=by
 have hm:=h.mark;have hd:=am h.box;have hs: ∀j,j≠xb->(wc.setCell ⟨xb,6,none⟩ rv').heap[j]? =wc.heap[j]? :=fun j hj=>az _ _ _ _ hj
 have ha:wc.heap[xb]? =some (.cells (fu rv it).toArray 28 (0,0)):=(hg.block xb hd (fun e=>by obtain⟨cs2,hb⟩:=bK h.row e.symm;exact absurd (bU h.box hb) (by decide))).trans h.box
 have hc:=h.bd.otherRow h.row hg (by decide) (by decide) (by decide);have hM: ∀i,i<M->(wc.setCell ⟨xb,6,none⟩ rv').heap[i]? =wr.heap[i]? :=fun i hi=>(hs i (by omega)).trans (hg.block i (by omega) (fun e=>by have:=(h.row.lt i e.symm).1; omega))
 refine⟨hc.other ha (by decide) (by decide) (by decide) (fun j hj _=>hs j hj),(h.kp.otherRow h.row hg (by omega) hbz).setNew (by omega) hbz,h.its.same hM,(hM _ hm.1).trans h.res, ?_, ?_,hm⟩
 ·have:=jb (k:=6) ha rv'
  simpa [fu]using this
 ·rw[ai,bV];have h1:wc.ownsRow M 26 3 rv' (rs.length+[r].length) (rs.flatMap jt++[r].flatMap jt):=by simpa using hown
  refine fj h1 (fun j hj hu=>hs j (fun e=> ?_));obtain⟨cs2,hb⟩:=bK h1 hu;exact absurd (bU ha (e▸hb)) (by decide)
theorem zy.done {wd:World} {iv':Value} {zs:List vh} (h:zy w base bb k c tv gv v lg M xb wr v2 iv s2 its rv it it.chunks) (hz:zs.map Prod.snd=its) (hrow:wr.ownsRow w.heap.size 28 10 iv zs.length (qi zs)) (hdat: ∀z∈zs,wr.ownsRow w.heap.size 26 3 z.1 z.2.chunks.length (z.2.chunks.flatMap jt)/\iI z.2/\ ∀r∈z.2.chunks,dZ r)
  (hown:wd.ownsRow w.heap.size 28 10 iv' (zs.length+1) (qi zs++fu rv it)) (hg:wr.grownBy wd iv.ownBlock) (hok:iI it) (hrs: ∀r∈it.chunks,dZ r) (hbz:base<=w.heap.size):LV w base bb k c tv gv v lg wd v2 iv' s2 (its++[it]):=by
 have hm:=h.mark;refine⟨h.bd.otherRow hrow hg (by decide) (by decide) (by decide),h.kp.otherRow hrow hg (ah _) hbz,⟨zs++[(rv,it)],by simp[hz],by rw[ai,bT,Ap]; exact hown,fun z ha=> ?_⟩, ?_⟩
 ·rcases aP.1 ha with ha | ha
  ·exact⟨gX (hdat z ha).1 hrow hg (by decide),(hdat z ha).2⟩
  ·rw[aL]at ha;subst ha;exact⟨gX (gP h.row (by omega)) hrow hg (by decide),hok,hrs⟩
 ·refine(hg.block _ (am h.res) (fun e=> ?_)).trans h.res;obtain⟨cs2,hb⟩:=bK hrow e.symm;exact absurd (bU h.res hb) (by decide)
end
theorem NN {a:Act} {w:World} {b:Nat} {x0 x1 x2:Value} (h:w.heap[b]? =some (.cells #[x0,x1,x2] 26 (0,0)))
  (h4:a.tmps[4]? =some (.pointer (some ⟨b,0,none⟩))):(results Tryz.f76 a.tmps).run Tryz.prog w= .ok (.agg #[x0,x1,x2]) w:=by
 obtain⟨m0,m1,m2,_⟩:=aT h;simp[results,Tryz.results76,go_sem,h4,m0,m1,m2]
theorem NM {a:Act} {w:World} {b:Nat} {a0 a1 a2 x0 x1 x2:Value} {Q:Ending->World->Prop} (h:w.heap[b]? =some (.cells #[a0,a1,a2] 26 (0,0)))
  (h4:a.tmps[4]? =some (.pointer (some ⟨b,0,none⟩))) (hd:a.defers=[])
  (hQ:Q (.returned (.agg #[x0,x1,x2])) (((w.setCell ⟨b,0,none⟩ x0).setCell ⟨b,1,none⟩ x1).setCell ⟨b,2,none⟩ x2)):
  bodyPost Tryz.prog Tryz.f76 Q Exit.ret a (((w.setCell ⟨b,0,none⟩ x0).setCell ⟨b,1,none⟩ x1).setCell ⟨b,2,none⟩ x2):=cS (NN (vK h) h4) hd hQ
theorem CE {k:dq} {c:fQ} {tree:List dk} {gs:List (ByteArray×Int)} {r:bY} {bs:List cQ} {w w':World} {e:Ending} (h:tq (iA k c tree gs) w e w') (hb:iA k c tree gs= .ok (r,bs)) (hr: ∀b∈bs,dZ b.ref):
  Below w.heap.size w w'/\ ∃a cap,e= .returned (.tuple #[eC r, .slice a bs.length cap, .int .i64 0])/\bs.length<=cap/\cap<=maxLen/\mN (fun i=>w.heap.size<=i) w' (.slice a bs.length cap) bs:=by
 rw[hb]at h;obtain⟨h1,v,zs,h2,hc,h4⟩:=h;have h3:zs.map Prod.snd=bs:=hc;have ha:bs.length=zs.length:=by rw[<-h3,aw]
 obtain⟨a,cap,rfl,h5,h6⟩:=aH h4.row;refine⟨h1,a,cap,by rw[ha]; exact h2,by omega,h6,zs,h3, ?_,fun z hz=>⟨bX.weak (cK (h4.dat z hz)) (fun i hi=>hi.1),hr _ (by rw[<-h3]; exact aQ.2 ⟨z,hz,rfl⟩)⟩⟩;rw[ha];exact bX.weak (cK h4.row) (fun i hi=>hi.1)
theorem nU {S:Nat->Prop} {w w':World} {a:Option Addr} {n cap:Nat} {bs:List cQ} (h:mN S w (.slice a n cap) bs) (hb:Below w.heap.size w w') {k:Nat} {b:cQ} (hk:bs[k]? =some b):
  ∃bk o za zc,a=some ⟨bk,o,none⟩/\bk<w.heap.size/\bB S w' (.slice za b.con.length zc) b.con/\w'.cell? ⟨bk,o+k*4,none⟩=some (.string b.ref.name)/\w'.cell? ⟨bk,o+k*4+1,none⟩=some (.int .i64 b.ref.gen)/\w'.cell? ⟨bk,o+k*4+2,none⟩=some (.int .i64 b.ref.size)/\w'.cell? ⟨bk,o+k*4+3,none⟩=some (.slice za b.con.length zc):=by
 obtain⟨zs,h1,h2,h3⟩:=h;rw[<-h1,bm,ft]at hk;obtain⟨z,hz,rfl⟩:=hk;obtain⟨bk,o,rfl,-,ha,hc⟩:=tE h2 hz;have hd:=(h3 z (aM hz)).1;obtain⟨_,za,zc,he,-,-,-⟩:=id hd;have g:=fun i (hi:i<4)=>(hb.cell (p:=⟨bk,o+k*4+i,none⟩) ha).trans (hc i hi)
 have q0:=g 0 (by omega);have q1:=g 1 (by omega);have q2:=g 2 (by omega);have q3:=g 3 (by omega);simp only[nT,aD,cI,dh]at q0 q1 q2 q3;rw[he]at q3;exact⟨bk,o,za,zc,rfl,ha,by rw[<-he]; exact bX.below hd (by omega) hb,q0,q1,q2,q3⟩
def Ow :List Value:=[.string ⟨#[97]⟩, .int .i64 1, .int .i64 0, .int .i64 0, .slice none 0 0, .string ⟨#[]⟩, .string ⟨#[100]⟩, .int .i64 2, .int .i64 0, .int .i64 0, .slice none 0 0, .string ⟨#[]⟩, .string ⟨#[100,47,108]⟩, .int .i64 3, .int .i64 5, .int .i64 6, .slice none 0 0, .string ⟨#[97]⟩]
theorem GJ (S:Nat->Prop) (w:World):em (mu S w) Ow pd:=by
 refine⟨[.string ⟨#[97]⟩, .int .i64 1, .int .i64 0, .int .i64 0, .slice none 0 0, .string ⟨#[]⟩],_,rfl,⟨.slice none 0 0,rfl,eD.nil _ _,⟨by decide,by decide,by decide,by decide,by decide⟩⟩, ?_⟩;refine⟨[.string ⟨#[100]⟩, .int .i64 2, .int .i64 0, .int .i64 0, .slice none 0 0, .string ⟨#[]⟩],_,rfl,⟨.slice none 0 0,rfl,eD.nil _ _,⟨by decide,by decide,by decide,by decide,by decide⟩⟩, ?_⟩
 exact⟨[.string ⟨#[100,47,108]⟩, .int .i64 3, .int .i64 5, .int .i64 6, .slice none 0 0, .string ⟨#[97]⟩],[],rfl,⟨.slice none 0 0,rfl,eD.nil _ _,⟨by decide,by decide,by decide,by decide,by decide⟩⟩,rfl⟩
theorem Fc {S:Nat->Prop} {w:World} {b o n c:Nat} {x:cQ} {bs:List cQ} (h:mN S w (.slice (some ⟨b,o,none⟩) (n+1) c) (x::bs)):mN S w (.slice (some ⟨b,o+4,none⟩) n (c-1)) bs:=by
 obtain⟨zs,h1,h2,h3⟩:=h
 cases zs with
 | nil=>simp at h1
 | cons z zs=>
  simp only[bS,gt]at h1;refine⟨zs,h1.2, ?_,fun y hy=>h3 y (by simp[hy])⟩;obtain⟨h4,a',c',he,h5,h6,h7⟩:=h2;simp only[df,ay]at he;obtain⟨rfl,hn,rfl⟩:=he;have hb:(iw (z::zs)).length=4+(iw zs).length:=by unfold iw; rw[bC,ai]; rfl
  simp only[ay]at h4 h5 h7;refine⟨by omega,some ⟨b,o+4,none⟩,c-1,by rw[show n=zs.length by omega],by omega,by omega, ?_⟩
  rcases h7 with h7 | ⟨b9,o9,ha,hS,hc⟩
  ·omega
  ·cases ha
   refine .inr ⟨b,o+4,rfl,hS,fun j u hj=> ?_⟩;have:=hc (4+j) u (by unfold iw at hj ⊢;rw[bC,bE (by show 4<=_; omega)];rw[show 4+j-(nT z.1 z.2).length=j by show 4+j-4=j; omega];exact hj)
   rwa [<-dp]at this
theorem PN :dZ (bF ew [] [0]):=iC (by simp) (by decide)
theorem PM :dZ ro:=iC (by simp) (by decide)
theorem Je :dZ ns:=iC (by simp) (by decide+kernel)
theorem CB (w:World) (hE:rZ w):Calls Tryz.prog 14 #[] w fun e w'=>e= .returned (.bool true)/\Below w.heap.size w w':=by
 have HE:=ag hE;obtain⟨W0,h8⟩:=bH (w.alloc (.cells #[.int .u8 0] 5));have Hj:Below w.heap.size w W0:=by rw[h8]; exact eT
 have HI:=ag Hj;have HD:bB (fun i=>i=w.heap.size) W0 (.slice (some ⟨w.heap.size,0,none⟩) 1 1) [0]:=wy (cells:=[aZ 0]) (by rw[h8]; exact ez w _) rfl (by decide);have Hb:=uG _ [0] _ W0 HD (hE.below Hj).env;unfold wB at Hb;rw[Qz]at Hb;have Hu:=ag Hb;clear hE Hj HD Hb
 go_enter Tryz.func14,Tryz.ntmps14
 go_wp2_with fail;rw[<-h8];clear h8;refine Hu.o.mono ?_;rintro e w1 ⟨Hx,iv,rfl,HF⟩;obtain⟨ia,ic,rfl,-,-,-⟩:=cU.shape HF lm.len;have HJ:=ag (aj HI.o Hx);clear Hx HF Hu;go_wp2_with fail;refine(tN w1).mono ?_;rintro e w2 ⟨rfl,Hy⟩;have HK:=ag (aj HJ.o Hy);clear Hy;go_wp2_with fail;refine(oI w2).mono ?_;rintro e w3 ⟨rfl,Hz⟩;have Hs:=ag (aj HK.o Hz)
 clear Hz;go_wp2_with fail;refine(ut (fun _=>True) (fun _=>True) ew ka [] [] (.slice none 0 0) (.map none) w3 (by decide) (eR.nil _ _) (.inl ⟨rfl,rfl⟩) (HE.o.below Hs.o)).mono ?_;rintro e w4 hk;obtain⟨HA,a4,c4,rfl,HY,H1,hH⟩:=CE hk Qt (by intro b hb; simp only[aL]at hb; subst hb; exact PN);obtain⟨r,hr⟩:=bH (bF ew [] [0])
 rw[<-hr]at hH ⊢;have HL:=ag (aj Hs.o HA);have Hg:=ag hH;unfold maxLen at H1;simp only[bT]at HY ⊢;clear hk HA hH hr;unfold eC;go_wp2_with fail;obtain⟨W5,h9⟩:=bH ((w4.alloc (.cells #[.string r.name, .int .i64 r.gen, .int .i64 r.size] 26)).drew);have Hk:Below w4.heap.size w4 W5:=by rw[h9]; exact(eT).drew
 have HQ:=ag (show W5.heap[w4.heap.size]? =some (.cells #[.string r.name, .int .i64 r.gen, .int .i64 r.size] 26 (0,0)) by rw[h9]; exact ez w4 _);obtain⟨bk,o,za,zc,rfl,H5,hd,q0,q1,q2,q3⟩:=nU Hg.o Hk (k:=0) (b:=⟨r,[0]⟩) rfl;simp only[bT,jl,dh]at hd q0 q1 q2 q3;have Hn:=jH hd;obtain⟨r0,r1,r2,_⟩:=aT HQ.o
 have HM:=ag (aj HL.o Hk);clear Hk hd;refine bL [some 32] (by kernel_rfl) (by kernel_rfl) (by kernel_rfl) ?_;simp only[ef,aS,aY];rw[<-h9];clear h9
 repeat (first | (refine cy rfl ?_; simp only[bM]) | (refine cP rfl (fun K hK=> ?_); go_simp; refine hK _ ?_; clear hK K))
 refine cO ?_;go_wp2_with fail;obtain⟨W6,Ha⟩:=bH (W5.alloc (.cells Ow.toArray 79));have HB:Below W5.heap.size W5 W6:=by rw[Ha]; exact eT
 have HN:=ag (aj HM.o HB);have HX:=ag (show eR (fun i=>i=W5.heap.size) W6 (.slice (some ⟨W5.heap.size,0,none⟩) 3 3) pd from⟨Ow,wy (by rw[Ha]; exact ez W5 _) rfl (by decide),GJ _ _⟩);have hY:W6=W5.alloc (.cells #[.string ⟨#[97]⟩, .int .i64 1, .int .i64 0, .int .i64 0, .slice none 0 0, .string ⟨#[]⟩, .string ⟨#[100]⟩, .int .i64 2, .int .i64 0, .int .i64 0, .slice none 0 0, .string ⟨#[]⟩, .string ⟨#[100,47,108]⟩, .int .i64 3, .int .i64 5, .int .i64 6, .slice none 0 0, .string ⟨#[97]⟩] 79):=Ha
 rw[<-hY];clear Ha hY HB q0 q1 q2 q3 r0 r1 r2 Hn;refine(tN W6).mono ?_;rintro e w7 ⟨rfl,Hl⟩;have HO:=ag (aj HN.o Hl);have HV:=ag (eR.below HX.o Hl);clear Hl;go_wp2_with fail;refine(oI w7).mono ?_;rintro e w8 ⟨rfl,Hm⟩;have Ht:=ag (aj HO.o Hm);have HW:=ag (eR.below HV.o Hm);clear Hm;go_wp2_with fail;refine(ut _ (fun _=>True) ew ka pd [] _ (.map none) w8 (by decide) HW.o (.inl ⟨rfl,rfl⟩) (HE.o.below Ht.o)).mono ?_
 rintro e w9 hk;obtain⟨HC,a9,c9,rfl,HZ,H2,hZ⟩:=CE hk Qu (by intro b hb; simp only[aU,du,or_false]at hb; rcases hb with rfl | rfl; exact PM; exact Je);have HP:=ag (aj Ht.o HC);have hl:=ag hZ;unfold maxLen at H2;simp only[ay,bp,Nat.reduceAdd]at HZ hl ⊢;clear hk HC hZ
 unfold eC;obtain⟨rt,Hr⟩:=bH ns;have hI:=ag Hr;rw[<-Hr]at hl ⊢;clear Hr
 go_upto_region 7 with(fail)
 obtain⟨hX,hm⟩:=bH (w9.alloc (.cells #[.string rt.name, .int .i64 rt.gen, .int .i64 rt.size] 26));rw[<-hm];have ho:Below w9.heap.size w9 hX:=by rw[hm]; exact eT
 have Hc:=ag (aj HP.o ho);have hS:=ag (show hX.heap[w9.heap.size]? =some (.cells #[.string rt.name, .int .i64 rt.gen, .int .i64 rt.size] 26 (0,0)) by rw[hm]; exact ez w9 _);obtain⟨bb,oo,ya,yc,rfl,H4,hd,q0,q1,q2,q3⟩:=nU hl.o ho (k:=0) (b:=⟨ro,sk⟩) rfl;have Hn:(convert 29 9 (.slice ya 8 yc)).run Tryz.prog hX= .ok (.string ⟨#[1,1,108,3,5,6,1,97]⟩) hX:=jH hd
 replace q3:hX.cell? ⟨bb,oo+0*4+3,none⟩=some (.slice ya 8 yc):=q3
 simp only[jl,dh]at q0 q1 q2 q3;have he:=ag (hl.o.below ho);clear hm ho hd
 go_upto_region 9 with(fail)
 clear q0 q1 q2 q3 Hn;go_wp2_with fail;refine(qb _ _ _ _ (Fc (n:=1) he.o) (by simp)).mono ?_;rintro e w11 ⟨mb,mm,rfl,H3,HH,Ho,hp⟩;have hJ:=ag (aj Hc.o hp);have hz:=ag (show fI (fun _=>True) w11 (.map (some mb)) wX from by rw[hI.o]at Ho;exact .inr ⟨mb,mm,rfl,trivial,HH.is,dO.wide Ho⟩)
 have hC:=ag (eA hp hS.o);have hq:=ag (he.o.below hp);clear hp H3 HH Ho he hS;obtain⟨r0,r1,r2,_⟩:=aT hC.o;go_wp2_with fail;have h7:=ag (show dZ rt by rw[hI.o]; exact Je);have HT:=ag (show vD wX rt= .error 10 by rw[hI.o]; exact Rb);have HU:=ag (show Nf wX rt= .ok [ro] by rw[hI.o]; exact Rf);have HR:=ag (show lq wX rt ⟨#[97]⟩= .ok tL by rw[hI.o]; exact Re)
 have HS:=ag (show lq wX rt ⟨#[100,47,108]⟩= .error 10 by rw[hI.o]; exact QE);refine(DO _ (.map (some mb)) wX rt w11 hz.o (HE.o.below hJ.o).env h7.o).mono ?_;rintro e w12 ⟨hf,h1⟩;rw[HT.o]at h1;obtain⟨rfl,-⟩:=h1;have hL:=ag (aj hJ.o hf);have hA:=ag (hz.o.below hf);have hD:=ag (eA hf hC.o);have hs:=ag (hq.o.below hf)
 clear hf hz hC hq r0 r1 r2;obtain⟨r0,r1,r2,_⟩:=aT hD.o;go_wp2_with fail;refine(zb (by decide) _ (.map (some mb)) rt w12 hA.o (HE.o.below hL.o).env h7.o).mono ?_;rintro e w13 ⟨hg,h4⟩;rw[HU.o]at h4;obtain⟨mv,rfl,Hp⟩:=h4;obtain⟨ma,mc,rfl,-,-,-⟩:=cU.shape Hp pA.len;have Hv:=ag Hp;have hM:=ag (aj hL.o hg);have hB:=ag (hA.o.below hg)
 have hF:=ag (eA hg hD.o);have hu:=ag (hs.o.below hg);clear hg Hp hA hD hs r0 r1 r2;obtain⟨r0,r1,r2,_⟩:=aT hF.o;go_wp2_with fail;refine(sD _ (.map (some mb)) wX rt ⟨#[97]⟩ w13 hB.o (HE.o.below hM.o).env h7.o).mono ?_;rintro e w14 ⟨ha,h2⟩;rw[HR.o]at h2;obtain⟨lv,rfl,HG,-⟩:=h2;have Hd:=ag (aj hM.o ha);have hP:=ag (hB.o.below ha)
 have hT:=ag (eA ha hF.o);have hv:=ag (hu.o.below ha);have hx:=ag (cU.below Hv.o (by omega) ha (fun _ _ _ h=>h));obtain⟨la,lc,rfl,-,-,-⟩:=cU.shape HG pA.len;clear ha HG hB hF hu Hv r0 r1 r2;unfold sC
 go_upto_region 13 with(fail)
 obtain⟨Hi,hn⟩:=bH (w14.alloc (.cells #[.string tL.name, .int .i64 tL.kind, .int .i64 tL.mode, .int .i64 tL.time, .int .i64 tL.size, .string tL.link, .slice la tL.chunks.length lc, .string tL.node.name, .int .i64 tL.node.gen, .int .i64 tL.node.size] 28));rw[<-hn];have hc:Below w14.heap.size w14 Hi:=by rw[hn]; exact eT
 have hV:=ag (show Hi.heap[w14.heap.size]? =some (.cells #[.string tL.name, .int .i64 tL.kind, .int .i64 tL.mode, .int .i64 tL.time, .int .i64 tL.size, .string tL.link, .slice la tL.chunks.length lc, .string tL.node.name, .int .i64 tL.node.gen, .int .i64 tL.node.size] 28 (0,0)) by rw[hn]; exact ez w14 _);have hN:=ag (aj Hd.o hc);have hR:=ag (hP.o.below hc)
 have hU:=ag (eA hc hT.o);have hw:=ag (hv.o.below hc);have hy:=ag (cU.below hx.o (by omega) hc (fun _ _ _ h=>h));clear hc hn hP hT hv hx;obtain⟨r0,r1,r2,_⟩:=aT hU.o;go_wp2_with fail;refine(sD _ (.map (some mb)) wX rt ⟨#[100,47,108]⟩ Hi hR.o (HE.o.below hN.o).env h7.o).mono ?_;rintro e w16 ⟨hh,h3⟩;rw[HS.o]at h3
 obtain⟨rfl,-⟩:=h3;have He:=ag (aj hN.o hh);have Hh:=ag (eA hh hV.o);have hO:=ag (hw.o.below hh);have hW:=ag (cU.below hy.o (by omega) hh (fun _ _ _ h=>h));clear hh hR hU hw hy hV r0 r1 r2
 go_upto_region 14 with(fail)
 obtain⟨Hw,hG⟩:=bH ((w16.alloc (.cells #[.string ⟨#[]⟩, .int .i64 0, .int .i64 0, .int .i64 0, .int .i64 0, .string ⟨#[]⟩, .slice none 0 0, .string ⟨#[]⟩, .int .i64 0, .int .i64 0] 28)).drew);have hj:Below w16.heap.size w16 Hw:=by rw[hG]; exact(eT).drew
 have Hf:=ag (aj He.o hj);have h0:=eA hj Hh.o;have i1:=ar (k:=1) h0;simp only[fV]at i1
 replace i1:Hw.cell? ⟨w14.heap.size,1,none⟩=some (.int .i64 1):=i1
 obtain⟨mb2,mo2,rfl,-,p0,p1,p2⟩:=lY hW.o hj (k:=0) (r:=ro) rfl;obtain⟨rd,Hq⟩:=bH ro;rw[<-Hq]at p0 p1 p2;obtain⟨b9,o9,y9,z9,H0,-,-,q0,q1,q2,-⟩:=nU hO.o hj (k:=0) (b:=⟨ro,sk⟩) rfl
 cases H0
 simp only at q0 q1 q2;rw[<-Hq]at q0 q1 q2;simp only[jl,dh]at p0 p1 p2 q0 q1 q2;clear h0 hj Hq;refine bL [some 35] (by kernel_rfl) (by kernel_rfl) (by kernel_rfl) ?_;simp only[ef,aS,aY];rw[<-hG];clear hG
 repeat (first | (refine cy rfl ?_; simp only[bM]) | (refine cP rfl (fun K hK=> ?_); go_simp; refine hK _ ?_; clear hK K))
 refine cO ?_;go_wp2_with fail;go_ret;exact⟨rfl,Hf.o⟩
end
section
theorem xd : ∀ {l m:List jP} {a b:List UInt8},fJ l= .ok a->fJ m= .ok b->fJ (l++m)= .ok (a++b)
 | [],m,a,b,h1,h2=>by
  simp only[fJ,dj]at h1;subst h1
  simpa using h2
 | y::l,m,a,b,h1,h2=>by
  rw[fJ]at h1
  cases hy:lM y with
  | error e=>rw[hy]at h1; simp at h1
  | ok c=>
   rw[hy]at h1;simp only at h1
   cases hk:fJ l with
   | error e=>rw[hk]at h1; simp at h1
   | ok d=>
    rw[hk]at h1;simp only[dj]at h1;subst h1;simp only[aK,fJ,hy,xd hk h2,bg]
theorem iW {x:jP} {l:List jP} {a b:List UInt8} (h1:lM x= .ok a) (h2:fJ l= .ok b):fJ (x::l)= .ok (a++b):=by simp only[fJ,h1,h2]
theorem qS {α:Type} {f:α->List jP} {g:α->List UInt8} : ∀ {l:List α},(∀x∈l,fJ (f x)= .ok (g x))->fJ (l.flatMap f)= .ok (l.flatMap g)
 | [],_=>rfl
 | x::l,h=>by rw[bC,bC];exact xd (h x (by simp)) (qS (fun y hy=>h y (by simp[hy])))
theorem qR {n:Int} (h0:0<=n) (h1:n<18446744073709551616):lM (jd n)= .ok (bG n.toNat):=by unfold lM jd;rw[if_pos rfl,show n%18446744073709551616=n by omega]
theorem zU (s:ByteArray):lM (ox s)= .ok (bG s.size++bl s):=by simp[lM,ox]
theorem MD {s:ByteArray} (h:s.size=32):lM (GH s)= .ok (bl s):=by simp[lM,GH,h]
theorem wZ (n:Nat):lM (jZ n)= .ok (bG n):=by
 have h: ¬((n:Int)<0):=by omega
 have e:lM (jZ n)=if(n:Int)<0 then .error 1 else .ok (bG (n:Int).toNat):=rfl
 rw[e,if_neg h,fx]
theorem xe {r:bY} (h:lj r=true):fJ (eQ r)= .ok (fK r):=by
 obtain⟨h1,h2,h3,h4,h5⟩:=mZ.1 h;have:=iW (MD h1) (iW (qR h2 (by omega)) (iW (qR h4 (by omega)) (show fJ []= .ok []from rfl)))
 simpa [eQ,fK]using this
theorem Db {it:ci} (hv:jA it=true) (ht:it.time<9223372036854775808):fJ (gA it)= .ok (gL it):=by
 have ha:=hv;unfold jA at ha;rw[aE]at ha;have hh:=qW.1 ha.1;have hk:=rJ ha.2;have hb:fJ (if it.kind=1 then jZ it.chunks.length::it.chunks.flatMap eQ else if it.kind=2 then eQ it.node else [ox it.link])= .ok (lB it):=by
  unfold lB
  rcases hk with hk | hk | hk
  ·rw[if_pos hk,if_pos hk];exact iW (wZ _) (qS (fun r hr=>xe ((nK hk ha.2).2.2.1 r hr).1))
  ·rw[if_neg (by omega),if_pos hk,if_neg (by omega),if_pos hk];exact xe (tF hk ha.2).2.2.2
  ·rw[if_neg (by omega),if_neg (by omega),if_neg (by omega),if_neg (by omega)];have:=iW (zU it.link) (show fJ []= .ok []from rfl)
   simpa using this
 have:=iW (zU it.name) (iW (qR (n:=it.kind) (by omega) (by omega)) (iW (qR (n:=it.mode) hh.md0 (by have:=hh.md1; omega)) (iW (qR (n:=it.time) hh.tm0 (by omega)) hb)));unfold gA gL
 simpa using this
theorem Nl {l:List ci} (hv:jL l=true) (ht: ∀it∈l,it.time<9223372036854775808) (hs:(gC l).length<=1048576):tV l=gC l:=by
 have h:fJ (iM l)= .ok (gC l):=by unfold iM gC;exact iW (wZ _) (qS (fun it ha=>Db ((pS hv).2 it ha) (ht it ha)))
 unfold tV yU;rw[h];simp only;rw[if_neg (by omega)]
open Go.RowKit
theorem xM :eL.name.size=0:=rfl
theorem EP {it:ci} (hv:jA it=true):LQ it/\kX it=true:=by unfold jA at hv;rw[aE]at hv;exact⟨qW.1 hv.1,hv.2⟩
theorem FI {it:ci} (hv:jA it=true):vZ it:=by
 obtain⟨hh,hb⟩:=EP hv;have hn:=tH hh.val hh.nos;rw[<-bi]at hn;have he:(⟨#[]⟩:ByteArray).size=0:=rfl
 rcases rJ hb with hk | hk | hk
 ·obtain⟨h1,h2,h3,-,-⟩:=nK hk hb;exact⟨by omega,by rw[h1,he]; omega,by rw[h2,xM]; omega,fun c hc=>by have:=(mZ.1 (h3 c hc).1).1; omega⟩
 ·obtain⟨h1,-,h3,h4⟩:=tF hk hb;exact⟨by omega,by rw[h1,he]; omega,by have:=(mZ.1 h4).1; omega,fun c hc=>by rw[h3]at hc; cases hc⟩
 ·obtain⟨-,h2,h3,h4,h5,-⟩:=ur hk hb;exact⟨by omega,by omega,by rw[h3,xM]; omega,fun c hc=>by rw[h2]at hc; cases hc⟩
section
variable {k : dq} {gs : List (ByteArray × Int)} {c : fQ} {tree : List dk}
theorem xF {d:ByteArray} {j:Nat} {e:dk} (h:tree[j]? =some e):dB (tree.take (j+1)) d=dB (tree.take j) d++(if cu (bl e.path)=bl d then [e]else []):=by
 rw[dC h];unfold dB;rw[fM]
 congr 1
 by_cases hp:cu (bl e.path)=bl d<;> simp[hp]
theorem Kl {d:ByteArray} {g:dk->List (List UInt8)} {j:Nat} {e:dk} (h:tree[j]? =some e) (hp:cu (bl e.path)=bl d):((dB (tree.take j) d).flatMap g).length+(g e).length<=((dB tree d).flatMap g).length:=by
 have h1:=xF (d:=d) h;rw[if_pos hp]at h1;have h2:dB tree d=dB (tree.take (j+1)) d++dB (tree.drop (j+1)) d:=by unfold dB;rw[<-fM,dA]
 rw[h2,h1,bV,bV,ai,ai];simp
theorem rS (cs:List (List UInt8)) (s:List cQ×Bool):(io k gs cs s).1.length<=s.1.length+cs.length:=by rw[vG]; exact pB k gs cs s.1
theorem qs (a b:List (List UInt8)) (s:List cQ×Bool):io k gs (a++b) s=io k gs b (io k gs a s):=by unfold io; rw[dW]
theorem Gg {cs:List (List UInt8)} {s:List cQ×Bool} {j:Nat} {x:List UInt8} (h:cs[j]? =some x):io k gs (cs.take (j+1)) s=qr k gs (io k gs (cs.take j) s) x:=by rw[dC h,qs]; rfl
theorem Kg {d:ByteArray} {e:dk} {nd:bY} (h:ij e=true):(dg k gs c d e nd).size=(e.data.length:Int):=by
 show(if e.kind=1 then(e.data.length:Int)else 0)=_
 rcases xj h with⟨h1,_⟩ | ⟨h1,h2,_⟩ | ⟨h1,h2,_⟩
 ·rw[if_pos h1]
 ·rw[if_neg (by omega),h2]; rfl
 ·rw[if_neg (by omega),h2]; rfl
theorem Ke {it:ci} (hc:it.chunks.length<=60):(gA it).length<=250:=by
 have hf:(it.chunks.flatMap eQ).length=3*it.chunks.length:=by
  induction it.chunks with
  | nil=>rfl
  | cons r l ih=>rw[bC,ai,ih,ay]; simp[eQ]; omega
 unfold gA;rw[ai]
 split
 ·simp[hf]; omega
 ·split<;> simp[eQ]
theorem DY {l:List ci} (hl:l.length<=12) (hc: ∀it∈l,it.chunks.length<=60):(iM l).length<=10000:=by
 have: ∀ {l:List ci},(∀it∈l,it.chunks.length<=60)->(l.flatMap gA).length<=250*l.length:=by
  intro l
  induction l with
  | nil=>intro _; simp
  | cons x l ih=>
   intro h;have h1:=Ke (h x (by simp));have h2:=ih (fun y hy=>h y (by simp[hy]));rw[bC,ai,ay];omega
 have h:=this hc;unfold iM;rw[ay];omega
theorem FK (hc:jT c=true) (hs:kE tree) (f:Nat) (d:ByteArray):(nj k gs c tree f d).length<=12/\ ∀it∈nj k gs c tree f d,it.chunks.length<=60:=by
 unfold nj;refine⟨?_,fun it ha=> ?_⟩
 ·rw[aw];exact an (dI _ _) hs.len
 ·obtain⟨e,he,rfl⟩:=aQ.1 ha
  show(if e.kind=1 then(gK c e.data).map (bF k gs)else []).length<=60
  split
  ·rw[aw];exact an (wl hc _) (hs.data e (dY.1 he).1)
  ·simp
theorem Kh (hg:kC gs) (hc:jT c=true) (h:un tree) (hs:kE tree) (f:Nat) (d:ByteArray):jL (nj k gs c tree f d)=true:=
 sU h hc hg d (fun e=>bF k gs (dS k gs c tree f e.path).1) (fun e _ _=>om hg (mW hg hc h hs f e.path))
theorem MZ {d:ByteArray} {e:dk} (h:ij e=true) (hp:cu (bl e.path)=bl d):xK (bl e.path)=⟨(mV (bl d) (bl e.path)).toArray⟩:=Kn (oP (dm h) hp)
end
open Go.RowKit Go.Maps
def kH :List dk->ByteArray->Nat->Int
 | [],_,_=> -1
 | e::L,p,i=>if e.path=p then(i:Int)else kH L p (i+1)
theorem Dg {L:List dk} {p:ByteArray} {k:Nat} {e:dk} (h:L[k]? =some e):kH (L.drop k) p k=if e.path=p then(k:Int)else kH (L.drop (k+1)) p (k+1):=by obtain⟨hk,he⟩:=aA.1 h;rw[cD hk,kH,he]
theorem vw {p:ByteArray} : ∀(L:List dk) (i:Nat),(jJ L p=none/\kH L p i= -1)\/ ∃j e,jJ L p=some e/\L[j]? =some e/\kH L p i=((i+j:Nat):Int)
 | [],i=> .inl ⟨rfl,rfl⟩
 | e::L,i=>by
  by_cases h:e.path=p
  ·right
   refine⟨0,e, ?_,rfl, ?_⟩
   ·unfold jJ; rw[List.find?_cons_of_pos (by simp[h])]
   ·rw[kH,if_pos h]; simp
  ·have hf:jJ (e::L) p=jJ L p:=by unfold jJ; rw[List.find?_cons_of_neg (by simp[h])]
   rw[kH,if_neg h,hf]
   rcases vw L (i+1)with h1 | ⟨j,f,h1,h2,h3⟩
   ·exact .inl h1
   ·exact .inr ⟨j+1,f,h1,by simpa using h2,by rw[h3]; congr 1; omega⟩
theorem Gi (S:Nat->Prop) (L:List dk) (v:Value) (p:ByteArray) (w:World) (hv:eR S w v L):
  Calls Tryz.prog 131 #[v, .string p] w fun e w'=>e= .returned (.int .i64 (kH L p 0))/\Below w.heap.size w w':=by
 have HV:=ag hv;obtain⟨a,cap,rfl,hc,hm,-⟩:=cU.shape hv mu.len;obtain⟨n,hn⟩:=bH L.length;have HN:=ag hn;rw[<-hn]at HV hc ⊢;unfold maxLen at hm;clear hv hn
 go_enter Tryz.func131,Tryz.ntmps131
 go_wp2_with fail
 go_loopw [5,9] (fun _ i wr=> ∃k:Nat,k<=n/\i= .int .i64 k/\kH L p 0=kH (L.drop k) p k/\Below w.heap.size w wr) (fun _ i _=>n-(intOf i).toNat)
 ·exact⟨0,aR _,rfl,rfl,ak _ _⟩
 ·obtain⟨k,hk,rfl,hh,ha⟩:=hrel;have hg:=ag hh;have hf:=ag ha
  by_cases hl:k<n
  ·obtain⟨e,he⟩: ∃e,L[k]? =some e:=⟨L[k]'(by rw[<-HN.o]; exact hl),by simp⟩;obtain⟨b,o,dv,rfl,-,hb,hd,-,-,q0,q1,q2,q3,q4,q5⟩:=jN (HV.o.below ha) he;obtain⟨_,ad,cd,rfl,ho,hq,-⟩:=hd;have hj:=ag (Dg (p:=p) he);clear he hh ha
   by_cases hp:e.path=p
   ·have e1:(e.path.toList == p.toList)=true:=by rw[hp]; simp
    have HR:=ag (show kH L p 0=(k:Int) by rw[hg.o,hj.o,if_pos hp]);clear hp;go_wp2_with fail;go_ret;exact⟨dK HR.o.symm,aj hf.o (eT)⟩
   ·have e1:(e.path.toList == p.toList)=false:=by rw[ir]; intro h; exact hp (kF (by rw[<-fF,<-fF]; exact h))
    have HR:=ag (show kH L p 0=kH (L.drop (k+1)) p (k+1) by rw[hg.o,hj.o,if_neg hp]);clear hp;go_wp2_with fail
    go_roundw
    ·exact⟨k+1,by omega,by go_num,HR.o,aj hf.o (eT)⟩
    simp[intOf]; omega
  ·have HR:=ag (show kH L p 0= -1 by rw[hg.o,fq (by rw[<-HN.o]; omega)]; rfl);clear hh ha;go_wp2_with fail;go_ret;exact⟨dK HR.o.symm,hf.o⟩
theorem GF {S:Nat->Prop} {w:World} {a:Option Addr} {n c:Nat} {xs:List ByteArray} (h:lP S w (.slice a n c) xs):lP S w (.slice a (n-1) c) xs.dropLast:=by
 obtain⟨hl,a',cap,he,hn,hm,h0⟩:=h;simp only[df]at he;obtain⟨rfl,rfl,rfl⟩:=he;refine⟨by simp,a,c,by rw[fZ],by rw[fZ]; omega,hm, ?_⟩
 rcases h0 with h0 | ⟨b,o,ha,hb,hc⟩
 ·left; rw[fZ]; omega
 ·right
  refine⟨b,o,ha,hb,fun j u hj=>hc j u ?_⟩;rw[bm,List.getElem?_dropLast]at hj;rw[bm]
  split at hj
  ·exact hj
  ·simp at hj
theorem yf (s:ByteArray) (w:World) (hs:s.size<=65000):
  Calls Tryz.prog 92 #[.string s] w fun e w'=>e= .returned (.string ⟨(cu (bl s)).toArray⟩)/\Below w.heap.size w w':=by
 go_enter Tryz.func92,Tryz.ntmps92
 go_wp2_with (go_at_call 87; refine(nG s _ (by omega)).mono ?_; rintro e w1 ⟨v,xs,rfl,hx,hv,hb⟩; have HX:=ag hx; have HB:=ag hb; obtain⟨a,c,rfl,hc,hm,-⟩:=hv.shape; have HV:=ag hv; have ha:1<=xs.length:=(by rw[<-aw (f:=bl),hx]; exact ov 47 _); have hd:xs.length<=65001:=(by rw[<-aw (f:=bl),hx]; have:=pu 47 (bl s); rw[<-bi]at this; omega); clear hx hv hb; unfold maxLen at hm)
 refine(En xs.dropLast _ _ w1 (GF HV.o) (by rw[fZ]; omega) (fun x hx=> ?_)).mono ?_
 ·have h1:bl x∈dd 47 (bl s):=by rw[<-HX.o]; exact aQ.2 ⟨x,List.dropLast_subset _ hx,rfl⟩
  have h2:=tQ 47 (bl s) _ h1;rw[<-bi,<-bi]at h2;omega
 ·rintro e w2 ⟨rfl,rfl⟩;go_wp2_with fail;go_ret;refine⟨?_,HB.o⟩;unfold cu;rw[<-HX.o,<-List.map_dropLast]
  rfl
theorem uO (S:Nat->Prop) (L:List dk) (v:Value) (p:ByteArray) (x:Int) (w:World) (hv:eR S w v L) (hx:kH L p 0=x):
  Calls Tryz.prog 131 #[v, .string p] w fun e w'=>e= .returned (.int .i64 x)/\Below w.heap.size w w':=by
 rw[<-hx]; exact Gi S L v p w hv
theorem wm (L:List dk) (p:ByteArray):mD L (bl p)=if bl p=[]then 0 else match jJ L p with
 | none=>4
 | some e=>if e.kind=2 then 0 else 13:=by
 unfold mD;rw[tS]
 cases jJ L p<;> rfl
theorem KP (S:Nat->Prop) (L:List dk) (v:Value) (p:ByteArray) (w:World) (hv:eR S w v L):
  Calls Tryz.prog 91 #[v, .string p] w fun e w'=>e= .returned (.int .i64 (mD L (bl p)))/\Below w.heap.size w w':=by
 have HV:=ag hv
 by_cases h0:bl p=[]
 ·have e1:p.toList.isEmpty=true:=by rw[oJ,de h0]
  have HR:=ag (show mD L (bl p)=0 by rw[wm,if_pos h0]);clear h0 hv
  go_enter Tryz.func91,Tryz.ntmps91
  go_wp2_with fail;go_ret;exact⟨dK HR.o.symm,ak _ _⟩
 ·have e1:p.toList.isEmpty=false:=by rw[oJ,cE h0]
  rcases vw (p:=p) L 0 with⟨h1,h2⟩ | ⟨j,f,h1,h2,h3⟩
  ·have HR:=ag (show mD L (bl p)=4 by rw[wm,if_neg h0,h1]);have HI:=ag h2;clear h0 h1 h2 hv
   go_enter Tryz.func91,Tryz.ntmps91
   go_wp2_with (go_at_call 131; refine(uO S L v p (-1) _ HV.o HI.o).mono ?_; rintro e w1 ⟨rfl,ha⟩; have hd:=ag ha; clear ha);go_ret;exact⟨dK HR.o.symm,hd.o⟩
  ·have HI:=ag (show kH L p 0=(j:Int) by rw[h3]; simp);obtain⟨a,cap,rfl,hc,hm,-⟩:=cU.shape hv mu.len;have he:j<L.length:=(aA.1 h2).1;obtain⟨n,hn⟩:=bH L.length;rw[<-hn]at HV hc he ⊢;obtain⟨b,o,dv,rfl,-,hb,-,-,-,q0,q1,q2,q3,q4,q5⟩:=jN HV.o h2;unfold maxLen at hm
   by_cases hk:f.kind=2
   ·have HR:=ag (show mD L (bl p)=0 by rw[wm,if_neg h0,h1]; simp only[if_pos hk]);have e2:(f.kind != 2)=false:=by simp[hk]
    clear h0 h1 h2 h3 hv hk hn q0 q2 q3 q4 q5
    go_enter Tryz.func91,Tryz.ntmps91
    go_wp2_with (go_at_call 131; refine(uO S L _ p j _ HV.o HI.o).mono ?_; rintro e w1 ⟨rfl,ha⟩; have q9:=(ha.cell (cR q1)).trans q1; have hd:=ag ha; clear ha);go_ret;exact⟨dK HR.o.symm,hd.o⟩
   ·have HR:=ag (show mD L (bl p)=13 by rw[wm,if_neg h0,h1]; simp only[if_neg hk]);have e2:(f.kind != 2)=true:=by simp[hk]
    clear h0 h1 h2 h3 hv hk hn q0 q2 q3 q4 q5
    go_enter Tryz.func91,Tryz.ntmps91
    go_wp2_with (go_at_call 131; refine(uO S L _ p j _ HV.o HI.o).mono ?_; rintro e w1 ⟨rfl,ha⟩; have q9:=(ha.cell (cR q1)).trans q1; have hd:=ag ha; clear ha);go_ret;exact⟨dK HR.o.symm,hd.o⟩
theorem iy (s:ByteArray) (b:Bool) (w:World) (hs:s.size<=16777216) (h:dH (bl s)=b):Calls Tryz.prog 86 #[.string s] w fun e w'=>e= .returned (.bool b)/\Below w.heap.size w w':=by rw[<-h]; exact Eo s w hs
theorem xN {l:List UInt8} :l.contains 0=false<-> ∀k:Nat,∀b,l[k]? =some b->b≠0:=by
 rw[fw,ne_eq,List.contains_iff_mem,List.mem_iff_getElem?]
 constructor
 ·intro h k b hb e; subst e; exact h ⟨k,hb⟩
 ·rintro h ⟨k,hk⟩; exact h k 0 hk rfl
theorem EQ {en:dk} (h:(en.kind=1\/en.kind=2\/en.kind=3)/\en.data.length<=1048576/\(en.kind=1\/en.data.length=0)) (hz:(bl en.link).contains 0=false):kY en=((decide (en.kind=3) == decide (en.link.size≠0)) && decide (en.link.size<=512)):=by
 obtain⟨h1,h2,h3⟩:=h;unfold kY pw;rw[hz,<-bi]
 rcases h1 with h1 | h1 | h1
 ·rw[if_pos h1,de h2,h1]
  by_cases hs:en.link.size=0
  ·simp[hs]
  ·simp[hs]
 ·have h4:en.data.length=0:=h3.resolve_left (by omega);rw[if_neg (by omega),if_pos h1,de h4,h1]
  by_cases hs:en.link.size=0
  ·simp[hs]
  ·simp[hs]
 ·have h4:en.data.length=0:=h3.resolve_left (by omega);rw[if_neg (by omega),if_neg (by omega),if_pos h1,de h4,h1]
  by_cases hs:en.link.size=0
  ·simp[hs]
  ·rw[de (by omega:1<=en.link.size)];simp[hs]
theorem Cd (S:Nat->Prop) (en:dk) (v:Value) (w:World) (hd:eD S w v en.data) (hok:nu en) (hps:en.path.size<=16777216):Calls Tryz.prog 89 #[JW v en] w fun e w'=>e= .returned (.bool (ij en))/\Below w.heap.size w w':=by
 obtain⟨a,cap,rfl,hc,hm⟩:=hd.slice;unfold maxLen at hm;have hl:=ag hps;have hL:=hok.lnk;unfold maxLen at hL;clear hok;unfold JW
 cases hv:dH (bl en.path)
 ·have HV:=ag hv;have HF:=ag (show ij en=false by unfold ij; rw[hv]; rfl);clear hv
  go_enter gS,gH
  go_wp2_with fail;obtain⟨W,hW⟩:=bH (w.alloc (.cells #[.string en.path, .int .i64 en.kind, .int .i64 en.mode, .int .i64 en.time, .slice a en.data.length cap, .string en.link] 79));rw[<-hW];have hh:=ag (show Below w.heap.size w W by rw[hW]; exact eT);have he:=ag (show W.heap[w.heap.size]? =some (.cells #[.string en.path, .int .i64 en.kind, .int .i64 en.mode, .int .i64 en.time, .slice a en.data.length cap, .string en.link] 79 (0,0)) by rw[hW]; exact ez w _)
  clear hW;refine(iy en.path false _ hl.o HV.o).mono ?_;rintro e w1 ⟨rfl,ha⟩;have hf:=ag (aj hh.o ha);clear ha;go_wp2_with fail;go_ret;exact⟨cj (by rw[HF.o]),hf.o⟩
 have HV:=ag hv
 by_cases h1:en.mode<0
 ·have e1:decide (en.mode<0)=true:=by simp[h1]
  have HF:=ag (show ij en=false by unfold ij oy; rw[cE (by omega: ¬0<=en.mode)]; simp);clear hv
  go_enter gS,gH
  go_wp2_with fail;obtain⟨W,hW⟩:=bH (w.alloc (.cells #[.string en.path, .int .i64 en.kind, .int .i64 en.mode, .int .i64 en.time, .slice a en.data.length cap, .string en.link] 79));rw[<-hW];have hh:=ag (show Below w.heap.size w W by rw[hW]; exact eT);have he:=ag (show W.heap[w.heap.size]? =some (.cells #[.string en.path, .int .i64 en.kind, .int .i64 en.mode, .int .i64 en.time, .slice a en.data.length cap, .string en.link] 79 (0,0)) by rw[hW]; exact ez w _)
  clear hW;refine(iy en.path true _ hl.o HV.o).mono ?_;rintro e w1 ⟨rfl,ha⟩;have hf:=ag (aj hh.o ha);have hg:=ag ((ha.block w.heap.size (ml he.o)).trans he.o);clear ha;obtain⟨c0,c1,c2,c3,c4,c5,_⟩:=aT hg.o;go_wp2_with fail;go_ret;exact⟨cj (by rw[HF.o]),hf.o⟩
 have e1:decide (en.mode<0)=false:=by simp[h1]
 by_cases h2:511<en.mode
 ·have e2:decide (511<en.mode)=true:=by simp[h2]
  have HF:=ag (show ij en=false by unfold ij oy; rw[cE (by omega: ¬en.mode<=511)]; simp);clear hv
  go_enter gS,gH
  go_wp2_with fail;obtain⟨W,hW⟩:=bH (w.alloc (.cells #[.string en.path, .int .i64 en.kind, .int .i64 en.mode, .int .i64 en.time, .slice a en.data.length cap, .string en.link] 79));rw[<-hW];have hh:=ag (show Below w.heap.size w W by rw[hW]; exact eT);have he:=ag (show W.heap[w.heap.size]? =some (.cells #[.string en.path, .int .i64 en.kind, .int .i64 en.mode, .int .i64 en.time, .slice a en.data.length cap, .string en.link] 79 (0,0)) by rw[hW]; exact ez w _)
  clear hW;refine(iy en.path true _ hl.o HV.o).mono ?_;rintro e w1 ⟨rfl,ha⟩;have hf:=ag (aj hh.o ha);have hg:=ag ((ha.block w.heap.size (ml he.o)).trans he.o);clear ha;obtain⟨c0,c1,c2,c3,c4,c5,_⟩:=aT hg.o;go_wp2_with fail;go_ret;exact⟨cj (by rw[HF.o]),hf.o⟩
 have e2:decide (511<en.mode)=false:=by simp[h2]
 by_cases h3:en.time<0
 ·have e3:decide (en.time<0)=true:=by simp[h3]
  have HF:=ag (show ij en=false by unfold ij oy; rw[cE (by omega: ¬0<=en.time)]; simp);clear hv
  go_enter gS,gH
  go_wp2_with fail;obtain⟨W,hW⟩:=bH (w.alloc (.cells #[.string en.path, .int .i64 en.kind, .int .i64 en.mode, .int .i64 en.time, .slice a en.data.length cap, .string en.link] 79));rw[<-hW];have hh:=ag (show Below w.heap.size w W by rw[hW]; exact eT);have he:=ag (show W.heap[w.heap.size]? =some (.cells #[.string en.path, .int .i64 en.kind, .int .i64 en.mode, .int .i64 en.time, .slice a en.data.length cap, .string en.link] 79 (0,0)) by rw[hW]; exact ez w _)
  clear hW;refine(iy en.path true _ hl.o HV.o).mono ?_;rintro e w1 ⟨rfl,ha⟩;have hf:=ag (aj hh.o ha);have hg:=ag ((ha.block w.heap.size (ml he.o)).trans he.o);clear ha;obtain⟨c0,c1,c2,c3,c4,c5,_⟩:=aT hg.o;go_wp2_with fail;go_ret;exact⟨cj (by rw[HF.o]),hf.o⟩
 have e3:decide (en.time<0)=false:=by simp[h3]
 by_cases h4:en.kind<1
 ·have e4:decide (en.kind<1)=true:=by simp[h4]
  have HF:=ag (show ij en=false by unfold ij kY; rw[if_neg (by omega),if_neg (by omega),if_neg (by omega)]; simp);clear hv
  go_enter gS,gH
  go_wp2_with fail;obtain⟨W,hW⟩:=bH (w.alloc (.cells #[.string en.path, .int .i64 en.kind, .int .i64 en.mode, .int .i64 en.time, .slice a en.data.length cap, .string en.link] 79));rw[<-hW];have hh:=ag (show Below w.heap.size w W by rw[hW]; exact eT);have he:=ag (show W.heap[w.heap.size]? =some (.cells #[.string en.path, .int .i64 en.kind, .int .i64 en.mode, .int .i64 en.time, .slice a en.data.length cap, .string en.link] 79 (0,0)) by rw[hW]; exact ez w _)
  clear hW;refine(iy en.path true _ hl.o HV.o).mono ?_;rintro e w1 ⟨rfl,ha⟩;have hf:=ag (aj hh.o ha);have hg:=ag ((ha.block w.heap.size (ml he.o)).trans he.o);clear ha;obtain⟨c0,c1,c2,c3,c4,c5,_⟩:=aT hg.o;go_wp2_with fail;go_ret;exact⟨cj (by rw[HF.o]),hf.o⟩
 have e4:decide (en.kind<1)=false:=by simp[h4]
 by_cases h5:3<en.kind
 ·have e5:decide (3<en.kind)=true:=by simp[h5]
  have HF:=ag (show ij en=false by unfold ij kY; rw[if_neg (by omega),if_neg (by omega),if_neg (by omega)]; simp);clear hv
  go_enter gS,gH
  go_wp2_with fail;obtain⟨W,hW⟩:=bH (w.alloc (.cells #[.string en.path, .int .i64 en.kind, .int .i64 en.mode, .int .i64 en.time, .slice a en.data.length cap, .string en.link] 79));rw[<-hW];have hh:=ag (show Below w.heap.size w W by rw[hW]; exact eT);have he:=ag (show W.heap[w.heap.size]? =some (.cells #[.string en.path, .int .i64 en.kind, .int .i64 en.mode, .int .i64 en.time, .slice a en.data.length cap, .string en.link] 79 (0,0)) by rw[hW]; exact ez w _)
  clear hW;refine(iy en.path true _ hl.o HV.o).mono ?_;rintro e w1 ⟨rfl,ha⟩;have hf:=ag (aj hh.o ha);have hg:=ag ((ha.block w.heap.size (ml he.o)).trans he.o);clear ha;obtain⟨c0,c1,c2,c3,c4,c5,_⟩:=aT hg.o;go_wp2_with fail;go_ret;exact⟨cj (by rw[HF.o]),hf.o⟩
 have e5:decide (3<en.kind)=false:=by simp[h5]
 have hu:=ag (show ij en=kY en by unfold ij oy;rw[hv,de (by omega:0<=en.mode),de (by omega:en.mode<=511),de (by omega:0<=en.time)]; simp)
 by_cases h6:en.kind≠1/\0<en.data.length
 ·have e6:(en.kind != 1)=true:=by simp[h6.1]
  have e7:decide (0<en.data.length)=true:=by simp[h6.2]
  have e8:0<en.data.length:=h6.2;have HF:=ag (show ij en=false by rw[hu.o]; unfold kY; rw[if_neg h6.1,cE (by omega: ¬en.data.length=0)]; simp)
  clear hv h6
  go_enter gS,gH
  go_wp2_with fail;obtain⟨W,hW⟩:=bH (w.alloc (.cells #[.string en.path, .int .i64 en.kind, .int .i64 en.mode, .int .i64 en.time, .slice a en.data.length cap, .string en.link] 79));rw[<-hW];have hh:=ag (show Below w.heap.size w W by rw[hW]; exact eT);have he:=ag (show W.heap[w.heap.size]? =some (.cells #[.string en.path, .int .i64 en.kind, .int .i64 en.mode, .int .i64 en.time, .slice a en.data.length cap, .string en.link] 79 (0,0)) by rw[hW]; exact ez w _)
  clear hW;refine(iy en.path true _ hl.o HV.o).mono ?_;rintro e w1 ⟨rfl,ha⟩;have hf:=ag (aj hh.o ha);have hg:=ag ((ha.block w.heap.size (ml he.o)).trans he.o);clear ha;obtain⟨c0,c1,c2,c3,c4,c5,_⟩:=aT hg.o;go_wp2_with fail;go_ret;exact⟨cj (by rw[HF.o]),hf.o⟩
 by_cases h7:1048576<en.data.length
 ·have hn:en.kind=1:=by
   by_cases hk:en.kind=1
   ·exact hk
   ·exact absurd ⟨hk,by omega⟩ h6
  have e6:(en.kind != 1)=false:=by simp[hn]
  have e7:decide (1048576<en.data.length)=true:=by simp[h7]
  have HF:=ag (show ij en=false by rw[hu.o]; unfold kY; rw[if_pos hn,cE (by omega: ¬en.data.length<=1048576)]; simp)
  clear hv h6 hn
  go_enter gS,gH
  go_wp2_with fail;obtain⟨W,hW⟩:=bH (w.alloc (.cells #[.string en.path, .int .i64 en.kind, .int .i64 en.mode, .int .i64 en.time, .slice a en.data.length cap, .string en.link] 79));rw[<-hW];have hh:=ag (show Below w.heap.size w W by rw[hW]; exact eT);have he:=ag (show W.heap[w.heap.size]? =some (.cells #[.string en.path, .int .i64 en.kind, .int .i64 en.mode, .int .i64 en.time, .slice a en.data.length cap, .string en.link] 79 (0,0)) by rw[hW]; exact ez w _)
  clear hW;refine(iy en.path true _ hl.o HV.o).mono ?_;rintro e w1 ⟨rfl,ha⟩;have hf:=ag (aj hh.o ha);have hg:=ag ((ha.block w.heap.size (ml he.o)).trans he.o);clear ha;obtain⟨c0,c1,c2,c3,c4,c5,_⟩:=aT hg.o;go_wp2_with fail;go_ret;exact⟨cj (by rw[HF.o]),hf.o⟩
 have e7:decide (1048576<en.data.length)=false:=by simp; omega
 have hJ:=ag (show(en.kind=1\/en.kind=2\/en.kind=3)/\en.data.length<=1048576/\(en.kind=1\/en.data.length=0)from⟨by omega,by omega,by
  by_cases hk:en.kind=1
  ·exact .inl hk
  ·exact .inr (by rcases eI en.data.length with h | h; exact h; exact absurd ⟨hk,h⟩ h6)⟩)
 clear hv
 by_cases hn:en.kind=1
 ·have e6:(en.kind != 1)=false:=by simp[hn]
  clear h6 hn
  go_enter gS,gH
  go_wp2_with fail;obtain⟨W,hW⟩:=bH (w.alloc (.cells #[.string en.path, .int .i64 en.kind, .int .i64 en.mode, .int .i64 en.time, .slice a en.data.length cap, .string en.link] 79));rw[<-hW];have hh:=ag (show Below w.heap.size w W by rw[hW]; exact eT);have he:=ag (show W.heap[w.heap.size]? =some (.cells #[.string en.path, .int .i64 en.kind, .int .i64 en.mode, .int .i64 en.time, .slice a en.data.length cap, .string en.link] 79 (0,0)) by rw[hW]; exact ez w _)
  clear hW;refine(iy en.path true _ hl.o HV.o).mono ?_;rintro e w1 ⟨rfl,ha⟩;have hf:=ag (aj hh.o ha);have hg:=ag ((ha.block w.heap.size (ml he.o)).trans he.o);clear ha;obtain⟨c0,c1,c2,c3,c4,c5,_⟩:=aT hg.o;go_wp2_with fail
  go_loopw [3] (fun i wr=> ∃k:Nat,k<=en.link.size/\i= .int .i64 k/\(∀j b,j<k->(bl en.link)[j]? =some b->b≠0)/\Below w1.heap.size w1 wr) (fun i _=>en.link.size-(intOf i).toNat)
  ·exact⟨0,aR _,rfl,fun _ _ h=>absurd h (Nat.not_lt_zero _),ak _ _⟩
  ·obtain⟨k,hk,rfl,hz,hs⟩:=hrel;have HZ:=ag hz;have ho:=ag hs;have hE:=ag ((hs.block w.heap.size (ml hg.o)).trans hg.o);clear hz hs c0 c1 c2 c3 c4 c5;obtain⟨c0,c1,c2,c3,c4,c5,_⟩:=aT hE.o
   by_cases hlt:k<en.link.size
   ·have hw:=ag (show(bl en.link)[k]? =some en.link[k] by rw[bn (by rw[<-bi]; exact hlt)]; rfl)
    by_cases h0:(en.link[k]'hlt).toNat=0
    ·have HF:=ag (show ij en=false by
      rw[hu.o];unfold kY;have hI: ¬en.link.size=0:=by omega
      have hF:(bl en.link).contains 0=true:=by have h9:en.link[k]'hlt=0:=gw.1 h0;have:=hw.o;rw[h9]at this;exact List.contains_iff_mem.2 (aM this)
      rw[cE hI];unfold pw;rw[hF]
      simp)
     go_wp2_with fail;go_ret;exact⟨cj (by rw[HF.o]),aj hf.o ho.o⟩
    ·have hB:=ag h0;go_wp2_with fail
     go_roundw
     ·refine⟨k+1,by omega,by go_num,fun j b hj hb e=> ?_,ho.o⟩
      by_cases hG:j=k
      ·subst hG;rw[hw.o]at hb;have:=bt hb;subst this;exact hB.o (by rw[e]; rfl)
      ·exact HZ.o j b (by omega) hb e
     simp[intOf]; omega
   ·have hH:k=en.link.size:=by omega
    have hA:=ag (show(bl en.link).contains 0=false from xN.2 (fun j b hj e=>by have h1:=(aA.1 hj).1;exact HZ.o j b (by rw[hH,bi]; exact h1) hj e))
    have hD:=ag (EQ hJ.o hA.o);have hy:=ag (show en.link.toList.isEmpty= !decide (en.link.size≠0) by rw[oJ]; by_cases h:en.link.size=0<;> simp[h,rU.1,<-rU]);obtain⟨b3,hp⟩: ∃b,decide (en.kind=3)=b:=⟨_,rfl⟩;obtain⟨be,hr⟩: ∃b,decide (en.link.size≠0)=b:=⟨_,rfl⟩;obtain⟨b5,hq⟩: ∃b,decide (en.link.size<=512)=b:=⟨_,rfl⟩;have f3:(en.kind == 3)=b3:=by rw[<-hp]; rfl
    have fe:=hy.o;rw[hr]at fe;have hC:=ag (show ij en=((b3 == be) && b5) by rw[hu.o,hD.o,hp,hr,hq]);have hx:=ag hq;clear hr hlt hk hp hq
    cases b3<;> cases be<;> simp only[Bool.not_true,Bool.not_false]at fe<;> (go_wp2_with fail)<;> (go_ret)<;> exact⟨cj (by rw[hC.o,<-hx.o]; simp[show(((en.link.size:Nat):Int)<=512<->en.link.size<=512)from by omega]),aj hf.o ho.o⟩
 ·have e6:(en.kind != 1)=true:=by simp[hn]
  have e8:decide (0<en.data.length)=false:=by rw[fm]; exact fun h=>h6 ⟨hn,h⟩
  clear h6 hn
  go_enter gS,gH
  go_wp2_with fail;obtain⟨W,hW⟩:=bH (w.alloc (.cells #[.string en.path, .int .i64 en.kind, .int .i64 en.mode, .int .i64 en.time, .slice a en.data.length cap, .string en.link] 79));rw[<-hW];have hh:=ag (show Below w.heap.size w W by rw[hW]; exact eT);have he:=ag (show W.heap[w.heap.size]? =some (.cells #[.string en.path, .int .i64 en.kind, .int .i64 en.mode, .int .i64 en.time, .slice a en.data.length cap, .string en.link] 79 (0,0)) by rw[hW]; exact ez w _)
  clear hW;refine(iy en.path true _ hl.o HV.o).mono ?_;rintro e w1 ⟨rfl,ha⟩;have hf:=ag (aj hh.o ha);have hg:=ag ((ha.block w.heap.size (ml he.o)).trans he.o);clear ha;obtain⟨c0,c1,c2,c3,c4,c5,_⟩:=aT hg.o;go_wp2_with fail
  go_loopw [3] (fun i wr=> ∃k:Nat,k<=en.link.size/\i= .int .i64 k/\(∀j b,j<k->(bl en.link)[j]? =some b->b≠0)/\Below w1.heap.size w1 wr) (fun i _=>en.link.size-(intOf i).toNat)
  ·exact⟨0,aR _,rfl,fun _ _ h=>absurd h (Nat.not_lt_zero _),ak _ _⟩
  ·obtain⟨k,hk,rfl,hz,hs⟩:=hrel;have HZ:=ag hz;have ho:=ag hs;have hE:=ag ((hs.block w.heap.size (ml hg.o)).trans hg.o);clear hz hs c0 c1 c2 c3 c4 c5;obtain⟨c0,c1,c2,c3,c4,c5,_⟩:=aT hE.o
   by_cases hlt:k<en.link.size
   ·have hw:=ag (show(bl en.link)[k]? =some en.link[k] by rw[bn (by rw[<-bi]; exact hlt)]; rfl)
    by_cases h0:(en.link[k]'hlt).toNat=0
    ·have HF:=ag (show ij en=false by
      rw[hu.o];unfold kY;have hI: ¬en.link.size=0:=by omega
      have hF:(bl en.link).contains 0=true:=by have h9:en.link[k]'hlt=0:=gw.1 h0;have:=hw.o;rw[h9]at this;exact List.contains_iff_mem.2 (aM this)
      rw[cE hI];unfold pw;rw[hF]
      simp)
     go_wp2_with fail;go_ret;exact⟨cj (by rw[HF.o]),aj hf.o ho.o⟩
    ·have hB:=ag h0;go_wp2_with fail
     go_roundw
     ·refine⟨k+1,by omega,by go_num,fun j b hj hb e=> ?_,ho.o⟩
      by_cases hG:j=k
      ·subst hG;rw[hw.o]at hb;have:=bt hb;subst this;exact hB.o (by rw[e]; rfl)
      ·exact HZ.o j b (by omega) hb e
     simp[intOf]; omega
   ·have hH:k=en.link.size:=by omega
    have hA:=ag (show(bl en.link).contains 0=false from xN.2 (fun j b hj e=>by have h1:=(aA.1 hj).1;exact HZ.o j b (by rw[hH,bi]; exact h1) hj e))
    have hD:=ag (EQ hJ.o hA.o);have hy:=ag (show en.link.toList.isEmpty= !decide (en.link.size≠0) by rw[oJ]; by_cases h:en.link.size=0<;> simp[h,rU.1,<-rU]);obtain⟨b3,hp⟩: ∃b,decide (en.kind=3)=b:=⟨_,rfl⟩;obtain⟨be,hr⟩: ∃b,decide (en.link.size≠0)=b:=⟨_,rfl⟩;obtain⟨b5,hq⟩: ∃b,decide (en.link.size<=512)=b:=⟨_,rfl⟩;have f3:(en.kind == 3)=b3:=by rw[<-hp]; rfl
    have fe:=hy.o;rw[hr]at fe;have hC:=ag (show ij en=((b3 == be) && b5) by rw[hu.o,hD.o,hp,hr,hq]);have hx:=ag hq;clear hr hlt hk hp hq
    cases b3<;> cases be<;> simp only[Bool.not_true,Bool.not_false]at fe<;> (go_wp2_with fail)<;> (go_ret)<;> exact⟨cj (by rw[hC.o,<-hx.o]; simp[show(((en.link.size:Nat):Int)<=512<->en.link.size<=512)from by omega]),aj hf.o ho.o⟩
end
section
open Go.RowKit
theorem ol (c:Int) (w:World) (h0:0<=c) (h1:c<=255):Calls Tryz.prog 130 #[.int .u8 c] w fun e w'=>e= .returned (.int .i64 (ny c))/\w=w':=by
 by_cases h:c=47
 ·subst h
  go_enter Tryz.func130,Tryz.ntmps130
  go_wp2
  go_ret;exact⟨rfl,rfl⟩
 ·have hr:ny c=c:=if_neg h;have HR:=ag hr;clear hr;have h2:(c == 47)=false:=by simpa using h
  go_enter Tryz.func130,Tryz.ntmps130
  go_wp2
  go_ret;exact⟨dK HR.o.symm,rfl⟩
theorem zk (a b:ByteArray) (w:World) (ha:a.size<=65536):
  Calls Tryz.prog 90 #[.string a, .string b] w fun e w'=>e= .returned (.int .i64 (fA (bl a) (bl b)))/\Below w.heap.size w w':=by
 go_enter Tryz.func90,Tryz.ntmps90
 go_wp2_with fail
 go_loopw [5] (fun i wr=> ∃k:Nat,k<=a.size/\k<=b.size/\i= .int .i64 k/\Below w.heap.size w wr/\fA (bl a) (bl b)=fA ((bl a).drop k) ((bl b).drop k)) (fun i _=>a.size-(intOf i).toNat)
 ·exact⟨0,aR _,aR _,rfl,ak _ _,rfl⟩
 ·obtain⟨k,hu,hv,rfl,ho,hc⟩:=hrel;have HC:=ag hc;have HB:=ag ho;clear hc ho
  by_cases hp:k<a.size
  ·by_cases hl:k<b.size
   ·have i1:(k:Int)<(a.size:Int):=by omega
    have i2:(k:Int)<(b.size:Int):=by omega
    have hd:k<(bl a).length:=by rw[<-bi]; exact hp
    have he:k<(bl b).length:=by rw[<-bi]; exact hl
    have hw:=(a[k]).toNat_lt;have hx:=(b[k]).toNat_lt;have hq:iB (bl a)[k]=ny (a[k].toNat:Int):=by rw[tY]; exact congrArg iB (kQ a k hp).symm
    have hr:iB (bl b)[k]=ny (b[k].toNat:Int):=by rw[tY]; exact congrArg iB (kQ b k hl).symm
    have hg:=ag hq;have hh:=ag hr;clear hq hr
    rcases Int.lt_trichotomy (ny (a[k].toNat:Int)) (ny (b[k].toNat:Int))with hf | hf | hf
    ·have hb:=ag hf;go_wp2_with fail
     go_quiet ((go_at_call 130; refine lh (ol _ _ (by omega) (by omega))))
     go_wp2_with fail;go_ret;refine⟨dK ?_,gk HB.o _⟩;have hn:(bl a)[k]≠(bl b)[k]:=by intro e; have:=hb.o; rw[<-hg.o,<-hh.o,e]at this; omega
     rw[HC.o,wT hd he hn,hg.o,hh.o,Lib.compareInt,if_pos hb.o]
    ·have e1: ¬ny (a[k].toNat:Int)<ny (b[k].toNat:Int):=by omega
     have e2: ¬ny (b[k].toNat:Int)<ny (a[k].toNat:Int):=by omega
     have hb:=ag hf;clear hf;go_wp2_with fail
     go_quiet ((go_at_call 130; refine lh (ol _ _ (by omega) (by omega))))
     go_wp2_with fail;have hW: ∃W,W=wr.drewN nq/\Below w.heap.size w W:=⟨_,rfl,gk HB.o nq⟩;obtain⟨W,hk,hj⟩:=hW;rw[<-hk];have hm:=ag hj;clear hk hj HB
     go_quiet ((go_at_call 130; refine lh (ol _ _ (by omega) (by omega))))
     go_wp2_with fail
     go_roundw
     ·refine⟨k+1,by omega,by omega,by go_num,gk hm.o _, ?_⟩;rw[HC.o];exact CP hd he (mH (hg.o.trans (hb.o.trans hh.o.symm)))
     simp[intOf]; omega
    ·have e1: ¬ny (a[k].toNat:Int)<ny (b[k].toNat:Int):=by omega
     have hb:=ag hf;go_wp2_with fail
     go_quiet ((go_at_call 130; refine lh (ol _ _ (by omega) (by omega))))
     go_wp2_with fail;have hW: ∃W,W=wr.drewN nq/\Below w.heap.size w W:=⟨_,rfl,gk HB.o nq⟩;obtain⟨W,hk,hj⟩:=hW;rw[<-hk];have hm:=ag hj;clear hk hj HB
     go_quiet ((go_at_call 130; refine lh (ol _ _ (by omega) (by omega))))
     go_wp2_with fail;go_ret;refine⟨dK ?_,gk hm.o _⟩;have hn:(bl a)[k]≠(bl b)[k]:=by intro e; have:=hb.o; rw[<-hg.o,<-hh.o,e]at this; omega
     rw[HC.o,wT hd he hn,hg.o,hh.o,Lib.compareInt,if_neg (by have:=hb.o; omega),if_pos hb.o]
   ·obtain rfl:k=b.size:=by omega
    have i2:decide ((b.size:Int)<(b.size:Int))=false:=by simp
    have i3:(b.size:Int)<(a.size:Int):=by omega
    go_wp2_with fail;go_ret;refine⟨dK ?_,HB.o⟩;rw[HC.o,wj (by rw[<-bi]; omega) (by rw[<-bi]; exact ah _) (.inr (by rw[<-bi])),<-bi,<-bi,Lib.compareInt,if_neg (by omega),if_pos (by omega)]
  ·obtain rfl:k=a.size:=by omega
   rcases dN a.size b.size with hl | hl
   ·have i3:(a.size:Int)<(b.size:Int):=by omega
    go_wp2_with fail;go_ret;refine⟨dK ?_,HB.o⟩;rw[HC.o,wj (by rw[<-bi]; exact ah _) (by rw[<-bi]; omega) (.inl (by rw[<-bi])),<-bi,<-bi,Lib.compareInt,if_pos (by omega)]
   ·obtain heq:a.size=b.size:=by omega
    have hs:=ag heq;have i3: ¬(a.size:Int)<(b.size:Int):=by omega
    have i4: ¬(b.size:Int)<(a.size:Int):=by omega
    clear heq;go_wp2_with fail;go_ret;refine⟨dK ?_,HB.o⟩;rw[HC.o,wj (by rw[<-bi]; exact ah _) (by rw[<-bi]; omega) (.inl (by rw[<-bi])),<-bi,<-bi,Lib.compareInt,if_neg (by omega),if_neg (by omega)]
open Go.RowKit Go.Maps
theorem em.take {α:Type} {R:List Value->α->Prop} {sz:Nat} (hs: ∀c x,R c x->c.length=sz): ∀ {xs:List α} {cells:List Value} (k:Nat),em R cells xs->k<=xs.length->em R (cells.take (k*sz)) (xs.take k)
 | _,_,0,_,_=>by simp[em]
 | [],_,k+1,_,h=>by simp at h
 | x::xs,cells,k+1,⟨c,rest,hc,hx,hr⟩,h=>by
  subst hc;have hl:=hs c x hx;refine⟨c,rest.take (k*sz), ?_,hx,em.take hs k hr (by simpa using h)⟩;rw[List.take_append,hl,bo (by rw[hl,Nat.succ_mul]; omega),Nat.succ_mul]
  congr 2; omega
theorem cU.takeN {α:Type} {S:Nat->Prop} {w:World} {sz:Nat} {R:List Value->α->Prop} {a:Option Addr} {n cap:Nat} {xs:List α} (hs: ∀c x,R c x->c.length=sz) (h:cU S w sz R (.slice a n cap) xs) {k:Nat} (hk:k<=xs.length):cU S w sz R (.slice a k cap) (xs.take k):=by
 obtain⟨cells,⟨hl,a',cap',hv,hn,hm,h0⟩,hr⟩:=h
 cases hv
 have hd:(xs.take k).length=k:=by rw[aW]; omega
 refine⟨cells.take (k*sz),⟨?_,a,cap,by rw[hd],by omega,hm, ?_⟩,em.take hs k hr hk⟩
 ·rw[aW,hl,hd];exact fC (dl _ hk)
 ·rcases h0 with h0 | ⟨b,o,ha,hb,hc⟩
  ·exact .inl (by omega)
  ·refine .inr ⟨b,o,ha,hb,fun j u hj=>hc j u ?_⟩;rw[eF]at hj
   split at hj
   ·exact hj
   ·cases hj
theorem oY (S:Nat->Prop) (en:dk) (v:Value) (b:Bool) (w:World) (hd:eD S w v en.data) (hok:nu en) (hps:en.path.size<=16777216) (h:ij en=b):Calls Tryz.prog 89 #[JW v en] w fun e w'=>e= .returned (.bool b)/\Below w.heap.size w w':=by rw[<-h]; exact Cd S en v w hd hok hps
theorem vH (a b:ByteArray) (o:Int) (w:World) (ha:a.size<=65536) (h:fA (bl a) (bl b)=o):Calls Tryz.prog 90 #[.string a, .string b] w fun e w'=>e= .returned (.int .i64 o)/\Below w.heap.size w w':=by rw[<-h]; exact zk a b w ha
theorem oX (s q:ByteArray) (w:World) (hs:s.size<=65000) (hq:q=⟨(cu (bl s)).toArray⟩):Calls Tryz.prog 92 #[.string s] w fun e w'=>e= .returned (.string q)/\Below w.heap.size w w':=by rw[hq]; exact yf s w hs
theorem El (S:Nat->Prop) (L:List dk) (v:Value) (p:ByteArray) (x:Int) (w:World) (hv:eR S w v L) (hx:mD L (bl p)=x):Calls Tryz.prog 91 #[v, .string p] w fun e w'=>e= .returned (.int .i64 x)/\Below w.heap.size w w':=by rw[<-hx]; exact KP S L v p w hv
theorem Bj {e:dk} (h:ij e=true):e.path.size<=65000:=by have:=mM (dm h);rw[bi]; omega
theorem Ek (S:Nat->Prop) (L:List dk) (v:Value) (w:World) (hv:eR S w v L) (hps: ∀e∈L,e.path.size<=16777216):Calls Tryz.prog 31 #[v] w fun e w'=>e= .returned (.int .i64 (iJ L))/\Below w.heap.size w w':=by
 have HV:=ag hv;obtain⟨a,cap,rfl,hc,hm,-⟩:=cU.shape hv mu.len;unfold maxLen at hm;obtain⟨n,hn⟩:=bH L.length;have HN:=ag hn;rw[<-hn]at hc HV ⊢;clear hv
 by_cases hA:4096<n
 ·have Hf:(4096:Int)<(n:Int):=by omega
  have HC:=ag (zK (by rw[<-hn]; exact hA));clear hA hn
  go_enter Tryz.func31,Tryz.ntmps31
  go_wp2_with fail;go_ret;exact⟨dK (by rw[HC.o]),ak _ _⟩
 ·have Hf:(n:Int)<=(4096:Int):=by omega
  have hF:=ag (show L.length<=4096 by omega);have Hd:=ag hps;clear hA hn hps
  go_enter Tryz.func31,Tryz.ntmps31
  go_wp2_with fail
  go_loopw [11] (fun i wr=> ∃k:Nat,k<=n/\i= .int .i64 k/\Tr (L.take k)/\Below w.heap.size w wr) (fun i _=>n-(intOf i).toNat)
  ·exact⟨0,aR _,rfl,⟨fy,by simp,by simp⟩,ak _ _⟩
  ·obtain⟨k,hk,rfl,Hc,h9⟩:=hrel;have hr:=ag Hc;have hj:=ag h9;clear Hc h9
   by_cases Hk:k<n
   ·obtain⟨e,he⟩: ∃e,L[k]? =some e:=⟨L[k]'(by rw[<-HN.o]; exact Hk),by simp⟩;obtain⟨b,o,dv,rfl,-,hb,hd,Hb,-,q0,q1,q2,q3,q4,q5⟩:=jN (HV.o.below hj.o) he;have hB:=ag he;have HD:=ag hd;have hJ:=ag Hb;have hL:=ag (Hd.o e (aM he));obtain⟨a1,cap1,rfl,Hl,Hg⟩:=hd.slice;unfold maxLen at Hg;have Ho:k<=cap:=by omega
    have h4:=ag (show k<=L.length by rw[<-HN.o]; omega);clear he hd Hb
    cases hD:ij e
    ·have hw:=ag hD;have ho:=ag (show gm (L.take k) e=1 by unfold gm; rw[hD]; rfl);clear hD;go_wp2_with fail;refine bL [some 1,none,some 13,none,some 3] (by kernel_rfl) (by kernel_rfl) (by kernel_rfl) ?_;simp only[ef,aS,aY,bA,bQ];obtain⟨W,hW⟩:=bH ((wr.alloc (.cells #[.string e.path, .int .i64 e.kind, .int .i64 e.mode, .int .i64 e.time, .slice a1 e.data.length cap1, .string e.link] 79)).drew)
     rw[<-hW];have ha:=ag (show Below wr.heap.size wr W by rw[hW]; exact(eT).drew);have HX:=ag (show W.heap[wr.heap.size]? =some (.cells #[.string e.path, .int .i64 e.kind, .int .i64 e.mode, .int .i64 e.time, .slice a1 e.data.length cap1, .string e.link] 79 (0,0)) by rw[hW]; exact ez wr _);have hO:=ag (aj hj.o ha.o);clear hW;obtain⟨c0,c1,c2,c3,c4,c5,_⟩:=aT HX.o
     repeat (first | (refine cy rfl ?_; simp only[bM]) | (refine cP rfl (fun K hK=> ?_); go_simp; refine hK _ ?_; clear hK K))
     refine cO ?_;refine eE rfl (fun K hK=> ?_);go_wp2_with (go_at_call 89; refine(oY S e (.slice a1 e.data.length cap1) false _ (HD.o.below ha.o) hJ.o hL.o hw.o).mono ?_; rintro e7 w7 ⟨rfl,hh⟩; have hl:=ag (ha.o.trans (hh.mono ha.o.size)); have hs:=ag ((hh.block wr.heap.size (ml HX.o)).trans HX.o); clear hh c0 c1 c2 c3 c4 c5)
     repeat (first | (refine cy rfl ?_; simp only[bM]) | (refine cP rfl (fun K hK=> ?_); go_simp; refine hK _ ?_; clear hK K))
     refine cO ?_;refine wI rfl ?_;simp only[bM]
     repeat (first | (refine cy rfl ?_; simp only[bM]) | (refine cP rfl (fun K hK=> ?_); go_simp; refine hK _ ?_; clear hK K))
     refine cO ?_;have hN:=ag (aj hj.o hl.o);go_wp2_with fail;go_ret;exact⟨dK (by rw[jG hF.o hr.o hB.o (x:=1) ho.o (by decide)]),hN.o⟩
    ·have hw:=ag hD;have h8:=ag (show e.path.size<=65000 from Bj hD);obtain⟨q,hq⟩: ∃q:ByteArray,q=⟨(cu (bl e.path)).toArray⟩:=⟨_,rfl⟩;have h3:=ag (show bl q=cu (bl e.path) by rw[hq]; exact jQ _);have HQ:=ag hq;clear hD hq
     rcases eI k with hM | hM
     ·have e9:decide (0<k)=false:=by simp; omega
      have e8:(k:Int)<=0:=by omega
      have hP:=ag (show(ij e && nP (L.take k) e)=true by rw[hM,hw.o]; rfl);clear hM;obtain⟨x,hx⟩: ∃x,mD (L.take k) (bl q)=x:=⟨_,rfl⟩;have hR:=ag hx;have ho:=ag (show gm (L.take k) e=x by unfold gm; rw[if_pos hP.o,<-h3.o,hx]);clear hx;go_wp2_with fail;refine bL [some 1,none,some 13,none,some 3] (by kernel_rfl) (by kernel_rfl) (by kernel_rfl) ?_
      simp only[ef,aS,aY,bA,bQ];obtain⟨W,hW⟩:=bH ((wr.alloc (.cells #[.string e.path, .int .i64 e.kind, .int .i64 e.mode, .int .i64 e.time, .slice a1 e.data.length cap1, .string e.link] 79)).drew);rw[<-hW];have ha:=ag (show Below wr.heap.size wr W by rw[hW]; exact(eT).drew);have HX:=ag (show W.heap[wr.heap.size]? =some (.cells #[.string e.path, .int .i64 e.kind, .int .i64 e.mode, .int .i64 e.time, .slice a1 e.data.length cap1, .string e.link] 79 (0,0)) by rw[hW]; exact ez wr _)
      have hO:=ag (aj hj.o ha.o);clear hW;obtain⟨c0,c1,c2,c3,c4,c5,_⟩:=aT HX.o
      repeat (first | (refine cy rfl ?_; simp only[bM]) | (refine cP rfl (fun K hK=> ?_); go_simp; refine hK _ ?_; clear hK K))
      refine cO ?_;refine eE rfl (fun K hK=> ?_);go_wp2_with (go_at_call 89; refine(oY S e (.slice a1 e.data.length cap1) true _ (HD.o.below ha.o) hJ.o hL.o hw.o).mono ?_; rintro e7 w7 ⟨rfl,hh⟩; have hl:=ag (ha.o.trans (hh.mono ha.o.size)); have hs:=ag ((hh.block wr.heap.size (ml HX.o)).trans HX.o); clear hh c0 c1 c2 c3 c4 c5)
      repeat (first | (refine cy rfl ?_; simp only[bM]) | (refine cP rfl (fun K hK=> ?_); go_simp; refine hK _ ?_; clear hK K))
      refine cO ?_;refine wI rfl ?_;simp only[bM]
      repeat (first | (refine cy rfl ?_; simp only[bM]) | (refine cP rfl (fun K hK=> ?_); go_simp; refine hK _ ?_; clear hK K))
      refine cO ?_;go_wp2_with fail;refine eV (fun w'=>w'.cell? ⟨wr.heap.size,0,none⟩=some (.string e.path)) (by kernel_rfl) ?_;obtain⟨V,hV⟩:=bH ((w7).drew);rw[<-hV];have hG:=ag (show Below wr.heap.size wr V by rw[hV]; exact hl.o.trans ((ak (w7).heap.size (w7)).drew.mono hl.o.size));have hY:=ag (show V.heap[wr.heap.size]? =some (.cells #[.string e.path, .int .i64 e.kind, .int .i64 e.mode, .int .i64 e.time, .slice a1 e.data.length cap1, .string e.link] 79 (0,0)) by rw[hV]; exact hs.o)
      clear hV;have hg:=ar (k:=0) hY.o;simp only[aF,aD]at hg
      iterate 5 (refine cF rfl hg (by intro w' h1; go_simp; rfl) ?_; simp only[bM])
      refine cA 5 rfl (fun K hK=> ?_);go_wp2_with (go_at_call 92; refine(oX e.path q _ h8.o HQ.o).mono ?_; rintro e9 w9 ⟨rfl,hy⟩);have hu:=ag (hG.o.trans (hy.mono hG.o.size));have hp:=(hy.cell (cR hg)).trans hg;clear hy;refine⟨hp, ?_⟩;refine cA 6 rfl (fun K hK=> ?_);have hT:=ag (show eR S w9 (.slice (some ⟨b,o,none⟩) (k) cap) (L.take (k))from cU.takeN mu.len (HV.o.below (aj hj.o hu.o)) h4.o)
      go_wp2_with (go_at_call 91; refine(El S (L.take (k)) (.slice (some ⟨b,o,none⟩) (k) cap) q x _ hT.o hR.o).mono ?_; rintro ea wa ⟨rfl,hz⟩);have hS:=ag (hu.o.trans (hz.mono hu.o.size));have hg:=(hz.cell (cR hp)).trans hp;clear hz;refine⟨hg, ?_⟩;refine cF rfl hg (by intro w' h1; go_simp; rfl) ?_;simp only[bM];refine cH (by kernel_rfl) ?_;have hE:=ag (aj hj.o hS.o)
      clear hg hp
      by_cases h0:x=0
      ·subst h0;have hU:=ag (mC hr.o hB.o ho.o);go_wp2_with fail
       go_roundw
       ·exact⟨k+1,by omega,by go_num,hU.o,hE.o⟩
       simp[intOf]; omega
      ·have e1:(x != 0)=true:=by simp[h0]
       have hX:=ag h0;clear h0;go_wp2_with fail;go_ret;exact⟨dK (by rw[jG hF.o hr.o hB.o (x:=x) ho.o hX.o]),hE.o⟩
     ·obtain⟨j,rfl⟩: ∃j,k=j+1:=⟨k-1,by omega⟩;obtain⟨f,hf⟩: ∃f,L[j]? =some f:=⟨L[j]'(by rw[<-HN.o]; omega),by simp⟩;obtain⟨b',o',dv',Ha,-,-,-,hZ,-,p0,-⟩:=jN (HV.o.below hj.o) hf;simp only[aV,iK,and_true]at Ha;obtain⟨rfl,rfl⟩:=Ha;have h7:=ag (show f.path.size<=65536 from an (Bj (hr.o.val f (aM (i:=j) (by rw[eF,if_pos (Nat.lt_succ_self j)]; exact hf)))) (by omega))
      obtain⟨c,hc⟩: ∃c,fA (bl f.path) (bl e.path)=c:=⟨_,rfl⟩;have HC:=ag hc;have e9:decide (0<j+1)=true:=by simp
      have Hn:j<n:=by omega
      have Hh:(j:Int)<(n:Int):=by omega
      have Hi:decide (j<n)=true:=by simp; omega
      have Hm:0<=(j:Int)+1/\(j:Int)+1<=(cap:Int):=by omega
      have Hp:IntKind.i64.wrap (j:Int)=j:=by rw[bI]; omega
      have h2:=ag (show nP (L.take (j+1)) e=decide (c<0) by rw[Cz hf,hc]);clear hf hZ hc hM
      by_cases hH:c<0
      ·have hP:=ag (show(ij e && nP (L.take (j+1)) e)=true by rw[hw.o,h2.o,de hH]; rfl);have e8:decide (0<=c)=false:=by simp; omega
       obtain⟨x,hx⟩: ∃x,mD (L.take (j+1)) (bl q)=x:=⟨_,rfl⟩;have hR:=ag hx;have ho:=ag (show gm (L.take (j+1)) e=x by unfold gm; rw[if_pos hP.o,<-h3.o,hx]);clear hx;go_wp2_with fail;refine bL [some 1,none,some 13,none,some 3] (by kernel_rfl) (by kernel_rfl) (by kernel_rfl) ?_;simp only[ef,aS,aY,bA,bQ]
       obtain⟨W,hW⟩:=bH ((wr.alloc (.cells #[.string e.path, .int .i64 e.kind, .int .i64 e.mode, .int .i64 e.time, .slice a1 e.data.length cap1, .string e.link] 79)).drew);rw[<-hW];have ha:=ag (show Below wr.heap.size wr W by rw[hW]; exact(eT).drew);have HX:=ag (show W.heap[wr.heap.size]? =some (.cells #[.string e.path, .int .i64 e.kind, .int .i64 e.mode, .int .i64 e.time, .slice a1 e.data.length cap1, .string e.link] 79 (0,0)) by rw[hW]; exact ez wr _)
       have hO:=ag (aj hj.o ha.o);clear hW;obtain⟨c0,c1,c2,c3,c4,c5,_⟩:=aT HX.o
       repeat (first | (refine cy rfl ?_; simp only[bM]) | (refine cP rfl (fun K hK=> ?_); go_simp; refine hK _ ?_; clear hK K))
       refine cO ?_;refine eE rfl (fun K hK=> ?_);go_wp2_with (go_at_call 89; refine(oY S e (.slice a1 e.data.length cap1) true _ (HD.o.below ha.o) hJ.o hL.o hw.o).mono ?_; rintro e7 w7 ⟨rfl,hh⟩; have hl:=ag (ha.o.trans (hh.mono ha.o.size)); have hs:=ag ((hh.block wr.heap.size (ml HX.o)).trans HX.o); clear hh c0 c1 c2 c3 c4 c5);obtain⟨c0,c1,c2,c3,c4,c5,_⟩:=aT hs.o
       have y0:=(hl.o.cell (cR p0)).trans p0
       repeat (first | (refine cy rfl ?_; simp only[bM]) | (refine cP rfl (fun K hK=> ?_); go_simp; refine hK _ ?_; clear hK K))
       refine cO ?_;refine eE rfl (fun K hK=> ?_);go_wp2_with (go_at_call 90; refine(vH f.path e.path c _ h7.o HC.o).mono ?_; rintro e8' w8 ⟨rfl,hC⟩; have hI:=ag (hl.o.trans (hC.mono hl.o.size)); have He:=ag ((hC.block wr.heap.size (ml hs.o)).trans hs.o); clear hC c0 c1 c2 c3 c4 c5 y0)
       repeat (first | (refine cy rfl ?_; simp only[bM]) | (refine cP rfl (fun K hK=> ?_); go_simp; refine hK _ ?_; clear hK K))
       refine cO ?_;go_wp2_with fail;refine eV (fun w'=>w'.cell? ⟨wr.heap.size,0,none⟩=some (.string e.path)) (by kernel_rfl) ?_;obtain⟨V,hV⟩:=bH ((w8).drew);rw[<-hV];have hG:=ag (show Below wr.heap.size wr V by rw[hV]; exact hI.o.trans ((ak (w8).heap.size (w8)).drew.mono hI.o.size));have hY:=ag (show V.heap[wr.heap.size]? =some (.cells #[.string e.path, .int .i64 e.kind, .int .i64 e.mode, .int .i64 e.time, .slice a1 e.data.length cap1, .string e.link] 79 (0,0)) by rw[hV]; exact He.o)
       clear hV;have hg:=ar (k:=0) hY.o;simp only[aF,aD]at hg
       iterate 5 (refine cF rfl hg (by intro w' h1; go_simp; rfl) ?_; simp only[bM])
       refine cA 5 rfl (fun K hK=> ?_);go_wp2_with (go_at_call 92; refine(oX e.path q _ h8.o HQ.o).mono ?_; rintro e9 w9 ⟨rfl,hy⟩);have hu:=ag (hG.o.trans (hy.mono hG.o.size));have hp:=(hy.cell (cR hg)).trans hg;clear hy;refine⟨hp, ?_⟩;refine cA 6 rfl (fun K hK=> ?_);have hT:=ag (show eR S w9 (.slice (some ⟨b,o,none⟩) (j+1) cap) (L.take (j+1))from cU.takeN mu.len (HV.o.below (aj hj.o hu.o)) h4.o)
       go_wp2_with (go_at_call 91; refine(El S (L.take (j+1)) (.slice (some ⟨b,o,none⟩) (j+1) cap) q x _ hT.o hR.o).mono ?_; rintro ea wa ⟨rfl,hz⟩);have hS:=ag (hu.o.trans (hz.mono hu.o.size));have hg:=(hz.cell (cR hp)).trans hp;clear hz;refine⟨hg, ?_⟩;refine cF rfl hg (by intro w' h1; go_simp; rfl) ?_;simp only[bM];refine cH (by kernel_rfl) ?_
       have hE:=ag (aj hj.o hS.o);clear hg hp
       by_cases h0:x=0
       ·subst h0;have hU:=ag (mC hr.o hB.o ho.o);go_wp2_with fail
        go_roundw
        ·exact⟨j+1+1,by omega,by go_num,hU.o,hE.o⟩
        simp[intOf]; omega
       ·have e1:(x != 0)=true:=by simp[h0]
        have hX:=ag h0;clear h0;go_wp2_with fail;go_ret;exact⟨dK (by rw[jG hF.o hr.o hB.o (x:=x) ho.o hX.o]),hE.o⟩
      ·have ho:=ag (show gm (L.take (j+1)) e=1 by unfold gm; rw[h2.o,cE hH]; simp);have e8:decide (0<=c)=true:=by simp; omega
       have e7:0<=c:=by omega
       go_wp2_with fail;refine bL [some 1,none,some 13,none,some 3] (by kernel_rfl) (by kernel_rfl) (by kernel_rfl) ?_;simp only[ef,aS,aY,bA,bQ];obtain⟨W,hW⟩:=bH ((wr.alloc (.cells #[.string e.path, .int .i64 e.kind, .int .i64 e.mode, .int .i64 e.time, .slice a1 e.data.length cap1, .string e.link] 79)).drew)
       rw[<-hW];have ha:=ag (show Below wr.heap.size wr W by rw[hW]; exact(eT).drew);have HX:=ag (show W.heap[wr.heap.size]? =some (.cells #[.string e.path, .int .i64 e.kind, .int .i64 e.mode, .int .i64 e.time, .slice a1 e.data.length cap1, .string e.link] 79 (0,0)) by rw[hW]; exact ez wr _);have hO:=ag (aj hj.o ha.o);clear hW;obtain⟨c0,c1,c2,c3,c4,c5,_⟩:=aT HX.o
       repeat (first | (refine cy rfl ?_; simp only[bM]) | (refine cP rfl (fun K hK=> ?_); go_simp; refine hK _ ?_; clear hK K))
       refine cO ?_;refine eE rfl (fun K hK=> ?_);go_wp2_with (go_at_call 89; refine(oY S e (.slice a1 e.data.length cap1) true _ (HD.o.below ha.o) hJ.o hL.o hw.o).mono ?_; rintro e7 w7 ⟨rfl,hh⟩; have hl:=ag (ha.o.trans (hh.mono ha.o.size)); have hs:=ag ((hh.block wr.heap.size (ml HX.o)).trans HX.o); clear hh c0 c1 c2 c3 c4 c5);obtain⟨c0,c1,c2,c3,c4,c5,_⟩:=aT hs.o
       have y0:=(hl.o.cell (cR p0)).trans p0
       repeat (first | (refine cy rfl ?_; simp only[bM]) | (refine cP rfl (fun K hK=> ?_); go_simp; refine hK _ ?_; clear hK K))
       refine cO ?_;refine eE rfl (fun K hK=> ?_);go_wp2_with (go_at_call 90; refine(vH f.path e.path c _ h7.o HC.o).mono ?_; rintro e8' w8 ⟨rfl,hC⟩; have hI:=ag (hl.o.trans (hC.mono hl.o.size)); clear hC c0 c1 c2 c3 c4 c5 y0)
       repeat (first | (refine cy rfl ?_; simp only[bM]) | (refine cP rfl (fun K hK=> ?_); go_simp; refine hK _ ?_; clear hK K))
       refine cO ?_;have hN:=ag (aj hj.o hI.o);go_wp2_with fail;go_ret;exact⟨dK (by rw[jG hF.o hr.o hB.o (x:=1) ho.o (by decide)]),hN.o⟩
   ·have Hj:k=n:=by omega
    subst Hj;go_wp2_with fail;go_ret;exact⟨dK (by rw[wN hF.o (by rw[<-HN.o]; exact hr.o)]),hj.o⟩
end
section
open Go Go.RowKit
theorem BX (seed k:Nat) (w:World) (_hs:seed<18446744073709551616) (hk:k<256):Calls Tryz.prog 214 #[.int .u64 (seed:Int), .int .i64 (k:Int)] w fun e w'=>e= .returned (.int .u64 ((uJ seed k:Nat):Int))/\w=w':=by
 have h0:IntKind.u64.wrap ((seed:Int)+IntKind.u64.wrap (((k:Int)+1)*11400714819323198485))=((ue seed k:Nat):Int):=Ba seed k;have h1:=Av (ue seed k) (Ez seed k);have h2:=Aw (FS (ue seed k)) (IL _);have h3:=Ay (Kv (FS (ue seed k))) (IM _);have hw:IntKind.u64.wrap ((k:Int)+1)=(k:Int)+1:=by rw[cX]; omega
 go_enter Tryz.func214,Tryz.ntmps214
 go_wp2_with fail;go_ret;exact⟨rfl,rfl⟩
theorem Cg (x n:Nat) (w:World) (hx:x<18446744073709551616) (hn:n<64):Calls Tryz.prog 213 #[.int .u64 (x:Int), .int .i64 (n:Int)] w fun e w'=>e= .returned (.int .u64 ((pP n x:Nat):Int))/\w=w':=by
 go_enter Tryz.func213,Tryz.ntmps213
 go_wp2_with fail
 go_loopw [0,5] (fun y i wr=> ∃k:Nat,k<=n/\i= .int .i64 (k:Int)/\y= .int .u64 ((pP k x:Nat):Int)/\w=wr) (fun _ i _=>n-(intOf i).toNat)
 ·exact⟨0,by omega,rfl,rfl,rfl⟩
 ·obtain⟨k,hk,rfl,rfl,rfl⟩:=hrel;obtain⟨z,hz⟩:=bH (pP k x);rw[<-hz];have HZ:=ag hz;have hb:z<18446744073709551616:=by rw[hz]; exact ww k hx
  have HR:=ag (show bits BinOp.or IntKind.u64 (IntKind.u64.wrap ((z:Int)*2)) ((z:Int)/9223372036854775808)=((pP (k+1) x:Nat):Int) by have h1:=AX (s:=1) hb;rw[cX,pP,<-hz];exact h1)
  clear hz
  by_cases hc:k<n
  ·go_wp2_with fail
   go_roundw
   ·exact⟨k+1,by omega,by go_num,by rw[HR.o],trivial⟩
   simp[intOf]; omega
  ·have ha:k=n:=by omega
   subst ha;go_wp2_with fail;go_ret;exact⟨by rw[HZ.o]; rfl,rfl⟩
theorem Dn {T:Nat->Nat} {l:List UInt8} {k:Nat} {b:UInt8} (h:l[k]? =some b):sT T (l.drop k)=pP (l.length-1-k) (T b.toNat)^^^sT T (l.drop (k+1)):=by obtain⟨hk,rfl⟩:=aA.1 h;rw[cD hk,sT,bz,show l.length-(k+1)=l.length-1-k by omega]
theorem Fy (S:Nat->Prop) (seed:Nat) (data:List UInt8) (v:Value) (w:World) (hs:seed<18446744073709551616) (hv:bB S w v data) (hl:data.length<=64):Calls Tryz.prog 205 #[.int .u64 (seed:Int),v] w fun e w'=>e= .returned (.int .u64 ((qD seed data:Nat):Int))/\w=w':=by
 obtain⟨hp,a,cap,rfl,hn,hm,-⟩:=id hv;unfold maxLen at hm;have HV:=ag hv;obtain⟨n,hd⟩:=bH data.length;rw[<-hd]at HV hl hn ⊢;have HN:=ag hd;clear hv hp hd
 go_enter Tryz.func205,Tryz.ntmps205
 go_wp2_with fail
 go_loopw [5,6] (fun y i wr=> ∃k s:Nat,k<=n/\i= .int .i64 (k:Int)/\y= .int .u64 (s:Int)/\s<18446744073709551616/\s^^^sT (uJ seed) (data.drop k)=qD seed data/\w=wr) (fun _ i _=>n-(intOf i).toNat)
 ·exact⟨0,0,by omega,rfl,rfl,by omega,by rw[bQ,Nat.zero_xor,Ac (rR seed)]; rfl,rfl⟩
 ·obtain⟨k,s,hk,rfl,rfl,hg,hb,rfl⟩:=hrel;have HS:=ag hb;clear hb
  by_cases hq:k<n
  ·obtain⟨b,hc⟩: ∃b,data[k]? =some b:=⟨data[k]'(by have:=HN.o; omega),bn (by have:=HN.o; omega)⟩;obtain⟨bb,oo,rfl,q0⟩:=Mo HV.o (ak _ _) hc;have HD:=ag (Dn (T:=uJ seed) hc);rw[<-HN.o]at HD;have ha:=b.toNat_lt;have hx:IntKind.i64.wrap (b.toNat:Int)=(b.toNat:Int):=by rw[bI]; omega
   clear hc;go_wp2_with fail;refine(BX seed b.toNat _ hs ha).mono ?_;rintro e w1 ⟨rfl,rfl⟩;obtain⟨r,hr⟩:=bH (n-1-k:Nat);have hu:IntKind.i64.wrap (IntKind.i64.wrap ((n:Int)-1)-(k:Int))=(r:Int):=by rw[bI,bI]; omega
   have hw:(n:Int)-1-(k:Int)=(r:Int):=by omega
   rw[<-hr]at HD;have he:r<64:=by omega
   obtain⟨tv,hf⟩:=bH (uJ seed b.toNat);have hh:tv<18446744073709551616:=by rw[hf]; exact rR _ _
   rw[<-hf]at HD ⊢;clear hf hr;go_wp2_with fail;refine(Cg tv r _ hh he).mono ?_;rintro e w2 ⟨rfl,rfl⟩;obtain⟨z,hz⟩:=bH (pP r tv);have hj:z<18446744073709551616:=by rw[hz]; exact ww _ hh
   rw[<-hz]at HD ⊢;have HX:=ag (u64_xor_nat s z hg hj);clear hz;go_wp2_with fail
   go_roundw
   ·refine⟨k+1,s^^^z,by omega,by go_num,by rw[HX.o],rD hg hj, ?_,trivial⟩;rw[Nat.xor_assoc,<-HD.o];exact HS.o
   simp[intOf]; omega
  ·have ho:k=n:=by omega
   subst ho;have HF:=ag (show s=qD seed data by
    have h1:=HS.o;rw[HN.o,jh]at h1;rw[<-h1]
    show s=s^^^0
    rw[Nat.xor_zero])
   go_wp2_with fail;go_ret;exact⟨by rw[<-HF.o]; rfl,rfl⟩
theorem tJ : ∀f,Lib.ctzFrom f 0=f
 | 0=>rfl
 | f+1=>by rw[Lib.ctzFrom,if_neg (by decide),Nat.zero_div,tJ f]; omega
theorem Mw (x:Nat):Lib.ctz 64 x=Lib.ctzFrom 64 x:=by
 unfold Lib.ctz
 split
 ·rename_i h; rw[h,tJ]
 ·rfl
theorem EV (x:Nat) (w:World) (hx:x<18446744073709551616):Calls Tryz.prog 204 #[.int .u64 (x:Int)] w fun e w'=>e= .returned (.int .i64 ((Lib.ctz 64 x:Nat):Int))/\w=w':=by
 have HC:=ag (Mw x)
 go_enter Tryz.func204,Tryz.ntmps204
 go_wp2_with fail
 go_loopw [3] (fun i wr=> ∃k:Nat,k<=64/\i= .int .i64 (k:Int)/\Lib.ctzFrom 64 x=k+Lib.ctzFrom (64-k) (x/2^k)/\w=wr) (fun i _=>64-(intOf i).toNat)
 ·exact⟨0,by omega,rfl,by simp,rfl⟩
 ·obtain⟨k,hk,rfl,hg,rfl⟩:=hrel;have HT:=ag hg;clear hg
  by_cases hl:k<64
  ·obtain⟨y,hy⟩:=bH (x/2^k);have hj:y<18446744073709551616:=by rw[hy]; exact dM (fc _ _) hx
   have ha:Lib.ctzFrom (64-k) y=if y%2=1 then 0 else 1+Lib.ctzFrom (64-(k+1)) (y/2):=by rw[show 64-k=(64-(k+1))+1 by omega,Lib.ctzFrom]
   have hc:bits BinOp.and IntKind.u64 ((x:Int)/2^k) 1=((y%2:Nat):Int):=by rw[show((x:Int)/2^k)=((y:Nat):Int) by rw[hy]; simp,show(1:Int)=((1:Nat):Int)from rfl,u64_and_nat _ _ hj (by decide),Nat.and_one_is_mod]
   have hf:=ag (show Lib.ctzFrom 64 x=k+Lib.ctzFrom (64-k) y by rw[hy]; exact HT.o);have HY:=ag (show y/2=x/2^(k+1) by rw[hy,Nat.div_div_eq_div_mul,Nat.pow_succ]);clear hy
   by_cases hb:y%2=1
   ·have hh:(bits BinOp.and IntKind.u64 ((x:Int)/2^k) 1 == 0)=false:=by rw[hc,hb]; rfl
    rw[if_pos hb]at ha;have HR:=ag (show Lib.ctz 64 x=k by rw[HC.o,hf.o,ha]; omega);clear hc ha hb;go_wp2_with fail;go_ret;exact⟨by rw[HR.o]; rfl,rfl⟩
   ·have hd:y%2=0:=by omega
    have hh:(bits BinOp.and IntKind.u64 ((x:Int)/2^k) 1 == 0)=true:=by rw[hc,hd]; rfl
    rw[if_neg hb]at ha;have HR:=ag (show Lib.ctzFrom 64 x=(k+1)+Lib.ctzFrom (64-(k+1)) (x/2^(k+1)) by rw[hf.o,ha,HY.o]; omega);clear hc ha hb hd;go_wp2_with fail
    go_roundw
    ·exact⟨k+1,by omega,by go_num,HR.o,trivial⟩
    simp[intOf]; omega
  ·have he:k=64:=by omega
   subst he;have HR:=ag (show Lib.ctz 64 x=64 by have h1:=HT.o;rw[HC.o,h1]; rfl)
   go_wp2_with fail;go_ret;exact⟨by rw[HR.o]; rfl,rfl⟩
def sq (c:fQ) (data:List UInt8) (n k:Nat):List Value:=(List.range (n+1)).map fun p=> .bool (decide (p<k) && qG c data p)
theorem tT (c:fQ) (data:List UInt8) (n k:Nat):(sq c data n k).length=n+1:=by simp[sq]
theorem pM (c:fQ) (data:List UInt8) {n k p:Nat} (h:p<=n):(sq c data n k)[p]? =some (.bool (decide (p<k) && qG c data p)):=by
 unfold sq;rw[bm,List.getElem?_range (by omega)]
 rfl
theorem Ng (c:fQ) (data:List UInt8) {n k:Nat} (h:k<=n):(sq c data n k).set k (.bool (qG c data k))=sq c data n (k+1):=by
 apply List.ext_getElem?
 intro p;rw[List.getElem?_set]
 by_cases hp:k=p
 ·subst hp;rw[if_pos rfl,if_pos (by rw[tT]; omega),pM c data h];simp
 ·rw[if_neg hp]
  by_cases hn:p<=n
  ·rw[pM c data hn,pM c data hn,show decide (p<k)=decide (p<k+1) by rw[jm]; omega]
  ·rw[dP (by rw[tT]; omega),dP (by rw[tT]; omega)]
theorem Ky (c:fQ) (data:List UInt8) (n:Nat):sq c data n 0=List.replicate (n+1) (.bool false):=by
 apply List.ext_getElem?
 intro p
 by_cases hn:p<=n
 ·rw[pM c data hn,List.getElem?_replicate,if_pos (by omega)];simp
 ·rw[dP (by rw[tT]; omega),dP (by simp; omega)]
theorem QG {c:fQ} {data:List UInt8} {p:Nat} (h:p<c.win.toNat):qG c data p=false:=by unfold qG IK;rw[aW];simp;intro h2;omega
theorem xL {c:fQ} {data:List UInt8} {n k:Nat} (h:k<=c.win.toNat):sq c data n k=sq c data n 0:=by
 unfold sq;refine List.map_congr_left fun p _=> ?_
 by_cases hp:p<k
 ·rw[QG (by omega)]; simp
 ·simp[hp]
def jc (c:fQ) (b:Nat) (w:World):Prop:=w.heap[b]? =some (.cells #[.int .i64 c.mn, .int .i64 c.mx, .int .i64 c.win, .int .i64 c.bits, .int .u64 (c.seed:Int)] 45 (0,0))
theorem jc.below {c:fQ} {b:Nat} {w w':World} (h:jc c b w) (hb:Below w.heap.size w w'):jc c b w':=eA hb h
theorem FQ (w:World) (n:Nat) (hn:n<=16777216): ∃w',(Instr.makeSlice 242 (.int .i64 (n:Int)) (.int .i64 (n:Int))).run Tryz.prog w= .ok (.slice (some ⟨w.heap.size,0,none⟩) n n) w'/\
  w'.ownsRow w.heap.size 4 1 (.slice (some ⟨w.heap.size,0,none⟩) n n) n (List.replicate n (.bool false))/\w.grownBy w' none:=by
 have h1:(Tryz.prog.info? 4).map (fun i=>(i.bytes,i.size))=some (1,1):=by kernel_rfl
 have h2:(Tryz.prog.info? 4).bind (fun i=>i.zero)=some (.bool false):=by kernel_rfl
 cases hi:Tryz.prog.info? 4 with
 | none=>rw[hi]at h1; cases h1
 | some i=>
  rw[hi]at h1 h2;simp only[dE,aV,cM]at h1;obtain⟨w',k1,k2,k3⟩:=run_make_full (P:=Tryz.prog) w w.heap.size 242 4 i (.bool false) 1 Tryz.underlying242 hi h2 h1.2 .i64 .i64 n (by rw[h1.1]; omega) (by unfold maxLen; omega) (ah _);refine⟨w',k1, ?_,k3⟩;rw[kr]at k2;rw[show(Value.bool false).cells= #[.bool false]from rfl,toList_madeCells_one]at k2
  exact k2
theorem LF {data:List UInt8} {p W:Nat} (hp:p<=data.length) (hW:W<=p):je data (p-W) p=oz W (data.take p):=by unfold je oz;rw[aW,fC hp,show p-(p-W)=W by omega,List.drop_take,show p-(p-W)=W by omega]
theorem BT (S:Nat->Prop) (c:fQ) (data:List UInt8) (v:Value) (w:World) (hc:jT c=true) (hs:c.seed<18446744073709551616) (hv:bB S w v data) (hl:data.length<=1048576):
  Calls Tryz.prog 189 #[kB c,v] w fun e w'=> ∃g cap,e= .returned (.slice (some ⟨g,0,none⟩) (data.length+1) cap)/\w'.ownsRow w.heap.size 4 1 (.slice (some ⟨g,0,none⟩) (data.length+1) cap) (data.length+1) (sq c data data.length (data.length+1))/\Below w.heap.size w w':=by
 obtain⟨h0,a,cap,rfl,hn,hm,-⟩:=id hv;unfold maxLen at hm;obtain⟨n,hz⟩:=bH data.length;obtain⟨v1,v2,v3,v4,v5,v6,v7⟩:=mf.1 hc;obtain⟨wn,hD⟩:=bH (c.win.toNat:Nat);have hM:c.win=(wn:Int):=by omega
 obtain⟨W,hW⟩:=bH (w.alloc (.cells #[.int .i64 c.mn, .int .i64 c.mx, .int .i64 c.win, .int .i64 c.bits, .int .u64 (c.seed:Int)] 45));have HB:=ag (show Below w.heap.size w W by rw[hW]; exact eT);have HX:=ag (show jc c w.heap.size W by rw[hW]; exact aC w _);have HV:=ag (show bB S W (.slice a data.length cap) data by rw[hW]; exact bX.below hv (by omega) (eT))
 rw[<-hz]at hl hn HV ⊢;have HN:=ag hz;have hr:=ag hD;have Ha:W.heap.size=w.heap.size+1:=by rw[hW]; simp
 have HS:=ag hs;obtain⟨W1,hJ,hg,hw⟩:=FQ W (n+1) (by omega);have HO:=ag (show W1.ownsRow w.heap.size 4 1 (.slice (some ⟨W.heap.size,0,none⟩) (n+1) (n+1)) (n+1) (sq c data n wn) by rw[xL (by rw[hD]; exact ah _),Ky];exact jf hg (by omega))
 have h7:=ag (HB.o.trans ((jE hw).mono (by omega)));have hI:=ag (jE hw);have hf:(Instr.makeSlice 242 (.int .i64 ((n:Int)+1)) (.int .i64 ((n:Int)+1))).run Tryz.prog W= .ok (.slice (some ⟨W.heap.size,0,none⟩) (n+1) (n+1)) W1:=by rw[show((n:Int)+1)=((n+1:Nat):Int) by omega]; exact hJ
 obtain⟨gb,hu⟩:=bH W.heap.size;rw[<-hu]at HO hf;have hF:=ag hu;have hd:=ag hM;clear hJ hg hw hu hz hD hs h0 hv hM;unfold kB
 go_enter Tryz.func189,Tryz.ntmps189
 go_upto_region 1 with fail
 rw[<-hW];clear hW;have hH:=ag (HX.o.below hI.o)
 go_upto_region 2 with fail
 clear hf;have ha:=hH.o;unfold jc at ha;obtain⟨c0,c1,c2,c3,c4,_⟩:=aT ha;clear ha;go_wp2_with fail;clear c0 c1 c2 c3 c4
 go_loopw [6] (fun i wr=> ∃p:Nat,wn<=p/\p<=max wn (n+1)/\i= .int .i64 (p:Int)/\wr.ownsRow w.heap.size 4 1 (.slice (some ⟨gb,0,none⟩) (n+1) (n+1)) (n+1) (sq c data n p)/\jc c w.heap.size wr/\Below W.heap.size W wr) (fun i _=>n+1-(intOf i).toNat)
 ·exact⟨wn,ah _,by omega,by rw[hd.o],HO.o,hH.o,hI.o⟩
 ·obtain⟨p,h3,Hc,rfl,ho,hx,hb⟩:=hrel;have hG:=ag ho;have hX:=ag hx;have hk:=ag hb;clear ho hx hb HO
  by_cases hy:p<=n
  ·obtain⟨W2,hY⟩:=bH wr;subst hY;obtain⟨A,hA⟩:=bH (p-wn);have h8:(p:Int)-(wn:Int)=(A:Int):=by omega
   have h9:IntKind.i64.wrap (A:Int)=(A:Int):=by rw[bI]; omega
   have hU:=ag (show bB S W2 (.slice a n cap) data from bX.below HV.o (by omega) hk.o);have He:1<=wn:=by have:=hd.o; omega
   have hC:wn<=64:=by have:=hd.o; omega
   obtain⟨sa,sc,h4,hB⟩:=rV hU.o (s:=A) (e:=p) (by omega) (by rw[<-HN.o]; exact hy);have hq:=ag (show je data A p=oz wn (data.take p) by rw[hA]; exact LF (by rw[<-HN.o]; exact hy) h3);have hL:(je data A p).length=wn:=by rw[hq.o,oA,aW,<-HN.o]; omega
   rw[hL]at h4 hB;have hS:=ag hB;clear hB hL hA;have Hb:(p:Int)<=(n:Int):=by omega
   go_upto_region 5 with fail
   have Hd:(p:Int)<(n:Int)+1:=by omega
   refine eV (jc c w.heap.size) (by kernel_rfl) ?_;obtain⟨V,hV⟩:=bH W2.drew;rw[<-hV];have hb:Below W2.heap.size W2 V:=by rw[hV]; exact(ak _ _).drew
   have hO:=ag (aj hk.o hb);have SV:=ag (hX.o.below hb);have hp:=ag (cY hG.o hb);have hT:=ag (show bB S V (.slice sa wn sc) (je data A p) by have h1:=hS.o; unfold bB at h1 ⊢; exact bX.below h1 (by omega) hb);clear hV hb
   iterate 11 (refine cF rfl SV.o (by rintro w' hx; have ha:=hx; unfold jc at ha; have c2:=bD (k:=2) ha; have c3:=bD (k:=3) ha; have c4:=bD (k:=4) ha; simp only[fV]at c2 c3 c4; rw[hd.o]at c2; clear hx ha; go_simp; rfl) ?_; simp only[bM])
   refine dx 13 rfl SV.o (by rintro w' hx; have ha:=hx; unfold jc at ha; have c2:=bD (k:=2) ha; have c3:=bD (k:=3) ha; have c4:=bD (k:=4) ha; simp only[fV]at c2 c3 c4; rw[hd.o]at c2; clear hx ha; go_simp; rfl) ?_;simp only[bM];refine dx 14 rfl SV.o (by rintro w' hx; have ha:=hx; unfold jc at ha; have c2:=bD (k:=2) ha; have c3:=bD (k:=3) ha; have c4:=bD (k:=4) ha; simp only[fV]at c2 c3 c4; rw[hd.o]at c2; clear hx ha; go_simp; rfl) ?_
   simp only[bM];refine cA 11 rfl (fun K hK=> ?_);go_wp2_with fail;refine(Fy _ c.seed (je data A p) _ _ HS.o hT.o (by rw[hq.o,oA]; exact an (Nat.min_le_left _ _) hC)).mono ?_;rintro e w3 ⟨rfl,rfl⟩;obtain⟨hh,hj⟩:=bH (qD c.seed (je data A p));have hZ:hh<18446744073709551616:=by rw[hj]; exact xt _ _
   rw[<-hj];have HH:=ag hj;clear hj;go_wp2_with fail;refine⟨SV.o, ?_⟩;refine cA 12 rfl (fun K hK=> ?_);go_wp2_with fail;refine(EV hh _ hZ).mono ?_;rintro e w4 ⟨rfl,rfl⟩;obtain⟨zz,hE⟩:=bH (Lib.ctz 64 hh);rw[<-hE];have hP:=ag (show decide (c.bits<=(zz:Int))=qG c data p by
    unfold qG IK;rw[<-hr.o,<-hq.o,<-HH.o,<-hE,aW,<-HN.o,show decide (wn<=min p n)=true by rw[aG]; omega,ie,jm]
    omega)
   clear hE;go_wp2_with fail;refine⟨SV.o, ?_⟩
   iterate 2 (refine cF rfl SV.o (by rintro w' hx; have ha:=hx; unfold jc at ha; have c2:=bD (k:=2) ha; have c3:=bD (k:=3) ha; have c4:=bD (k:=4) ha; simp only[fV]at c2 c3 c4; rw[hd.o]at c2; clear hx ha; go_simp; rfl) ?_; simp only[bM])
   have q0:=hp.o.cellAt p (by omega);rw[pM c data (by omega)]at q0;have q1:=hp.o.frozenAt p;refine cA 17 rfl (fun K hK=> ?_);go_wp2_with fail;obtain⟨W5,he⟩:=bH (V.setCell ⟨gb,p,none⟩ (.bool (decide (c.bits<=(zz:Int)))));rw[<-he];have SC:=ag (show jc c w.heap.size W5 by rw[he];unfold jc;rw[az _ _ _ _ (show w.heap.size≠gb by have:=hF.o; omega)];exact SV.o)
   have hR:=ag (show W5.ownsRow w.heap.size 4 1 (.slice (some ⟨gb,0,none⟩) (n+1) (n+1)) (n+1) (sq c data n (p+1)) by rw[he,hP.o,<-Ng c data hy];exact(hp.o.stored p _).1)
   have hN:=ag (show Below W.heap.size W W5 by rw[he]; exact hO.o.setCell (by show W.heap.size<=gb; rw[hF.o]; exact ah _) _);clear he q0 q1;refine⟨SC.o, ?_⟩;refine cH (by kernel_rfl) ?_;go_wp2_with fail
   go_roundw
   ·exact⟨p+1,by omega,by omega,by go_num,hR.o,SC.o,hN.o⟩
   simp[intOf]; omega
  ·have h2: ¬(p:Int)<=(n:Int):=by omega
   have HF:=ag (show sq c data n p=sq c data n (n+1) by
    by_cases h1:wn<=n+1
    ·rw[show p=n+1 by omega]
    ·rw[xL (k:=p) (by rw[<-hr.o]; omega),xL (k:=n+1) (by rw[<-hr.o]; omega)])
   go_wp2_with fail;go_ret;exact⟨gb,n+1,rfl,by rw[<-HF.o]; exact hG.o,aj HB.o hk.o⟩
theorem Tryz.appIntsM :kz Tryz.prog 65 3 1 8:=kz.mk' (z:= .int .i64 0) Tryz.underlying65 (by kernel_rfl) rfl (by decide) (by decide)
def sr (n:Nat):Value:= .int .i64 (n:Int)
def kw (mk:Nat->Bool) (mn k:Nat):List Nat:=(List.range k).filter fun p=>kM mk mn p
theorem KO (mk:Nat->Bool) (mn k:Nat):kw mk mn (k+1)=if kM mk mn k=true then kw mk mn k++[k]else kw mk mn k:=by
 unfold kw;rw[mh,fM]
 by_cases h:kM mk mn k=true
 ·rw[if_pos h]; simp[h]
 ·rw[if_neg h]; simp[h]
theorem Eg (mk:Nat->Bool) (mn k:Nat):(kw mk mn k).length<=k:=by have:=dI (fun p=>kM mk mn p) (List.range k);rw[List.length_range]at this;exact this
def qB (mk:Nat->Bool) (mn p q:Nat) (b:Bool):Prop:=b=true<->mk p=true/\ ∀r,1<=r->q<r->r<p->p<r+mn->mk r=false
theorem qB.start (mk:Nat->Bool) (mn p:Nat):qB mk mn p (p-1) (mk p):=⟨fun h=>⟨h,fun r h1 h2 h3 _=>by omega⟩,fun h=>h.1⟩
theorem qB.hit {mk:Nat->Bool} {mn p q:Nat} {b:Bool} (_h:qB mk mn p q b) (hq:1<=q) (hp:q<p) (hm:p<q+mn) (hk:mk q=true):qB mk mn p (q-1) false:=
 ⟨fun h=>(by cases h),fun h=>(by rw[h.2 q hq (by omega) hp hm]at hk; cases hk)⟩
theorem qB.miss {mk:Nat->Bool} {mn p q:Nat} {b:Bool} (h:qB mk mn p q b) (hk:mk q=false):qB mk mn p (q-1) b:=
 ⟨fun hb=>⟨(h.1 hb).1,fun r h1 h2 h3 h4=>by
  by_cases e:r=q
  ·rw[e]; exact hk
  ·exact(h.1 hb).2 r h1 (by omega) h3 h4⟩,fun hb=>h.2 ⟨hb.1,fun r h1 h2 h3 h4=>hb.2 r h1 (by omega) h3 h4⟩⟩
theorem qB.done {mk:Nat->Bool} {mn p q:Nat} {b:Bool} (h:qB mk mn p q b) (hp:1<=p) (hq:q=0\/q+mn<=p):b=kM mk mn p:=by
 rw[dy,KN]
 constructor
 ·intro hb;exact⟨hp,(h.1 hb).1,fun r h1 h2 h3=>(h.1 hb).2 r h1 (by omega) h2 h3⟩
 ·rintro⟨_,h1,h2⟩;exact h.2 ⟨h1,fun r k1 _ k3 k4=>h2 r k1 k3 k4⟩
theorem zj (S:Nat->Prop) (c:fQ) (data:List UInt8) (v:Value) (w:World) (hc:jT c=true) (hs:c.seed<18446744073709551616) (hv:bB S w v data) (hl:data.length<=1048576):
  Calls Tryz.prog 177 #[kB c,v] w fun e w'=> ∃a cap,e= .returned (.slice a (kw (qG c data) c.mn.toNat (data.length+1)).length cap)/\w'.ownsRow w.heap.size 3 1 (.slice a (kw (qG c data) c.mn.toNat (data.length+1)).length cap) (kw (qG c data) c.mn.toNat (data.length+1)).length ((kw (qG c data) c.mn.toNat (data.length+1)).map sr)/\Below w.heap.size w w':=by
 obtain⟨hX,a,cap,rfl,hn,hm,-⟩:=id hv;unfold maxLen at hm;obtain⟨n,hu⟩:=bH data.length;obtain⟨v1,v2,v3,v4,v5,v6,v7⟩:=mf.1 hc;obtain⟨mn,hO⟩:=bH (c.mn.toNat:Nat);have hT:=ag (show c.mn=(mn:Int) by omega);have h3:mn<=32768:=by omega
 obtain⟨mk,hE⟩:=bH (qG c data);obtain⟨W,hW⟩:=bH (w.alloc (.cells #[.int .i64 c.mn, .int .i64 c.mx, .int .i64 c.win, .int .i64 c.bits, .int .u64 (c.seed:Int)] 45));have HB:=ag (show Below w.heap.size w W by rw[hW]; exact eT);have HX:=ag (show jc c w.heap.size W by rw[hW]; exact aC w _);have HV:=ag (show bB S W (.slice a data.length cap) data by rw[hW]; exact bX.below hv (by omega) (eT))
 rw[<-hu]at hl hn HV;rw[<-hO,<-hE,<-hu];have HN:=ag hu;have hS:=ag hE;have HC:=ag hc;have HS:=ag hs;clear hv hX hu hO hE hc hs v1 v2 v4 v5 v6 v7;unfold kB
 go_enter Tryz.func177,Tryz.ntmps177
 go_upto_region 1 with fail
 rw[<-hW];clear hW;have hj:=HX.o;unfold jc at hj;obtain⟨c0,c1,c2,c3,c4,_⟩:=aT hj;clear hj;go_wp2_with fail;clear c0 c1 c2 c3 c4;refine(BT S c data _ _ HC.o HS.o HV.o (by rw[<-HN.o]; exact hl)).mono ?_;rw[<-HN.o];rintro e w1 ⟨g,gc,rfl,hw,hC⟩;have hH:=ag (show ∀q,q<=n->w1.cell? ⟨g,q,none⟩=some (.bool (mk q))from fun q hq=>by rw[hw.cellAt q (by omega),pM c data hq,hS.o,show decide (q<n+1)=true by rw[aG]; omega,ie])
 have hF:=ag (aj HB.o hC);have hU:=ag (HX.o.below hC);have hN:g<w1.heap.size:=(hw.lt g rfl).2;have Ha:n+1<=gc:=by
  obtain⟨a0,c0,he,h1,h2⟩:=aH hw
  cases he
  exact h1
 have h9:=hF.o.size;clear hw hC;have hI:=ag (show(w1.alloc (.cells #[] 3)).ownsRow w1.heap.size 3 1 (.slice (some ⟨w1.heap.size,0,none⟩) 0 0) 0 ((kw mk mn 1).map sr)from cW (e:=3) (size:=1) (base:=w1.heap.size) w1 #[] 0 (ah _) (aR _) (by simp));have hG:=ag ((ak w1.heap.size w1).alloc (ah _) (.cells #[] 3));go_wp2_with fail
 go_loopw [6,7] (fun o i wr=> ∃(p l:Nat) (ao:Option Addr) (co:Nat),1<=p/\p<=n+1/\i= .int .i64 (p:Int)/\o= .slice ao l co/\l=(kw mk mn p).length/\wr.ownsRow w1.heap.size 3 1 (.slice ao l co) l ((kw mk mn p).map sr)/\Below w1.heap.size w1 wr) (fun _ i _=>n+1-(intOf i).toNat)
 ·exact⟨1,0,_,_,ah _,by omega,rfl,rfl,rfl,hI.o,hG.o⟩
 ·obtain⟨p,l,ao,co,h4,Hd,rfl,rfl,hD,ho,hb⟩:=hrel;have hk:=ag hD;have HO:=ag ho;have hh:=ag hb;have hY:=Eg mk mn p;rw[<-hD]at hY;clear ho hb hD hI hG
  by_cases hZ:p<=n
  ·obtain⟨W2,hV⟩:=bH wr;subst hV;have Hc:(p:Int)<=(n:Int):=by omega
   have Hb:p<gc:=by omega
   have q0:=(hh.o.cell (p:=⟨g,p,none⟩) hN).trans (hH.o p hZ);go_wp2_with fail;clear q0
   go_loopw [8,9] (fun y j wq=> ∃(q:Nat) (b:Bool),q+1<=p/\j= .int .i64 (q:Int)/\y= .bool b/\qB mk mn p q b/\W2=wq) (fun _ j _=>(intOf j).toNat)
   ·exact⟨p-1,mk p,by omega,by rw[show((p-1:Nat):Int)=(p:Int)-1 by omega],rfl,qB.start _ _ _,rfl⟩
   ·obtain⟨q,b,Hg,rfl,rfl,hM,rfl⟩:=hrel;have hz:=ag hM;have hj:=hU.o.below hh.o;unfold jc at hj;have c0:=bD (k:=0) hj;simp only[aF,aD]at c0;rw[hT.o]at c0;clear hM hj
    by_cases hp:1<=q/\p<q+mn
    ·have hP:1<=(q:Int):=by omega
     have hR:(p:Int)-(mn:Int)<(q:Int):=by omega
     have He:q<gc:=by omega
     have Hf:q<n+1:=by omega
     have h8:(q:Int)<(n:Int)+1:=by omega
     have q0:=(hh.o.cell (p:=⟨g,q,none⟩) hN).trans (hH.o q (by omega))
     cases hg:mk q with
     | true=>
      rw[hg]at q0;have hA:=ag (hz.o.hit hp.1 (by omega) hp.2 hg);clear hg;go_wp2_with fail
      go_roundw
      ·exact⟨q-1,false,by omega,by rw[show((q-1:Nat):Int)=(q:Int)-1 by omega],rfl,hA.o,trivial⟩
      simp[intOf]; omega
     | false=>
      rw[hg]at q0;have hA:=ag (hz.o.miss hg);clear hg;go_wp2_with fail
      go_roundw
      ·exact⟨q-1,b,by omega,by rw[show((q-1:Nat):Int)=(q:Int)-1 by omega],rfl,hA.o,trivial⟩
      simp[intOf]; omega
    ·have hJ:=ag (hz.o.done h4 (by omega));have hL:=ag (KO mk mn p);have hr:l<1099511627775:=by omega
     have hx:=hh.o.size;have HZ:=ag (show ∀u∈[Value.int .i64 (p:Int)],u.oneCell'=true by simp[Value.oneCell'])
     cases b with
     | true=>
      have hf:=ag (show kw mk mn (p+1)=kw mk mn p++[p] by rw[hL.o,if_pos hJ.o.symm])
      by_cases hP:(1:Int)<=(q:Int)
      ·have hR: ¬(p:Int)-(mn:Int)<(q:Int):=by omega
       clear hp;go_wp2_with (at_builtin; go_loud (refine bP Tryz.appIntsM rfl _ _ rfl w1.heap.size (.slice ao l co) l ((kw mk mn p).map sr) rfl W2 [Value.int .i64 (p:Int)] _ rfl rfl HZ.o HO.o hr hx ?_); intro v' wc hd ha _ _; obtain⟨ae,ce,rfl,-,-⟩:=aH hd; have hB:=ag (show wc.ownsRow w1.heap.size 3 1 (.slice ae (l+1) ce) (l+1) ((kw mk mn (p+1)).map sr) by rw[hf.o,aI]; exact hd); have hy:=ag (bZ hh.o HO.o ha (ah _) hx); clear hd ha)
       exact⟨⟨p+1,l+1,ae,ce,by omega,by omega,by go_num,rfl,by rw[hf.o,ai,<-hk.o]; rfl,hB.o,hy.o⟩,by simp[intOf]; omega⟩
      ·clear hp;go_wp2_with (at_builtin; go_loud (refine bP Tryz.appIntsM rfl _ _ rfl w1.heap.size (.slice ao l co) l ((kw mk mn p).map sr) rfl W2 [Value.int .i64 (p:Int)] _ rfl rfl HZ.o HO.o hr hx ?_); intro v' wc hd ha _ _; obtain⟨ae,ce,rfl,-,-⟩:=aH hd; have hB:=ag (show wc.ownsRow w1.heap.size 3 1 (.slice ae (l+1) ce) (l+1) ((kw mk mn (p+1)).map sr) by rw[hf.o,aI]; exact hd); have hy:=ag (bZ hh.o HO.o ha (ah _) hx); clear hd ha)
       exact⟨⟨p+1,l+1,ae,ce,by omega,by omega,by go_num,rfl,by rw[hf.o,ai,<-hk.o]; rfl,hB.o,hy.o⟩,by simp[intOf]; omega⟩
     | false=>
      have hf:=ag (show kw mk mn (p+1)=kw mk mn p by rw[hL.o,if_neg (by rw[<-hJ.o]; decide)])
      by_cases hP:(1:Int)<=(q:Int)
      ·have hR: ¬(p:Int)-(mn:Int)<(q:Int):=by omega
       clear hp;go_wp2_with fail;exact⟨⟨p+1,l,ao,co,by omega,by omega,by go_num,rfl,by rw[hf.o,<-hk.o],by rw[hf.o]; exact HO.o,hh.o⟩,by simp[intOf]; omega⟩
      ·clear hp;go_wp2_with fail;exact⟨⟨p+1,l,ao,co,by omega,by omega,by go_num,rfl,by rw[hf.o,<-hk.o],by rw[hf.o]; exact HO.o,hh.o⟩,by simp[intOf]; omega⟩
  ·have h7:p=n+1:=by omega
   subst h7;have h0: ¬((n:Int)+1<=(n:Int)):=by omega
   go_wp2_with fail;go_ret;exact⟨ao,co,by rw[<-hk.o]; rfl,by rw[<-hk.o]; exact jf HO.o h9,aj hF.o hh.o⟩
end
end Go.Proofs.YtpffpjbkbaleiaaGreatDoor
