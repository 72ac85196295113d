/- Texts of this proof, one after the other: LoadB, BldB, BldC, BldD, BldE, RGet, Pres, RefA, RefB. -/
import Derived.Test.YtpffpjbkbaleiaaGreatDoorCCompletesE
set_option maxRecDepth 100000
set_option maxHeartbeats 8000000
namespace Go.Proofs.YtpffpjbkbaleiaaGreatDoor
section
open Go Go.RowKit
theorem mG {l:List UInt8} (h:dH l=true):l.length<=512:=by unfold dH at h;simp only[aF,aJ]at h;exact h.1.1
theorem qm {l:List UInt8} (h:dH l=true):1<=l.length:=by
 cases l with
 | nil=>exact absurd h (by decide)
 | cons a l=>simp
theorem vn (d n:ByteArray) (hn:1<=n.size):d.size+1<=(jS d n).size:=by
 unfold jS
 split
 ·omega
 ·simp only[ByteArray.size_append]
  show d.size+1<=d.size+1+n.size
  omega
theorem uC {cs:List (ByteArray×List UInt8)} {rec:ByteArray->cH->List dd->Int×List dd} {dir p:ByteArray} {it:cj} {r:List cj} {acc:List dd} (hp:jS dir it.name=p) (hv:dH (bl p)=true) (hl:acc.length<4096) (hk:it.kind=2):
  iR cs rec dir (it::r) acc=if(rec p it.node (acc++[⟨p,it.kind,it.mode,it.time,[],it.link⟩])).1=0 then iR cs rec dir r (rec p it.node (acc++[⟨p,it.kind,it.mode,it.time,[],it.link⟩])).2 else rec p it.node (acc++[⟨p,it.kind,it.mode,it.time,[],it.link⟩]):=by
 have hf:mO cs it=([],0):=by unfold mO; rw[if_neg (by omega)]
 rw[iR,hp,if_pos ⟨hv,hl⟩,hf];simp only[if_pos hk]
theorem xY {cs:List (ByteArray×List UInt8)} {rec:ByteArray->cH->List dd->Int×List dd} {dir p:ByteArray} {it:cj} {r:List cj} {acc:List dd} (hp:jS dir it.name=p) (hv:dH (bl p)=true) (hl:acc.length<4096) (hk:it.kind≠2) (hk1:it.kind≠1):
  iR cs rec dir (it::r) acc=iR cs rec dir r (acc++[⟨p,it.kind,it.mode,it.time,[],it.link⟩]):=by
 have hf:mO cs it=([],0):=by unfold mO; rw[if_neg hk1]
 rw[iR,hp,if_pos ⟨hv,hl⟩,hf];simp only[if_neg hk,if_true]
theorem sU {cs:List (ByteArray×List UInt8)} {rec:ByteArray->cH->List dd->Int×List dd} {dir p:ByteArray} {it:cj} {r:List cj} {acc:List dd} {bs:List UInt8} (hp:jS dir it.name=p) (hv:dH (bl p)=true) (hl:acc.length<4096) (hk1:it.kind=1) (hb:kA cs it.chunks []= .ok bs):
  iR cs rec dir (it::r) acc=iR cs rec dir r (acc++[⟨p,it.kind,it.mode,it.time,bs,it.link⟩]):=by
 have hf:mO cs it=(bs,0):=by unfold mO; rw[if_pos hk1,hb]
 have hk: ¬it.kind=2:=by omega
 rw[iR,hp,if_pos ⟨hv,hl⟩,hf];simp only[if_neg hk,if_true]
theorem AL {cs:List (ByteArray×List UInt8)} {rec:ByteArray->cH->List dd->Int×List dd} {dir p:ByteArray} {it:cj} {r:List cj} {acc:List dd} {x:Int} (hp:jS dir it.name=p) (hv:dH (bl p)=true) (hl:acc.length<4096) (hk1:it.kind=1) (hb:kA cs it.chunks []= .error x) (hx:x≠0):
  iR cs rec dir (it::r) acc=(x,acc++[⟨p,it.kind,it.mode,it.time,[],it.link⟩]):=by
 have hf:mO cs it=([],x):=by unfold mO; rw[if_pos hk1,hb]
 have hk: ¬it.kind=2:=by omega
 rw[iR,hp,if_pos ⟨hv,hl⟩,hf];simp only[if_neg hk,if_neg hx]
def GO (cs:List (ByteArray×List UInt8)) (cv:Value) (B n:Nat):Prop:= ∀(dir:ByteArray) (ref:cH) (acc:List dd) (base eb:Nat) (v:Value) (w:World),
 514<=dir.size+n->(dir.size=0\/dH (bl dir)=true)->lA w base eb v acc->eF ref->lO B cv cs w->B<=base->base<=eb->base<=w.heap.size->
 Calls Tryz.prog 78 #[cv, .string dir,fi ref, .pointer (some ⟨eb,0,none⟩)] w fun e w'=>e= .returned (.int .i64 (ie cs n dir ref acc).1)/\ ∃v',lA w' base eb v' (ie cs n dir ref acc).2/\ss base eb v v' w w'
theorem Ke (cs:List (ByteArray×List UInt8)) (cv:Value) (B:Nat):GO cs cv B 0:=by
 intro dir ref acc base eb v w hn hd
 exfalso
 rcases hd with h | h
 ·omega
 ·have:=mG h;rw[<-bi]at this;omega
theorem dG.wide {S:Nat->Prop} {w:World} : ∀ {m:List (Value×Value)} {cs:List (ByteArray×List UInt8)},dG S w m cs->dG (fun _=>True) w m cs
 | [],[],_=>trivial
 | [],_::_,h=>h
 | _::_,[],h=>h
 | (_,_)::_,(_,_)::_,h=>⟨h.1,cD.weak h.2.1 (fun _ _=>trivial),dG.wide h.2.2⟩
theorem gy.wide {S:Nat->Prop} {w:World} {cv:Value} {cs:List (ByteArray×List UInt8)} (h:gy S w cv cs):gy (fun _=>True) w cv cs:=by
 rcases h with h | ⟨b,m,h1,_,h2,h3⟩
 ·exact .inl h
 ·exact .inr ⟨b,m,h1,trivial,h2,h3.wide⟩
theorem lO.keepL {B base:Nat} {cv:Value} {cs:List (ByteArray×List UInt8)} {w w':World} (h:lO B cv cs w) (hb:Below base w w') (hB:B<=base):lO B cv cs w':=
 lO.keep w w' h ⟨hb.os,hb.tape,hb.output,hb.size,fun k _ hn=>hb.block k (by omega)⟩
theorem Kd (cs:List (ByteArray×List UInt8)) (cv:Value) (B n:Nat) (IH:GO cs cv B n):GO cs cv B (n+1):=by
 intro dir ref acc base eb v w hn hd Yg hr hi hB H4 Hu;have Yr:=ah IH;have HD:=ah hd;have Yj:=ah Yg;have HI:=ah hi;have HA:=ah ((ak w.heap.size w).alloc (ai _) (.cells #[.string ref.name, .int .i64 ref.gen, .int .i64 ref.size] 26));have H9:=tI (· <B) cv cs ref _ (hi.cont.below HA.o) hr (hi.env.below HA.o);have YF:eb<w.heap.size:=am Yg.1
 unfold fi at *;unfold Bg at H9;have Ys:=ah (show ie cs (n+1) dir ref acc=match iz cs ref with
  | .error x=>(x,acc)
  | .ok l=>iR cs (ie cs n) dir l acc from rfl)
 cases H1:iz cs ref with
 | error x=>
  rw[H1]at H9;have Yl:=ah H9;have HE:=ah (show ie cs (n+1) dir ref acc=(x,acc) by rw[Ys.o,H1]);clear H1 H9 IH hd Yg hr hi
  go_enter Tryz.func78,Tryz.ntmps78
  go_wp2_with fail;refine Yl.o.mono ?_;rintro e w1 ⟨yn,rfl,hx⟩;have yp:=ah (aj HA.o yn);have e1:(x != 0)=true:=by simp[hx]
  clear yn hx;go_wp2_with fail;go_ret;rw[HE.o];exact⟨rfl,v,Yj.o.below yp.o,ss.ofBelow yp.o Hu⟩
 | ok l=>
  rw[H1]at H9;have Yl:=ah H9;have HE:=ah (show ie cs (n+1) dir ref acc=iR cs (ie cs n) dir l acc by rw[Ys.o,H1]);have Yk:=ah (sL H1);clear H1 H9 IH hd Yg hr hi
  go_enter Tryz.func78,Tryz.ntmps78
  go_wp2_with fail;refine Yl.o.mono ?_;rintro e w1 ⟨yn,v1,rfl,Yp⟩;have yp:=ah (aj HA.o yn);obtain⟨a1,cap1,rfl,YB,YC,-⟩:=cN.shape Yp lG.len;unfold maxLen at YC;have y7:=ah (show vA w (w.heap.size+1) w1.heap.size base eb v (.slice a1 l.length cap1) l w1 v acc from
   ⟨Yj.o.below yp.o,ss.ofBelow yp.o Hu,fun k hk=> .inl (by obtain⟨_,ys,_,hr,_⟩:=Yj.o; have:=(hr.lt k hk).2; omega),by omega,⟨by omega,by have:=yn.size; simpa using this,ai _⟩,
    by have h:=eP.lt Yp; simpa using h⟩)
  obtain⟨m,hm⟩:=bI l.length;rw[<-hm]at y7 YB ⊢;have HM:=ah hm;have YG:m<=4096:=by rw[hm]; exact Yk.o.1
  clear yn Yp hm;go_wp2_with fail
  go_loopw [26] (fun i wr=> ∃(k:Nat) (v2:Value) (acc2:List dd),k<=m/\i= .int .i64 (k:Int)/\iR cs (ie cs n) dir (l.drop k) acc2=ie cs (n+1) dir ref acc/\vA w (w.heap.size+1) w1.heap.size base eb v (.slice a1 m cap1) l wr v2 acc2) (fun i _=>m-(intOf i).toNat)
  ·exact⟨0,v,acc,aU _,rfl,HE.o.symm,y7.o⟩
  ·obtain⟨k,v2,acc2,hk,rfl,YA,Yv⟩:=hrel;have Ho:=ah YA;have hA:=ah Yv;clear YA Yv
   by_cases Yw:k<m
   ·obtain⟨it,hr⟩: ∃it,l[k]? =some it:=⟨l[k]'(by rw[<-HM.o]; exact Yw),by simp⟩;obtain⟨b,o,ca,cc,rfl,Yx,Yz,YD,-,HJ⟩:=mT hA.o.its (ak _ _) hr;have q0:=HJ 0 (by omega);have q1:=HJ 1 (by omega);have q2:=HJ 2 (by omega);have q3:=HJ 3 (by omega);have q4:=HJ 4 (by omega);have q5:=HJ 5 (by omega);have q6:=HJ 6 (by omega);have q7:=HJ 7 (by omega)
    have q8:=HJ 8 (by omega);have q9:=HJ 9 (by omega);simp only[fu,aB,cQ,cZ]at q0 q1 q2 q3 q4 q5 q6 q7 q8 q9;have HO:=ah Yx;have Yt:=ah Yz;have Ht:=ah (show l.drop k=it::l.drop (k+1) by
     rw[cA (by rw[<-HM.o]; exact Yw)]
     congr 1
     exact(aD.1 hr).2)
    have Yb:=(nN Yk.o.2.1).2 it (aQ hr);have Yu:=ah Yb;have YE:dir.size<=512:=by
     rcases HD.o with h | h
     ·omega
     ·have:=mG h; rw[<-bi]at this; exact this
    have Yi:=pw.1 (by unfold iG at Yb; rw[aF]at Yb; exact Yb.1);have YH:it.name.size<=64:=by rw[bi]; exact tn Yi.val Yi.nos
    have H1:1<=it.name.size:=by rw[bi]; exact qm Yi.val
    have Yf:=ah (Yk.o.2.2 it (aQ hr));clear hr Yx Yz HJ Yb Yi;have Hx:=ah (show base<=wr.heap.size by have:=hA.o.ord; omega)
    by_cases Yh:dir.size=0
    ·have e2:dir.toList=[]:=by rw[eN]; exact bq (by rw[<-bi]; exact Yh)
     have e3:dir.toList.isEmpty=true:=by rw[e2]; rfl
     have Hv:=ah (show jS dir it.name=it.name by unfold jS; rw[if_pos Yh]);go_wp2_with fail;obtain⟨W,hW⟩:=bI ((wr.alloc (.cells #[.string it.name, .int .i64 it.kind, .int .i64 it.mode, .int .i64 it.time, .int .i64 it.size, .string it.link, .slice ca it.chunks.length cc, .string it.node.name, .int .i64 it.node.gen, .int .i64 it.node.size] 28)).alloc (.cells #[.string (it.name), .int .i64 it.kind, .int .i64 it.mode, .int .i64 it.time, .slice none 0 0, .string it.link] 79))
     rw[<-hW];have Hp:=ah (show Below wr.heap.size wr W by rw[hW]; exact(eW).alloc (by simp) _);have Ya:=ah (show W.heap[wr.heap.size]? =some (.cells #[.string it.name, .int .i64 it.kind, .int .i64 it.mode, .int .i64 it.time, .int .i64 it.size, .string it.link, .slice ca it.chunks.length cc, .string it.node.name, .int .i64 it.node.gen, .int .i64 it.node.size] 28 (0,0)) by rw[hW]; exact mY (ep wr _) _)
     have HC:=ah (show W.heap[wr.heap.size+1]? =some (.cells #[.string (it.name), .int .i64 it.kind, .int .i64 it.mode, .int .i64 it.time, .slice none 0 0, .string it.link] 79 (0,0)) by rw[hW]; exact qa wr _ _);have Hm:=ah (hA.o.below Hp.o Hx.o);have y6:=ah (show oz W from(HI.o.keepL (Hm.o.kp.below) hB).env);clear hW q0 q1 q2 q3 q4 q5 q6 q7 q8 q9
     cases Ha:dH (bl (it.name))with
     | false=>
      have h9:=ah Ha;clear Ha;refine(mW (it.name) false W y6.o h9.o).mono ?_;rintro e w2 ⟨rfl,h3⟩;have hC:=ah (Hm.o.below h3 (an Hx.o Hp.o.size));clear h3;go_wp2_with fail;go_ret;have h1:=Ho.o;rw[Ht.o,iR,if_neg (fun h=>by rw[Hv.o,h9.o]at h; cases h.1)]at h1;rw[<-h1];exact⟨rfl,v2,hC.o.box,hC.o.kp⟩
     | true=>
      have h9:=ah Ha;clear Ha;refine(mW (it.name) true W y6.o h9.o).mono ?_;rintro e w2 ⟨rfl,h3⟩;have hC:=ah (Hm.o.below h3 (an Hx.o Hp.o.size));have HX:=ah (er h3 Ya.o);have HY:=ah (er h3 HC.o);have h4:=ah (an (an Hx.o Hp.o.size) h3.size);have H8:=ah (show dN (fun k=>w.heap.size+1<=k/\k<w1.heap.size) w2 (.slice ca it.chunks.length cc) it.chunks from cN.below (cN.below Yt.o (by omega) Hp.o (fun _ _ _ h=>h)) (by omega) h3 (fun _ _ _ h=>h))
      have H2:=ah (Hp.o.trans (h3.mono Hp.o.size));clear h3 Ya HC;obtain⟨ys0,H0,Hi,-⟩:=hC.o.box.2;obtain⟨av0,cv0,yc,yl,Yq⟩:=aH Hi;have HL:ys0.length=acc2.length:=by rw[<-H0,aw]
      rw[HL]at yc yl;have e0:=ar (k:=0) hC.o.box.1;simp only[aC,aB]at e0;rw[yc]at e0;obtain⟨c0,c1,_⟩:=aS HX.o;have c6:=ar (k:=6) HX.o;have c7:=ar (k:=7) HX.o;have c8:=ar (k:=8) HX.o;have c9:=ar (k:=9) HX.o;obtain⟨d0,d1,d2,d3,d4,d5,_⟩:=aS HY.o;simp only[gd]at c6 c7 c8 c9;clear H0 Hi yc HL
      by_cases hO:acc2.length<4096
      ·have Yn:(acc2.length:Int)<4096:=by omega
       have h7:=ah hO;clear hO
       by_cases Hg:it.kind=1
       ·have e1:(it.kind == 1)=true:=by simp[Hg]
        have H3:=ah Hg;have e2:(it.kind == 2)=false:=by simp[Hg]
        have HG:=ms Hg (by have h:=Yu.o; unfold iG at h; rw[aF]at h; exact h.2);have yb:=yg (l:=it.chunks) (by have:=Yf.o; omega) (fun r hr=>(HG.2.2.1 r hr).1) _ (ai _);rw[dw]at yb;have Hq:=vi (fun _=>True) cv (.slice ca it.chunks.length cc) cs it.chunks w2 (gy.wide (HI.o.keepL hC.o.kp.below hB).cont) (dN.same H8.o (fun k _ _=>⟨trivial,rfl⟩)) yb.1 (by rw[<-HG.2.2.2.1]; exact HG.2.2.2.2) (by have:=Yf.o; omega) (fun r hr=>(HG.2.2.1 r hr).1)
        unfold Bc at Hq;clear Hg HG yb
        cases Hw:kA cs it.chunks []with
        | error x=>
         rw[Hw]at Hq;have Hl:=ah Hq;have H5:=ah Hw;clear Hq Hw;go_wp2_with fail;refine Hl.o.mono ?_;rintro e w5 ⟨hY,rfl,hx⟩;have HZ:=er hY HX.o;have h0:=er hY HY.o;have HC:=ah h0;have d4':=ar (k:=4) h0;have f4':=dE (k:=4) h0;simp only[gd]at d4';clear e0 c0 c1 c6 c7 c8 c9 d0 d1 d2 d3 d4 d5;go_wp2_with fail;obtain⟨W5,hM⟩:=bI (w5.setCell ⟨wr.heap.size+1,4,none⟩ (.slice none 0 0))
         rw[<-hM];have y9:=ah hM;have HB:=ah ((show W5.heap[wr.heap.size]? =w5.heap[wr.heap.size]? from by rw[hM,ay _ _ _ _ (by show wr.heap.size≠wr.heap.size+1; omega)]).trans HZ);have Hb:=jm (k:=4) h0 (.slice none 0 0);simp only[aW,cG,cn]at Hb;rw[<-hM]at Hb;have HF:=ah Hb;have hl:=ah (show vA w (w.heap.size+1) w1.heap.size base eb v (.slice (some ⟨b,o,none⟩) m cap1) l W5 v2 acc2 from hA.o.below (by rw[hM]; exact cz (H2.o.trans (hY.mono H2.o.size)) (by show wr.heap.size<=wr.heap.size+1; omega) _) Hx.o)
         have hE:=ah (show base<=W5.heap.size from an h4.o (by rw[hM]; have:=hY.size; simpa [World.setCell]using this));clear hM HZ h0 Hb d4' f4' HX HY hY;have HX:=HB;have HY:=HF;clear HB HF;have Hy:=ah (bM W5 base 5 1);have e4:(x != 0)=true:=by simp[hx]
         have h8:=ah (AL (cs:=cs) (rec:=ie cs n) (r:=l.drop (k+1)) Hv.o h9.o h7.o H3.o H5.o hx);clear hx;obtain⟨ys,Hk,hz,hG⟩:=hl.o.box.2;obtain⟨av,cv2,HP,Yd,Yc⟩:=aH hz;have hD:=ah hl.o.box.1;have hs:=ah hz;have hp:=ah hG
         have Hd:=ah Hk;subst HP;clear Hk hz hG
         obtain⟨W6,hX⟩:=bI ((W5).drew);have hj:Below (W5).heap.size (W5) W6:=by rw[hX]; exact(ak _ _).drew
         have yv:=ah hj;have Hc:=ah (er hj HX.o);have hU:=ah (er hj HY.o);have hf:=ah (er hj hD.o);have hg:=ah (cW hs.o hj);have hF:=ah (fun y hy=>cW (hp.o y hy) hj);have hR:=ah (cW (Hy).out hj);have hS:=ah (hl.o.below hj hE.o);have hZ:=an hE.o hj.size;have hP:=ah hZ;clear hj HX HY hl hD hs hp
         have hN:=ar (k:=0) hf.o;obtain⟨d0,d1,d2,d3,d4,d5,_⟩:=aS hU.o;have f1:=dE (k:=0) hf.o;simp only[aC,aB]at hN;refine eJ (fun w'=>w'.cell? ⟨eb,0,none⟩=some (.slice av ys.length cv2)/\w'.cell? ⟨wr.heap.size+1,0,none⟩=some (.string (it.name))/\w'.cell? ⟨wr.heap.size+1,1,none⟩=some (.int .i64 it.kind)/\w'.cell? ⟨wr.heap.size+1,2,none⟩=some (.int .i64 it.mode)/\w'.cell? ⟨wr.heap.size+1,3,none⟩=some (.int .i64 it.time)/\w'.cell? ⟨wr.heap.size+1,4,none⟩=some (.slice none 0 0)/\w'.cell? ⟨wr.heap.size+1,5,none⟩=some (.string it.link)) (by kernel_rfl) (by kernel_rfl) ?_
         simp only[bt,bu,az,bo,Nat.reduceAdd,Nat.reduceSub];rw[<-hX];clear hX
         iterate 5 (refine cI rfl ⟨hN,d0,d1,d2,d3,d4,d5⟩ (by rintro w' ⟨HQ,HR,HS,HT,HU,HV,HW⟩; go_simp; rfl) ?_; simp only[bN])
         have hH:eb<W6.heap.size:=am hf.o;have hb:wr.heap.size+1<W6.heap.size:=am hU.o;have hu:=ah ((ak W6.heap.size W6).alloc (ai _) (.cells #[.string (it.name), .int .i64 it.kind, .int .i64 it.mode, .int .i64 it.time, .slice none 0 0, .string it.link] 79));have He:=aA ((hu.o.cell (p:=⟨eb,0,none⟩) hH).trans hN) (aA ((hu.o.cell (p:=⟨wr.heap.size+1,0,none⟩) hb).trans d0) (aA ((hu.o.cell (p:=⟨wr.heap.size+1,1,none⟩) hb).trans d1) (aA ((hu.o.cell (p:=⟨wr.heap.size+1,2,none⟩) hb).trans d2) (aA ((hu.o.cell (p:=⟨wr.heap.size+1,3,none⟩) hb).trans d3) (aA ((hu.o.cell (p:=⟨wr.heap.size+1,4,none⟩) hb).trans d4) ((hu.o.cell (p:=⟨wr.heap.size+1,5,none⟩) hb).trans d5))))))
         have Hz:=ah He;clear He;refine cC 5 rfl (fun K hK=> ?_);go_wp2_with fail
         (first | (refine⟨Hz.o, ?_⟩) | skip)
         refine cC 6 rfl (fun K hK=> ?_);have Ye:ys.length<4096:=by have h1:=h7.o; rw[<-Hd.o,aw]at h1; exact h1
         go_wp2_with (at_builtin; go_must (refine bO Tryz.appEnts rfl _ _ rfl base (.slice av ys.length cv2) ys.length (iE ys) rfl W6 [.string (it.name), .int .i64 it.kind, .int .i64 it.mode, .int .i64 it.time, .slice none 0 0, .string it.link] _ rfl rfl (lj (e:=⟨it.name,it.kind,it.mode,it.time,[],it.link⟩)) hg.o (by omega) (by omega) ?_); intro v' wc hh ha _ Hh; obtain⟨ae,ce,rfl,-,-⟩:=aH hh)
         have hI:(Value.slice av ys.length cv2).ownBlock≠some eb:=fun e=>by obtain⟨cs,hc⟩:=bJ hg.o e;exact absurd (bU hf.o hc) (by decide)
         have hw: ∀i,(Value.slice av ys.length cv2).ownBlock=some i->i<wr.heap.size:=fun i e=>by obtain⟨_,ys',_,HN,_⟩:=hA.o.box;exact(HN.lt _ e).2
         have hL:(Value.slice av ys.length cv2).ownBlock≠some (wr.heap.size+1):=fun e=>by have:=hw _ e; omega
         have hJ:(Value.slice av ys.length cv2).ownBlock≠some wr.heap.size:=fun e=>by have:=hw _ e; omega
         have hv:=(ha.block eb hH (fun e=>hI e.symm)).trans hf.o;have h2:=(ha.block (wr.heap.size+1) hb (fun e=>hL e.symm)).trans hU.o;have Hj:=(ha.block wr.heap.size (am Hc.o) (fun e=>hJ e.symm)).trans Hc.o;have he:=lA.push (e:=⟨it.name,it.kind,it.mode,it.time,[],it.link⟩) hf.o hg.o hF.o hR.o hh ha Hh H4 hP.o
         rw[Hd.o]at he;have ho:=ah (hS.o.step he.1 he.2);have hT:=ah ((ay wc ⟨eb,0,none⟩ (.slice ae (ys.length+1) ce) wr.heap.size (by show wr.heap.size≠eb; have:=hA.o.lo; have:=hA.o.ord; omega)).trans Hj);have hV:=ah ((ay wc ⟨eb,0,none⟩ (.slice ae (ys.length+1) ce) (wr.heap.size+1) (by show wr.heap.size+1≠eb; have:=hA.o.lo; have:=hA.o.ord; omega)).trans h2)
         have c0':=ar (k:=0) hv;have f0':=dE (k:=0) hv;obtain⟨y0,y1,y2,y3,y4,y5,_⟩:=aS h2;simp only[aC,aB]at c0';clear hh ha Hh he hI hL hJ hw hN d0 d1 d2 d3 d4 d5 f1 hv h2 Hj;refine⟨⟨c0',y0,y1,y2,y3,y4,y5⟩, ?_⟩;refine cI rfl ⟨c0',y0,y1,y2,y3,y4,y5⟩ (by rintro w' ⟨HQ,HR,HS,HT,HU,HV,HW⟩; go_simp; rfl) ?_
         simp only[bN];refine cL (by kernel_rfl) ?_;refine eU rfl rfl (fun K hK=> ?_)
         go_upto_region 16 with(fail)
         obtain⟨W8,Hf⟩:=bI (wc.setCell ⟨eb,0,none⟩ (.slice ae (ys.length+1) ce));rw[<-Hf]at ho hT hV ⊢;clear Hf c0' f0' y0 y1 y2 y3 y4 y5;have HX:=hT;have HY:=hV;clear hT hV;obtain⟨c0,c1,_⟩:=aS HX.o;have c6:=ar (k:=6) HX.o;have c7:=ar (k:=7) HX.o;have c8:=ar (k:=8) HX.o;have c9:=ar (k:=9) HX.o;obtain⟨d0,d1,d2,d3,d4,d5,_⟩:=aS HY.o
         simp only[gd]at c6 c7 c8 c9;go_wp2_with fail;go_ret;rw[<-Ho.o,Ht.o,h8.o];exact⟨rfl,_,ho.o.box,ho.o.kp⟩
        | ok bs=>
         rw[Hw]at Hq;have Hl:=ah Hq;have H5:=ah Hw;clear Hq Hw;go_wp2_with fail;refine Hl.o.mono ?_;rintro e w5 ⟨hY,v5,rfl,ya⟩;obtain⟨a5,c5,rfl,-,-⟩:=aH ya;have y8:=ah ya;clear ya;have HZ:=er hY HX.o;have h0:=er hY HY.o;have HC:=ah h0;have d4':=ar (k:=4) h0;have f4':=dE (k:=4) h0;simp only[gd]at d4';clear e0 c0 c1 c6 c7 c8 c9 d0 d1 d2 d3 d4 d5
         go_wp2_with fail;obtain⟨W5,hM⟩:=bI (w5.setCell ⟨wr.heap.size+1,4,none⟩ (.slice a5 bs.length c5));rw[<-hM];have y9:=ah hM;have HB:=ah ((show W5.heap[wr.heap.size]? =w5.heap[wr.heap.size]? from by rw[hM,ay _ _ _ _ (by show wr.heap.size≠wr.heap.size+1; omega)]).trans HZ);have Hb:=jm (k:=4) h0 (.slice a5 bs.length c5);simp only[aW,cG,cn]at Hb
         rw[<-hM]at Hb;have HF:=ah Hb;have hl:=ah (show vA w (w.heap.size+1) w1.heap.size base eb v (.slice (some ⟨b,o,none⟩) m cap1) l W5 v2 acc2 from hA.o.below (by rw[hM]; exact cz (H2.o.trans (hY.mono H2.o.size)) (by show wr.heap.size<=wr.heap.size+1; omega) _) Hx.o);have hE:=ah (show base<=W5.heap.size from an h4.o (by rw[hM]; have:=hY.size; simpa [World.setCell]using this))
         clear hM HZ h0 Hb d4' f4' HX HY hY;have HX:=HB;have HY:=HF;clear HB HF;have Hy:=ah (show W5.ownsRow base 5 1 (.slice a5 bs.length c5) bs.length (bs.map aY)from by rw[y9.o];refine(gB y8.o h4.o).kept (cK w5 _ _ _) (.inr (fun e=> ?_));obtain⟨cs2,Ym⟩:=bJ y8.o e;exact absurd (bU HC.o Ym) (by decide))
         have h8:=ah (sU (cs:=cs) (rec:=ie cs n) (r:=l.drop (k+1)) Hv.o h9.o h7.o H3.o H5.o);obtain⟨ys,Hk,hz,hG⟩:=hl.o.box.2;obtain⟨av,cv2,HP,Yd,Yc⟩:=aH hz;have hD:=ah hl.o.box.1;have hs:=ah hz;have hp:=ah hG
         have Hd:=ah Hk;subst HP;clear Hk hz hG
         obtain⟨W6,hX⟩:=bI ((W5).drew);have hj:Below (W5).heap.size (W5) W6:=by rw[hX]; exact(ak _ _).drew
         have yv:=ah hj;have Hc:=ah (er hj HX.o);have hU:=ah (er hj HY.o);have hf:=ah (er hj hD.o);have hg:=ah (cW hs.o hj);have hF:=ah (fun y hy=>cW (hp.o y hy) hj);have hR:=ah (cW (Hy).out hj);have hS:=ah (hl.o.below hj hE.o);have hZ:=an hE.o hj.size;have hP:=ah hZ;clear hj HX HY hl hD hs hp
         have hN:=ar (k:=0) hf.o;obtain⟨d0,d1,d2,d3,d4,d5,_⟩:=aS hU.o;have f1:=dE (k:=0) hf.o;simp only[aC,aB]at hN;refine eJ (fun w'=>w'.cell? ⟨eb,0,none⟩=some (.slice av ys.length cv2)/\w'.cell? ⟨wr.heap.size+1,0,none⟩=some (.string (it.name))/\w'.cell? ⟨wr.heap.size+1,1,none⟩=some (.int .i64 it.kind)/\w'.cell? ⟨wr.heap.size+1,2,none⟩=some (.int .i64 it.mode)/\w'.cell? ⟨wr.heap.size+1,3,none⟩=some (.int .i64 it.time)/\w'.cell? ⟨wr.heap.size+1,4,none⟩=some (.slice a5 bs.length c5)/\w'.cell? ⟨wr.heap.size+1,5,none⟩=some (.string it.link)) (by kernel_rfl) (by kernel_rfl) ?_
         simp only[bt,bu,az,bo,Nat.reduceAdd,Nat.reduceSub];rw[<-hX];clear hX
         iterate 5 (refine cI rfl ⟨hN,d0,d1,d2,d3,d4,d5⟩ (by rintro w' ⟨HQ,HR,HS,HT,HU,HV,HW⟩; go_simp; rfl) ?_; simp only[bN])
         have hH:eb<W6.heap.size:=am hf.o;have hb:wr.heap.size+1<W6.heap.size:=am hU.o;have hu:=ah ((ak W6.heap.size W6).alloc (ai _) (.cells #[.string (it.name), .int .i64 it.kind, .int .i64 it.mode, .int .i64 it.time, .slice a5 bs.length c5, .string it.link] 79));have He:=aA ((hu.o.cell (p:=⟨eb,0,none⟩) hH).trans hN) (aA ((hu.o.cell (p:=⟨wr.heap.size+1,0,none⟩) hb).trans d0) (aA ((hu.o.cell (p:=⟨wr.heap.size+1,1,none⟩) hb).trans d1) (aA ((hu.o.cell (p:=⟨wr.heap.size+1,2,none⟩) hb).trans d2) (aA ((hu.o.cell (p:=⟨wr.heap.size+1,3,none⟩) hb).trans d3) (aA ((hu.o.cell (p:=⟨wr.heap.size+1,4,none⟩) hb).trans d4) ((hu.o.cell (p:=⟨wr.heap.size+1,5,none⟩) hb).trans d5))))))
         have Hz:=ah He;clear He;refine cC 5 rfl (fun K hK=> ?_);go_wp2_with fail
         (first | (refine⟨Hz.o, ?_⟩) | skip)
         refine cC 6 rfl (fun K hK=> ?_);have Ye:ys.length<4096:=by have h1:=h7.o; rw[<-Hd.o,aw]at h1; exact h1
         go_wp2_with (at_builtin; go_must (refine bO Tryz.appEnts rfl _ _ rfl base (.slice av ys.length cv2) ys.length (iE ys) rfl W6 [.string (it.name), .int .i64 it.kind, .int .i64 it.mode, .int .i64 it.time, .slice a5 bs.length c5, .string it.link] _ rfl rfl (lj (e:=⟨it.name,it.kind,it.mode,it.time,bs,it.link⟩)) hg.o (by omega) (by omega) ?_); intro v' wc hh ha _ Hh; obtain⟨ae,ce,rfl,-,-⟩:=aH hh)
         have hI:(Value.slice av ys.length cv2).ownBlock≠some eb:=fun e=>by obtain⟨cs,hc⟩:=bJ hg.o e;exact absurd (bU hf.o hc) (by decide)
         have hw: ∀i,(Value.slice av ys.length cv2).ownBlock=some i->i<wr.heap.size:=fun i e=>by obtain⟨_,ys',_,HN,_⟩:=hA.o.box;exact(HN.lt _ e).2
         have hL:(Value.slice av ys.length cv2).ownBlock≠some (wr.heap.size+1):=fun e=>by have:=hw _ e; omega
         have hJ:(Value.slice av ys.length cv2).ownBlock≠some wr.heap.size:=fun e=>by have:=hw _ e; omega
         have hv:=(ha.block eb hH (fun e=>hI e.symm)).trans hf.o;have h2:=(ha.block (wr.heap.size+1) hb (fun e=>hL e.symm)).trans hU.o;have Hj:=(ha.block wr.heap.size (am Hc.o) (fun e=>hJ e.symm)).trans Hc.o;have he:=lA.push (e:=⟨it.name,it.kind,it.mode,it.time,bs,it.link⟩) hf.o hg.o hF.o hR.o hh ha Hh H4 hP.o
         rw[Hd.o]at he;have ho:=ah (hS.o.step he.1 he.2);have hT:=ah ((ay wc ⟨eb,0,none⟩ (.slice ae (ys.length+1) ce) wr.heap.size (by show wr.heap.size≠eb; have:=hA.o.lo; have:=hA.o.ord; omega)).trans Hj);have hV:=ah ((ay wc ⟨eb,0,none⟩ (.slice ae (ys.length+1) ce) (wr.heap.size+1) (by show wr.heap.size+1≠eb; have:=hA.o.lo; have:=hA.o.ord; omega)).trans h2)
         have c0':=ar (k:=0) hv;have f0':=dE (k:=0) hv;obtain⟨y0,y1,y2,y3,y4,y5,_⟩:=aS h2;simp only[aC,aB]at c0';clear hh ha Hh he hI hL hJ hw hN d0 d1 d2 d3 d4 d5 f1 hv h2 Hj;refine⟨⟨c0',y0,y1,y2,y3,y4,y5⟩, ?_⟩;refine cI rfl ⟨c0',y0,y1,y2,y3,y4,y5⟩ (by rintro w' ⟨HQ,HR,HS,HT,HU,HV,HW⟩; go_simp; rfl) ?_
         simp only[bN];refine cL (by kernel_rfl) ?_;refine eU rfl rfl (fun K hK=> ?_)
         go_upto_region 16 with(fail)
         obtain⟨W8,Hf⟩:=bI (wc.setCell ⟨eb,0,none⟩ (.slice ae (ys.length+1) ce));rw[<-Hf]at ho hT hV ⊢;clear Hf c0' f0' y0 y1 y2 y3 y4 y5;have HX:=hT;have HY:=hV;clear hT hV;obtain⟨c0,c1,_⟩:=aS HX.o;have c6:=ar (k:=6) HX.o;have c7:=ar (k:=7) HX.o;have c8:=ar (k:=8) HX.o;have c9:=ar (k:=9) HX.o;obtain⟨d0,d1,d2,d3,d4,d5,_⟩:=aS HY.o
         simp only[gd]at c6 c7 c8 c9;go_wp2_with fail;clear c0 c1 c6 c7 c8 c9 d0 d1 d2 d3 d4 d5
         go_roundw
         ·exact⟨k+1,_,_,by omega,by go_num,by rw[<-Ho.o,Ht.o,h8.o],ho.o⟩
         simp[intOf]; omega
       ·have e1:(it.kind == 1)=false:=by simp[Hg]
        have H3:=ah Hg;clear Hg;have hl:=hC;have hE:=h4;have Hy:=ah (bM w2 base 5 1);go_wp2_with fail;clear e0 c0 c1 c6 c7 c8 c9 d0 d1 d2 d3 d4 d5;obtain⟨ys,Hk,hz,hG⟩:=hl.o.box.2;obtain⟨av,cv2,HP,Yd,Yc⟩:=aH hz;have hD:=ah hl.o.box.1;have hs:=ah hz;have hp:=ah hG
        have Hd:=ah Hk;subst HP;clear Hk hz hG
        obtain⟨W6,hX⟩:=bI ((w2).drew);have hj:Below (w2).heap.size (w2) W6:=by rw[hX]; exact(ak _ _).drew
        have yv:=ah hj;have Hc:=ah (er hj HX.o);have hU:=ah (er hj HY.o);have hf:=ah (er hj hD.o);have hg:=ah (cW hs.o hj);have hF:=ah (fun y hy=>cW (hp.o y hy) hj);have hR:=ah (cW (Hy).out hj);have hS:=ah (hl.o.below hj hE.o);have hZ:=an hE.o hj.size;have hP:=ah hZ;clear hj HX HY hl hD hs hp
        have hN:=ar (k:=0) hf.o;obtain⟨d0,d1,d2,d3,d4,d5,_⟩:=aS hU.o;have f1:=dE (k:=0) hf.o;simp only[aC,aB]at hN;refine eJ (fun w'=>w'.cell? ⟨eb,0,none⟩=some (.slice av ys.length cv2)/\w'.cell? ⟨wr.heap.size+1,0,none⟩=some (.string (it.name))/\w'.cell? ⟨wr.heap.size+1,1,none⟩=some (.int .i64 it.kind)/\w'.cell? ⟨wr.heap.size+1,2,none⟩=some (.int .i64 it.mode)/\w'.cell? ⟨wr.heap.size+1,3,none⟩=some (.int .i64 it.time)/\w'.cell? ⟨wr.heap.size+1,4,none⟩=some (.slice none 0 0)/\w'.cell? ⟨wr.heap.size+1,5,none⟩=some (.string it.link)) (by kernel_rfl) (by kernel_rfl) ?_
        simp only[bt,bu,az,bo,Nat.reduceAdd,Nat.reduceSub];rw[<-hX];clear hX
        iterate 5 (refine cI rfl ⟨hN,d0,d1,d2,d3,d4,d5⟩ (by rintro w' ⟨HQ,HR,HS,HT,HU,HV,HW⟩; go_simp; rfl) ?_; simp only[bN])
        have hH:eb<W6.heap.size:=am hf.o;have hb:wr.heap.size+1<W6.heap.size:=am hU.o;have hu:=ah ((ak W6.heap.size W6).alloc (ai _) (.cells #[.string (it.name), .int .i64 it.kind, .int .i64 it.mode, .int .i64 it.time, .slice none 0 0, .string it.link] 79));have He:=aA ((hu.o.cell (p:=⟨eb,0,none⟩) hH).trans hN) (aA ((hu.o.cell (p:=⟨wr.heap.size+1,0,none⟩) hb).trans d0) (aA ((hu.o.cell (p:=⟨wr.heap.size+1,1,none⟩) hb).trans d1) (aA ((hu.o.cell (p:=⟨wr.heap.size+1,2,none⟩) hb).trans d2) (aA ((hu.o.cell (p:=⟨wr.heap.size+1,3,none⟩) hb).trans d3) (aA ((hu.o.cell (p:=⟨wr.heap.size+1,4,none⟩) hb).trans d4) ((hu.o.cell (p:=⟨wr.heap.size+1,5,none⟩) hb).trans d5))))))
        have Hz:=ah He;clear He;refine cC 5 rfl (fun K hK=> ?_);go_wp2_with fail
        (first | (refine⟨Hz.o, ?_⟩) | skip)
        refine cC 6 rfl (fun K hK=> ?_);have Ye:ys.length<4096:=by have h1:=h7.o; rw[<-Hd.o,aw]at h1; exact h1
        go_wp2_with (at_builtin; go_must (refine bO Tryz.appEnts rfl _ _ rfl base (.slice av ys.length cv2) ys.length (iE ys) rfl W6 [.string (it.name), .int .i64 it.kind, .int .i64 it.mode, .int .i64 it.time, .slice none 0 0, .string it.link] _ rfl rfl (lj (e:=⟨it.name,it.kind,it.mode,it.time,[],it.link⟩)) hg.o (by omega) (by omega) ?_); intro v' wc hh ha _ Hh; obtain⟨ae,ce,rfl,-,-⟩:=aH hh)
        have hI:(Value.slice av ys.length cv2).ownBlock≠some eb:=fun e=>by obtain⟨cs,hc⟩:=bJ hg.o e;exact absurd (bU hf.o hc) (by decide)
        have hw: ∀i,(Value.slice av ys.length cv2).ownBlock=some i->i<wr.heap.size:=fun i e=>by obtain⟨_,ys',_,HN,_⟩:=hA.o.box;exact(HN.lt _ e).2
        have hL:(Value.slice av ys.length cv2).ownBlock≠some (wr.heap.size+1):=fun e=>by have:=hw _ e; omega
        have hJ:(Value.slice av ys.length cv2).ownBlock≠some wr.heap.size:=fun e=>by have:=hw _ e; omega
        have hv:=(ha.block eb hH (fun e=>hI e.symm)).trans hf.o;have h2:=(ha.block (wr.heap.size+1) hb (fun e=>hL e.symm)).trans hU.o;have Hj:=(ha.block wr.heap.size (am Hc.o) (fun e=>hJ e.symm)).trans Hc.o;have he:=lA.push (e:=⟨it.name,it.kind,it.mode,it.time,[],it.link⟩) hf.o hg.o hF.o hR.o hh ha Hh H4 hP.o
        rw[Hd.o]at he;have ho:=ah (hS.o.step he.1 he.2);have hT:=ah ((ay wc ⟨eb,0,none⟩ (.slice ae (ys.length+1) ce) wr.heap.size (by show wr.heap.size≠eb; have:=hA.o.lo; have:=hA.o.ord; omega)).trans Hj);have hV:=ah ((ay wc ⟨eb,0,none⟩ (.slice ae (ys.length+1) ce) (wr.heap.size+1) (by show wr.heap.size+1≠eb; have:=hA.o.lo; have:=hA.o.ord; omega)).trans h2)
        have c0':=ar (k:=0) hv;have f0':=dE (k:=0) hv;obtain⟨y0,y1,y2,y3,y4,y5,_⟩:=aS h2;simp only[aC,aB]at c0';clear hh ha Hh he hI hL hJ hw hN d0 d1 d2 d3 d4 d5 f1 hv h2 Hj;refine⟨⟨c0',y0,y1,y2,y3,y4,y5⟩, ?_⟩;refine cI rfl ⟨c0',y0,y1,y2,y3,y4,y5⟩ (by rintro w' ⟨HQ,HR,HS,HT,HU,HV,HW⟩; go_simp; rfl) ?_
        simp only[bN];refine cL (by kernel_rfl) ?_;refine eU rfl rfl (fun K hK=> ?_)
        go_upto_region 16 with(fail)
        obtain⟨W8,Hf⟩:=bI (wc.setCell ⟨eb,0,none⟩ (.slice ae (ys.length+1) ce));rw[<-Hf]at ho hT hV ⊢;clear Hf c0' f0' y0 y1 y2 y3 y4 y5;have HX:=hT;have HY:=hV;clear hT hV;obtain⟨c0,c1,_⟩:=aS HX.o;have c6:=ar (k:=6) HX.o;have c7:=ar (k:=7) HX.o;have c8:=ar (k:=8) HX.o;have c9:=ar (k:=9) HX.o;obtain⟨d0,d1,d2,d3,d4,d5,_⟩:=aS HY.o
        simp only[gd]at c6 c7 c8 c9
        by_cases Hr:it.kind=2
        ·have e2:(it.kind == 2)=true:=by simp[Hr]
         have Hs:=Yr.o (it.name) it.node (acc2++[⟨it.name,it.kind,it.mode,it.time,[],it.link⟩]) base eb _ W8 (by have h1:=vn dir it.name H1; rw[Hv.o]at h1; omega) (.inr h9.o) ho.o.box HO.o.nd (HI.o.keepL ho.o.kp.below hB) hB H4 (an Hu ho.o.kp.below.size);have h8:=ah (uC (cs:=cs) (rec:=ie cs n) (r:=l.drop (k+1)) Hv.o h9.o h7.o Hr)
         obtain⟨q,hq⟩:=bI (ie cs n (it.name) it.node (acc2++[⟨it.name,it.kind,it.mode,it.time,[],it.link⟩]));rw[<-hq]at Hs h8;have H7:=ah Hs;clear Hs hq Hr;go_wp2_with fail;refine H7.o.mono ?_;rintro e w9 ⟨rfl,v9,HH,HK⟩;have Hn:=ah (ho.o.step HH HK);clear HH HK c0 c1 c6 c7 c8 c9 d0 d1 d2 d3 d4 d5
         by_cases hx:q.1=0
         ·have e3:(q.1 != 0)=false:=by simp[hx]
          have H6:=ah hx;clear hx;go_wp2_with fail
          go_roundw
          ·exact⟨k+1,v9,q.2,by omega,by go_num,by rw[<-Ho.o,Ht.o,h8.o,if_pos H6.o],Hn.o⟩
          simp[intOf]; omega
         ·have e3:(q.1 != 0)=true:=by simp[hx]
          have H6:=ah hx;clear hx;go_wp2_with fail;go_ret;rw[<-Ho.o,Ht.o,h8.o,if_neg H6.o];exact⟨rfl,v9,Hn.o.box,Hn.o.kp⟩
        ·have e2:(it.kind == 2)=false:=by simp[Hr]
         have h8:=ah (xY (cs:=cs) (rec:=ie cs n) (r:=l.drop (k+1)) Hv.o h9.o h7.o Hr H3.o);clear Hr;go_wp2_with fail;clear c0 c1 c6 c7 c8 c9 d0 d1 d2 d3 d4 d5
         go_roundw
         ·exact⟨k+1,_,_,by omega,by go_num,by rw[<-Ho.o,Ht.o,h8.o],ho.o⟩
         simp[intOf]; omega
      ·have Yn: ¬(acc2.length:Int)<4096:=by omega
       have h7:=ah hO;clear hO;go_wp2_with fail;go_ret;have h1:=Ho.o;rw[Ht.o,iR,if_neg (fun h=>h7.o h.2)]at h1;rw[<-h1];exact⟨rfl,v2,hC.o.box,hC.o.kp⟩
    ·have e2:dir.toList≠[]:=by rw[eN]; intro h; apply Yh; rw[bi,h]; rfl
     have e3:dir.toList.isEmpty=false:=by simpa using e2
     have Yy:jS dir it.name=dir++⟨#[47]⟩++it.name:=by unfold jS; rw[if_neg Yh]
     go_wp2_with fail;rw[<-Yy];obtain⟨pt,Yo⟩: ∃pt,jS dir it.name=pt:=⟨_,rfl⟩;have Hv:=ah Yo;rw[Yo];clear Yo Yy;obtain⟨W,hW⟩:=bI ((wr.alloc (.cells #[.string it.name, .int .i64 it.kind, .int .i64 it.mode, .int .i64 it.time, .int .i64 it.size, .string it.link, .slice ca it.chunks.length cc, .string it.node.name, .int .i64 it.node.gen, .int .i64 it.node.size] 28)).alloc (.cells #[.string (pt), .int .i64 it.kind, .int .i64 it.mode, .int .i64 it.time, .slice none 0 0, .string it.link] 79))
     rw[<-hW];have Hp:=ah (show Below wr.heap.size wr W by rw[hW]; exact(eW).alloc (by simp) _);have Ya:=ah (show W.heap[wr.heap.size]? =some (.cells #[.string it.name, .int .i64 it.kind, .int .i64 it.mode, .int .i64 it.time, .int .i64 it.size, .string it.link, .slice ca it.chunks.length cc, .string it.node.name, .int .i64 it.node.gen, .int .i64 it.node.size] 28 (0,0)) by rw[hW]; exact mY (ep wr _) _)
     have HC:=ah (show W.heap[wr.heap.size+1]? =some (.cells #[.string (pt), .int .i64 it.kind, .int .i64 it.mode, .int .i64 it.time, .slice none 0 0, .string it.link] 79 (0,0)) by rw[hW]; exact qa wr _ _);have Hm:=ah (hA.o.below Hp.o Hx.o);have y6:=ah (show oz W from(HI.o.keepL (Hm.o.kp.below) hB).env);clear hW q0 q1 q2 q3 q4 q5 q6 q7 q8 q9
     cases Ha:dH (bl (pt))with
     | false=>
      have h9:=ah Ha;clear Ha;refine(mW (pt) false W y6.o h9.o).mono ?_;rintro e w2 ⟨rfl,h3⟩;have hC:=ah (Hm.o.below h3 (an Hx.o Hp.o.size));clear h3;go_wp2_with fail;go_ret;have h1:=Ho.o;rw[Ht.o,iR,if_neg (fun h=>by rw[Hv.o,h9.o]at h; cases h.1)]at h1;rw[<-h1];exact⟨rfl,v2,hC.o.box,hC.o.kp⟩
     | true=>
      have h9:=ah Ha;clear Ha;refine(mW (pt) true W y6.o h9.o).mono ?_;rintro e w2 ⟨rfl,h3⟩;have hC:=ah (Hm.o.below h3 (an Hx.o Hp.o.size));have HX:=ah (er h3 Ya.o);have HY:=ah (er h3 HC.o);have h4:=ah (an (an Hx.o Hp.o.size) h3.size);have H8:=ah (show dN (fun k=>w.heap.size+1<=k/\k<w1.heap.size) w2 (.slice ca it.chunks.length cc) it.chunks from cN.below (cN.below Yt.o (by omega) Hp.o (fun _ _ _ h=>h)) (by omega) h3 (fun _ _ _ h=>h))
      have H2:=ah (Hp.o.trans (h3.mono Hp.o.size));clear h3 Ya HC;obtain⟨ys0,H0,Hi,-⟩:=hC.o.box.2;obtain⟨av0,cv0,yc,yl,Yq⟩:=aH Hi;have HL:ys0.length=acc2.length:=by rw[<-H0,aw]
      rw[HL]at yc yl;have e0:=ar (k:=0) hC.o.box.1;simp only[aC,aB]at e0;rw[yc]at e0;obtain⟨c0,c1,_⟩:=aS HX.o;have c6:=ar (k:=6) HX.o;have c7:=ar (k:=7) HX.o;have c8:=ar (k:=8) HX.o;have c9:=ar (k:=9) HX.o;obtain⟨d0,d1,d2,d3,d4,d5,_⟩:=aS HY.o;simp only[gd]at c6 c7 c8 c9;clear H0 Hi yc HL
      by_cases hO:acc2.length<4096
      ·have Yn:(acc2.length:Int)<4096:=by omega
       have h7:=ah hO;clear hO
       by_cases Hg:it.kind=1
       ·have e1:(it.kind == 1)=true:=by simp[Hg]
        have H3:=ah Hg;have e2:(it.kind == 2)=false:=by simp[Hg]
        have HG:=ms Hg (by have h:=Yu.o; unfold iG at h; rw[aF]at h; exact h.2);have yb:=yg (l:=it.chunks) (by have:=Yf.o; omega) (fun r hr=>(HG.2.2.1 r hr).1) _ (ai _);rw[dw]at yb;have Hq:=vi (fun _=>True) cv (.slice ca it.chunks.length cc) cs it.chunks w2 (gy.wide (HI.o.keepL hC.o.kp.below hB).cont) (dN.same H8.o (fun k _ _=>⟨trivial,rfl⟩)) yb.1 (by rw[<-HG.2.2.2.1]; exact HG.2.2.2.2) (by have:=Yf.o; omega) (fun r hr=>(HG.2.2.1 r hr).1)
        unfold Bc at Hq;clear Hg HG yb
        cases Hw:kA cs it.chunks []with
        | error x=>
         rw[Hw]at Hq;have Hl:=ah Hq;have H5:=ah Hw;clear Hq Hw;go_wp2_with fail;refine Hl.o.mono ?_;rintro e w5 ⟨hY,rfl,hx⟩;have HZ:=er hY HX.o;have h0:=er hY HY.o;have HC:=ah h0;have d4':=ar (k:=4) h0;have f4':=dE (k:=4) h0;simp only[gd]at d4';clear e0 c0 c1 c6 c7 c8 c9 d0 d1 d2 d3 d4 d5;go_wp2_with fail;obtain⟨W5,hM⟩:=bI (w5.setCell ⟨wr.heap.size+1,4,none⟩ (.slice none 0 0))
         rw[<-hM];have y9:=ah hM;have HB:=ah ((show W5.heap[wr.heap.size]? =w5.heap[wr.heap.size]? from by rw[hM,ay _ _ _ _ (by show wr.heap.size≠wr.heap.size+1; omega)]).trans HZ);have Hb:=jm (k:=4) h0 (.slice none 0 0);simp only[aW,cG,cn]at Hb;rw[<-hM]at Hb;have HF:=ah Hb;have hl:=ah (show vA w (w.heap.size+1) w1.heap.size base eb v (.slice (some ⟨b,o,none⟩) m cap1) l W5 v2 acc2 from hA.o.below (by rw[hM]; exact cz (H2.o.trans (hY.mono H2.o.size)) (by show wr.heap.size<=wr.heap.size+1; omega) _) Hx.o)
         have hE:=ah (show base<=W5.heap.size from an h4.o (by rw[hM]; have:=hY.size; simpa [World.setCell]using this));clear hM HZ h0 Hb d4' f4' HX HY hY;have HX:=HB;have HY:=HF;clear HB HF;have Hy:=ah (bM W5 base 5 1);have e4:(x != 0)=true:=by simp[hx]
         have h8:=ah (AL (cs:=cs) (rec:=ie cs n) (r:=l.drop (k+1)) Hv.o h9.o h7.o H3.o H5.o hx);clear hx;obtain⟨ys,Hk,hz,hG⟩:=hl.o.box.2;obtain⟨av,cv2,HP,Yd,Yc⟩:=aH hz;have hD:=ah hl.o.box.1;have hs:=ah hz;have hp:=ah hG
         have Hd:=ah Hk;subst HP;clear Hk hz hG
         obtain⟨W6,hX⟩:=bI ((W5).drew);have hj:Below (W5).heap.size (W5) W6:=by rw[hX]; exact(ak _ _).drew
         have yv:=ah hj;have Hc:=ah (er hj HX.o);have hU:=ah (er hj HY.o);have hf:=ah (er hj hD.o);have hg:=ah (cW hs.o hj);have hF:=ah (fun y hy=>cW (hp.o y hy) hj);have hR:=ah (cW (Hy).out hj);have hS:=ah (hl.o.below hj hE.o);have hZ:=an hE.o hj.size;have hP:=ah hZ;clear hj HX HY hl hD hs hp
         have hN:=ar (k:=0) hf.o;obtain⟨d0,d1,d2,d3,d4,d5,_⟩:=aS hU.o;have f1:=dE (k:=0) hf.o;simp only[aC,aB]at hN;refine eJ (fun w'=>w'.cell? ⟨eb,0,none⟩=some (.slice av ys.length cv2)/\w'.cell? ⟨wr.heap.size+1,0,none⟩=some (.string (pt))/\w'.cell? ⟨wr.heap.size+1,1,none⟩=some (.int .i64 it.kind)/\w'.cell? ⟨wr.heap.size+1,2,none⟩=some (.int .i64 it.mode)/\w'.cell? ⟨wr.heap.size+1,3,none⟩=some (.int .i64 it.time)/\w'.cell? ⟨wr.heap.size+1,4,none⟩=some (.slice none 0 0)/\w'.cell? ⟨wr.heap.size+1,5,none⟩=some (.string it.link)) (by kernel_rfl) (by kernel_rfl) ?_
         simp only[bt,bu,az,bo,Nat.reduceAdd,Nat.reduceSub];rw[<-hX];clear hX
         iterate 5 (refine cI rfl ⟨hN,d0,d1,d2,d3,d4,d5⟩ (by rintro w' ⟨HQ,HR,HS,HT,HU,HV,HW⟩; go_simp; rfl) ?_; simp only[bN])
         have hH:eb<W6.heap.size:=am hf.o;have hb:wr.heap.size+1<W6.heap.size:=am hU.o;have hu:=ah ((ak W6.heap.size W6).alloc (ai _) (.cells #[.string (pt), .int .i64 it.kind, .int .i64 it.mode, .int .i64 it.time, .slice none 0 0, .string it.link] 79));have He:=aA ((hu.o.cell (p:=⟨eb,0,none⟩) hH).trans hN) (aA ((hu.o.cell (p:=⟨wr.heap.size+1,0,none⟩) hb).trans d0) (aA ((hu.o.cell (p:=⟨wr.heap.size+1,1,none⟩) hb).trans d1) (aA ((hu.o.cell (p:=⟨wr.heap.size+1,2,none⟩) hb).trans d2) (aA ((hu.o.cell (p:=⟨wr.heap.size+1,3,none⟩) hb).trans d3) (aA ((hu.o.cell (p:=⟨wr.heap.size+1,4,none⟩) hb).trans d4) ((hu.o.cell (p:=⟨wr.heap.size+1,5,none⟩) hb).trans d5))))))
         have Hz:=ah He;clear He;refine cC 5 rfl (fun K hK=> ?_);go_wp2_with fail
         (first | (refine⟨Hz.o, ?_⟩) | skip)
         refine cC 6 rfl (fun K hK=> ?_);have Ye:ys.length<4096:=by have h1:=h7.o; rw[<-Hd.o,aw]at h1; exact h1
         go_wp2_with (at_builtin; go_must (refine bO Tryz.appEnts rfl _ _ rfl base (.slice av ys.length cv2) ys.length (iE ys) rfl W6 [.string (pt), .int .i64 it.kind, .int .i64 it.mode, .int .i64 it.time, .slice none 0 0, .string it.link] _ rfl rfl (lj (e:=⟨pt,it.kind,it.mode,it.time,[],it.link⟩)) hg.o (by omega) (by omega) ?_); intro v' wc hh ha _ Hh; obtain⟨ae,ce,rfl,-,-⟩:=aH hh)
         have hI:(Value.slice av ys.length cv2).ownBlock≠some eb:=fun e=>by obtain⟨cs,hc⟩:=bJ hg.o e;exact absurd (bU hf.o hc) (by decide)
         have hw: ∀i,(Value.slice av ys.length cv2).ownBlock=some i->i<wr.heap.size:=fun i e=>by obtain⟨_,ys',_,HN,_⟩:=hA.o.box;exact(HN.lt _ e).2
         have hL:(Value.slice av ys.length cv2).ownBlock≠some (wr.heap.size+1):=fun e=>by have:=hw _ e; omega
         have hJ:(Value.slice av ys.length cv2).ownBlock≠some wr.heap.size:=fun e=>by have:=hw _ e; omega
         have hv:=(ha.block eb hH (fun e=>hI e.symm)).trans hf.o;have h2:=(ha.block (wr.heap.size+1) hb (fun e=>hL e.symm)).trans hU.o;have Hj:=(ha.block wr.heap.size (am Hc.o) (fun e=>hJ e.symm)).trans Hc.o;have he:=lA.push (e:=⟨pt,it.kind,it.mode,it.time,[],it.link⟩) hf.o hg.o hF.o hR.o hh ha Hh H4 hP.o;rw[Hd.o]at he
         have ho:=ah (hS.o.step he.1 he.2);have hT:=ah ((ay wc ⟨eb,0,none⟩ (.slice ae (ys.length+1) ce) wr.heap.size (by show wr.heap.size≠eb; have:=hA.o.lo; have:=hA.o.ord; omega)).trans Hj);have hV:=ah ((ay wc ⟨eb,0,none⟩ (.slice ae (ys.length+1) ce) (wr.heap.size+1) (by show wr.heap.size+1≠eb; have:=hA.o.lo; have:=hA.o.ord; omega)).trans h2)
         have c0':=ar (k:=0) hv;have f0':=dE (k:=0) hv;obtain⟨y0,y1,y2,y3,y4,y5,_⟩:=aS h2;simp only[aC,aB]at c0';clear hh ha Hh he hI hL hJ hw hN d0 d1 d2 d3 d4 d5 f1 hv h2 Hj;refine⟨⟨c0',y0,y1,y2,y3,y4,y5⟩, ?_⟩;refine cI rfl ⟨c0',y0,y1,y2,y3,y4,y5⟩ (by rintro w' ⟨HQ,HR,HS,HT,HU,HV,HW⟩; go_simp; rfl) ?_
         simp only[bN];refine cL (by kernel_rfl) ?_;refine eU rfl rfl (fun K hK=> ?_)
         go_upto_region 16 with(fail)
         obtain⟨W8,Hf⟩:=bI (wc.setCell ⟨eb,0,none⟩ (.slice ae (ys.length+1) ce));rw[<-Hf]at ho hT hV ⊢;clear Hf c0' f0' y0 y1 y2 y3 y4 y5;have HX:=hT;have HY:=hV;clear hT hV;obtain⟨c0,c1,_⟩:=aS HX.o;have c6:=ar (k:=6) HX.o;have c7:=ar (k:=7) HX.o;have c8:=ar (k:=8) HX.o;have c9:=ar (k:=9) HX.o;obtain⟨d0,d1,d2,d3,d4,d5,_⟩:=aS HY.o
         simp only[gd]at c6 c7 c8 c9;go_wp2_with fail;go_ret;rw[<-Ho.o,Ht.o,h8.o];exact⟨rfl,_,ho.o.box,ho.o.kp⟩
        | ok bs=>
         rw[Hw]at Hq;have Hl:=ah Hq;have H5:=ah Hw;clear Hq Hw;go_wp2_with fail;refine Hl.o.mono ?_;rintro e w5 ⟨hY,v5,rfl,ya⟩;obtain⟨a5,c5,rfl,-,-⟩:=aH ya;have y8:=ah ya;clear ya;have HZ:=er hY HX.o;have h0:=er hY HY.o;have HC:=ah h0;have d4':=ar (k:=4) h0;have f4':=dE (k:=4) h0;simp only[gd]at d4';clear e0 c0 c1 c6 c7 c8 c9 d0 d1 d2 d3 d4 d5
         go_wp2_with fail;obtain⟨W5,hM⟩:=bI (w5.setCell ⟨wr.heap.size+1,4,none⟩ (.slice a5 bs.length c5));rw[<-hM];have y9:=ah hM;have HB:=ah ((show W5.heap[wr.heap.size]? =w5.heap[wr.heap.size]? from by rw[hM,ay _ _ _ _ (by show wr.heap.size≠wr.heap.size+1; omega)]).trans HZ);have Hb:=jm (k:=4) h0 (.slice a5 bs.length c5);simp only[aW,cG,cn]at Hb
         rw[<-hM]at Hb;have HF:=ah Hb;have hl:=ah (show vA w (w.heap.size+1) w1.heap.size base eb v (.slice (some ⟨b,o,none⟩) m cap1) l W5 v2 acc2 from hA.o.below (by rw[hM]; exact cz (H2.o.trans (hY.mono H2.o.size)) (by show wr.heap.size<=wr.heap.size+1; omega) _) Hx.o);have hE:=ah (show base<=W5.heap.size from an h4.o (by rw[hM]; have:=hY.size; simpa [World.setCell]using this))
         clear hM HZ h0 Hb d4' f4' HX HY hY;have HX:=HB;have HY:=HF;clear HB HF;have Hy:=ah (show W5.ownsRow base 5 1 (.slice a5 bs.length c5) bs.length (bs.map aY)from by rw[y9.o];refine(gB y8.o h4.o).kept (cK w5 _ _ _) (.inr (fun e=> ?_));obtain⟨cs2,Ym⟩:=bJ y8.o e;exact absurd (bU HC.o Ym) (by decide))
         have h8:=ah (sU (cs:=cs) (rec:=ie cs n) (r:=l.drop (k+1)) Hv.o h9.o h7.o H3.o H5.o);obtain⟨ys,Hk,hz,hG⟩:=hl.o.box.2;obtain⟨av,cv2,HP,Yd,Yc⟩:=aH hz;have hD:=ah hl.o.box.1;have hs:=ah hz;have hp:=ah hG
         have Hd:=ah Hk;subst HP;clear Hk hz hG
         obtain⟨W6,hX⟩:=bI ((W5).drew);have hj:Below (W5).heap.size (W5) W6:=by rw[hX]; exact(ak _ _).drew
         have yv:=ah hj;have Hc:=ah (er hj HX.o);have hU:=ah (er hj HY.o);have hf:=ah (er hj hD.o);have hg:=ah (cW hs.o hj);have hF:=ah (fun y hy=>cW (hp.o y hy) hj);have hR:=ah (cW (Hy).out hj);have hS:=ah (hl.o.below hj hE.o);have hZ:=an hE.o hj.size;have hP:=ah hZ;clear hj HX HY hl hD hs hp
         have hN:=ar (k:=0) hf.o;obtain⟨d0,d1,d2,d3,d4,d5,_⟩:=aS hU.o;have f1:=dE (k:=0) hf.o;simp only[aC,aB]at hN;refine eJ (fun w'=>w'.cell? ⟨eb,0,none⟩=some (.slice av ys.length cv2)/\w'.cell? ⟨wr.heap.size+1,0,none⟩=some (.string (pt))/\w'.cell? ⟨wr.heap.size+1,1,none⟩=some (.int .i64 it.kind)/\w'.cell? ⟨wr.heap.size+1,2,none⟩=some (.int .i64 it.mode)/\w'.cell? ⟨wr.heap.size+1,3,none⟩=some (.int .i64 it.time)/\w'.cell? ⟨wr.heap.size+1,4,none⟩=some (.slice a5 bs.length c5)/\w'.cell? ⟨wr.heap.size+1,5,none⟩=some (.string it.link)) (by kernel_rfl) (by kernel_rfl) ?_
         simp only[bt,bu,az,bo,Nat.reduceAdd,Nat.reduceSub];rw[<-hX];clear hX
         iterate 5 (refine cI rfl ⟨hN,d0,d1,d2,d3,d4,d5⟩ (by rintro w' ⟨HQ,HR,HS,HT,HU,HV,HW⟩; go_simp; rfl) ?_; simp only[bN])
         have hH:eb<W6.heap.size:=am hf.o;have hb:wr.heap.size+1<W6.heap.size:=am hU.o;have hu:=ah ((ak W6.heap.size W6).alloc (ai _) (.cells #[.string (pt), .int .i64 it.kind, .int .i64 it.mode, .int .i64 it.time, .slice a5 bs.length c5, .string it.link] 79));have He:=aA ((hu.o.cell (p:=⟨eb,0,none⟩) hH).trans hN) (aA ((hu.o.cell (p:=⟨wr.heap.size+1,0,none⟩) hb).trans d0) (aA ((hu.o.cell (p:=⟨wr.heap.size+1,1,none⟩) hb).trans d1) (aA ((hu.o.cell (p:=⟨wr.heap.size+1,2,none⟩) hb).trans d2) (aA ((hu.o.cell (p:=⟨wr.heap.size+1,3,none⟩) hb).trans d3) (aA ((hu.o.cell (p:=⟨wr.heap.size+1,4,none⟩) hb).trans d4) ((hu.o.cell (p:=⟨wr.heap.size+1,5,none⟩) hb).trans d5))))))
         have Hz:=ah He;clear He;refine cC 5 rfl (fun K hK=> ?_);go_wp2_with fail
         (first | (refine⟨Hz.o, ?_⟩) | skip)
         refine cC 6 rfl (fun K hK=> ?_);have Ye:ys.length<4096:=by have h1:=h7.o; rw[<-Hd.o,aw]at h1; exact h1
         go_wp2_with (at_builtin; go_must (refine bO Tryz.appEnts rfl _ _ rfl base (.slice av ys.length cv2) ys.length (iE ys) rfl W6 [.string (pt), .int .i64 it.kind, .int .i64 it.mode, .int .i64 it.time, .slice a5 bs.length c5, .string it.link] _ rfl rfl (lj (e:=⟨pt,it.kind,it.mode,it.time,bs,it.link⟩)) hg.o (by omega) (by omega) ?_); intro v' wc hh ha _ Hh; obtain⟨ae,ce,rfl,-,-⟩:=aH hh)
         have hI:(Value.slice av ys.length cv2).ownBlock≠some eb:=fun e=>by obtain⟨cs,hc⟩:=bJ hg.o e;exact absurd (bU hf.o hc) (by decide)
         have hw: ∀i,(Value.slice av ys.length cv2).ownBlock=some i->i<wr.heap.size:=fun i e=>by obtain⟨_,ys',_,HN,_⟩:=hA.o.box;exact(HN.lt _ e).2
         have hL:(Value.slice av ys.length cv2).ownBlock≠some (wr.heap.size+1):=fun e=>by have:=hw _ e; omega
         have hJ:(Value.slice av ys.length cv2).ownBlock≠some wr.heap.size:=fun e=>by have:=hw _ e; omega
         have hv:=(ha.block eb hH (fun e=>hI e.symm)).trans hf.o;have h2:=(ha.block (wr.heap.size+1) hb (fun e=>hL e.symm)).trans hU.o;have Hj:=(ha.block wr.heap.size (am Hc.o) (fun e=>hJ e.symm)).trans Hc.o;have he:=lA.push (e:=⟨pt,it.kind,it.mode,it.time,bs,it.link⟩) hf.o hg.o hF.o hR.o hh ha Hh H4 hP.o;rw[Hd.o]at he
         have ho:=ah (hS.o.step he.1 he.2);have hT:=ah ((ay wc ⟨eb,0,none⟩ (.slice ae (ys.length+1) ce) wr.heap.size (by show wr.heap.size≠eb; have:=hA.o.lo; have:=hA.o.ord; omega)).trans Hj);have hV:=ah ((ay wc ⟨eb,0,none⟩ (.slice ae (ys.length+1) ce) (wr.heap.size+1) (by show wr.heap.size+1≠eb; have:=hA.o.lo; have:=hA.o.ord; omega)).trans h2)
         have c0':=ar (k:=0) hv;have f0':=dE (k:=0) hv;obtain⟨y0,y1,y2,y3,y4,y5,_⟩:=aS h2;simp only[aC,aB]at c0';clear hh ha Hh he hI hL hJ hw hN d0 d1 d2 d3 d4 d5 f1 hv h2 Hj;refine⟨⟨c0',y0,y1,y2,y3,y4,y5⟩, ?_⟩;refine cI rfl ⟨c0',y0,y1,y2,y3,y4,y5⟩ (by rintro w' ⟨HQ,HR,HS,HT,HU,HV,HW⟩; go_simp; rfl) ?_
         simp only[bN];refine cL (by kernel_rfl) ?_;refine eU rfl rfl (fun K hK=> ?_)
         go_upto_region 16 with(fail)
         obtain⟨W8,Hf⟩:=bI (wc.setCell ⟨eb,0,none⟩ (.slice ae (ys.length+1) ce));rw[<-Hf]at ho hT hV ⊢;clear Hf c0' f0' y0 y1 y2 y3 y4 y5;have HX:=hT;have HY:=hV;clear hT hV;obtain⟨c0,c1,_⟩:=aS HX.o;have c6:=ar (k:=6) HX.o;have c7:=ar (k:=7) HX.o;have c8:=ar (k:=8) HX.o;have c9:=ar (k:=9) HX.o;obtain⟨d0,d1,d2,d3,d4,d5,_⟩:=aS HY.o
         simp only[gd]at c6 c7 c8 c9;go_wp2_with fail;clear c0 c1 c6 c7 c8 c9 d0 d1 d2 d3 d4 d5
         go_roundw
         ·exact⟨k+1,_,_,by omega,by go_num,by rw[<-Ho.o,Ht.o,h8.o],ho.o⟩
         simp[intOf]; omega
       ·have e1:(it.kind == 1)=false:=by simp[Hg]
        have H3:=ah Hg;clear Hg;have hl:=hC;have hE:=h4;have Hy:=ah (bM w2 base 5 1);go_wp2_with fail;clear e0 c0 c1 c6 c7 c8 c9 d0 d1 d2 d3 d4 d5;obtain⟨ys,Hk,hz,hG⟩:=hl.o.box.2;obtain⟨av,cv2,HP,Yd,Yc⟩:=aH hz;have hD:=ah hl.o.box.1;have hs:=ah hz;have hp:=ah hG
        have Hd:=ah Hk;subst HP;clear Hk hz hG
        obtain⟨W6,hX⟩:=bI ((w2).drew);have hj:Below (w2).heap.size (w2) W6:=by rw[hX]; exact(ak _ _).drew
        have yv:=ah hj;have Hc:=ah (er hj HX.o);have hU:=ah (er hj HY.o);have hf:=ah (er hj hD.o);have hg:=ah (cW hs.o hj);have hF:=ah (fun y hy=>cW (hp.o y hy) hj);have hR:=ah (cW (Hy).out hj);have hS:=ah (hl.o.below hj hE.o);have hZ:=an hE.o hj.size;have hP:=ah hZ;clear hj HX HY hl hD hs hp
        have hN:=ar (k:=0) hf.o;obtain⟨d0,d1,d2,d3,d4,d5,_⟩:=aS hU.o;have f1:=dE (k:=0) hf.o;simp only[aC,aB]at hN;refine eJ (fun w'=>w'.cell? ⟨eb,0,none⟩=some (.slice av ys.length cv2)/\w'.cell? ⟨wr.heap.size+1,0,none⟩=some (.string (pt))/\w'.cell? ⟨wr.heap.size+1,1,none⟩=some (.int .i64 it.kind)/\w'.cell? ⟨wr.heap.size+1,2,none⟩=some (.int .i64 it.mode)/\w'.cell? ⟨wr.heap.size+1,3,none⟩=some (.int .i64 it.time)/\w'.cell? ⟨wr.heap.size+1,4,none⟩=some (.slice none 0 0)/\w'.cell? ⟨wr.heap.size+1,5,none⟩=some (.string it.link)) (by kernel_rfl) (by kernel_rfl) ?_
        simp only[bt,bu,az,bo,Nat.reduceAdd,Nat.reduceSub];rw[<-hX];clear hX
        iterate 5 (refine cI rfl ⟨hN,d0,d1,d2,d3,d4,d5⟩ (by rintro w' ⟨HQ,HR,HS,HT,HU,HV,HW⟩; go_simp; rfl) ?_; simp only[bN])
        have hH:eb<W6.heap.size:=am hf.o;have hb:wr.heap.size+1<W6.heap.size:=am hU.o;have hu:=ah ((ak W6.heap.size W6).alloc (ai _) (.cells #[.string (pt), .int .i64 it.kind, .int .i64 it.mode, .int .i64 it.time, .slice none 0 0, .string it.link] 79));have He:=aA ((hu.o.cell (p:=⟨eb,0,none⟩) hH).trans hN) (aA ((hu.o.cell (p:=⟨wr.heap.size+1,0,none⟩) hb).trans d0) (aA ((hu.o.cell (p:=⟨wr.heap.size+1,1,none⟩) hb).trans d1) (aA ((hu.o.cell (p:=⟨wr.heap.size+1,2,none⟩) hb).trans d2) (aA ((hu.o.cell (p:=⟨wr.heap.size+1,3,none⟩) hb).trans d3) (aA ((hu.o.cell (p:=⟨wr.heap.size+1,4,none⟩) hb).trans d4) ((hu.o.cell (p:=⟨wr.heap.size+1,5,none⟩) hb).trans d5))))))
        have Hz:=ah He;clear He;refine cC 5 rfl (fun K hK=> ?_);go_wp2_with fail
        (first | (refine⟨Hz.o, ?_⟩) | skip)
        refine cC 6 rfl (fun K hK=> ?_);have Ye:ys.length<4096:=by have h1:=h7.o; rw[<-Hd.o,aw]at h1; exact h1
        go_wp2_with (at_builtin; go_must (refine bO Tryz.appEnts rfl _ _ rfl base (.slice av ys.length cv2) ys.length (iE ys) rfl W6 [.string (pt), .int .i64 it.kind, .int .i64 it.mode, .int .i64 it.time, .slice none 0 0, .string it.link] _ rfl rfl (lj (e:=⟨pt,it.kind,it.mode,it.time,[],it.link⟩)) hg.o (by omega) (by omega) ?_); intro v' wc hh ha _ Hh; obtain⟨ae,ce,rfl,-,-⟩:=aH hh)
        have hI:(Value.slice av ys.length cv2).ownBlock≠some eb:=fun e=>by obtain⟨cs,hc⟩:=bJ hg.o e;exact absurd (bU hf.o hc) (by decide)
        have hw: ∀i,(Value.slice av ys.length cv2).ownBlock=some i->i<wr.heap.size:=fun i e=>by obtain⟨_,ys',_,HN,_⟩:=hA.o.box;exact(HN.lt _ e).2
        have hL:(Value.slice av ys.length cv2).ownBlock≠some (wr.heap.size+1):=fun e=>by have:=hw _ e; omega
        have hJ:(Value.slice av ys.length cv2).ownBlock≠some wr.heap.size:=fun e=>by have:=hw _ e; omega
        have hv:=(ha.block eb hH (fun e=>hI e.symm)).trans hf.o;have h2:=(ha.block (wr.heap.size+1) hb (fun e=>hL e.symm)).trans hU.o;have Hj:=(ha.block wr.heap.size (am Hc.o) (fun e=>hJ e.symm)).trans Hc.o;have he:=lA.push (e:=⟨pt,it.kind,it.mode,it.time,[],it.link⟩) hf.o hg.o hF.o hR.o hh ha Hh H4 hP.o;rw[Hd.o]at he
        have ho:=ah (hS.o.step he.1 he.2);have hT:=ah ((ay wc ⟨eb,0,none⟩ (.slice ae (ys.length+1) ce) wr.heap.size (by show wr.heap.size≠eb; have:=hA.o.lo; have:=hA.o.ord; omega)).trans Hj);have hV:=ah ((ay wc ⟨eb,0,none⟩ (.slice ae (ys.length+1) ce) (wr.heap.size+1) (by show wr.heap.size+1≠eb; have:=hA.o.lo; have:=hA.o.ord; omega)).trans h2)
        have c0':=ar (k:=0) hv;have f0':=dE (k:=0) hv;obtain⟨y0,y1,y2,y3,y4,y5,_⟩:=aS h2;simp only[aC,aB]at c0';clear hh ha Hh he hI hL hJ hw hN d0 d1 d2 d3 d4 d5 f1 hv h2 Hj;refine⟨⟨c0',y0,y1,y2,y3,y4,y5⟩, ?_⟩;refine cI rfl ⟨c0',y0,y1,y2,y3,y4,y5⟩ (by rintro w' ⟨HQ,HR,HS,HT,HU,HV,HW⟩; go_simp; rfl) ?_
        simp only[bN];refine cL (by kernel_rfl) ?_;refine eU rfl rfl (fun K hK=> ?_)
        go_upto_region 16 with(fail)
        obtain⟨W8,Hf⟩:=bI (wc.setCell ⟨eb,0,none⟩ (.slice ae (ys.length+1) ce));rw[<-Hf]at ho hT hV ⊢;clear Hf c0' f0' y0 y1 y2 y3 y4 y5;have HX:=hT;have HY:=hV;clear hT hV;obtain⟨c0,c1,_⟩:=aS HX.o;have c6:=ar (k:=6) HX.o;have c7:=ar (k:=7) HX.o;have c8:=ar (k:=8) HX.o;have c9:=ar (k:=9) HX.o;obtain⟨d0,d1,d2,d3,d4,d5,_⟩:=aS HY.o
        simp only[gd]at c6 c7 c8 c9
        by_cases Hr:it.kind=2
        ·have e2:(it.kind == 2)=true:=by simp[Hr]
         have Hs:=Yr.o (pt) it.node (acc2++[⟨pt,it.kind,it.mode,it.time,[],it.link⟩]) base eb _ W8 (by have h1:=vn dir it.name H1; rw[Hv.o]at h1; omega) (.inr h9.o) ho.o.box HO.o.nd (HI.o.keepL ho.o.kp.below hB) hB H4 (an Hu ho.o.kp.below.size);have h8:=ah (uC (cs:=cs) (rec:=ie cs n) (r:=l.drop (k+1)) Hv.o h9.o h7.o Hr);obtain⟨q,hq⟩:=bI (ie cs n (pt) it.node (acc2++[⟨pt,it.kind,it.mode,it.time,[],it.link⟩]))
         rw[<-hq]at Hs h8;have H7:=ah Hs;clear Hs hq Hr;go_wp2_with fail;refine H7.o.mono ?_;rintro e w9 ⟨rfl,v9,HH,HK⟩;have Hn:=ah (ho.o.step HH HK);clear HH HK c0 c1 c6 c7 c8 c9 d0 d1 d2 d3 d4 d5
         by_cases hx:q.1=0
         ·have e3:(q.1 != 0)=false:=by simp[hx]
          have H6:=ah hx;clear hx;go_wp2_with fail
          go_roundw
          ·exact⟨k+1,v9,q.2,by omega,by go_num,by rw[<-Ho.o,Ht.o,h8.o,if_pos H6.o],Hn.o⟩
          simp[intOf]; omega
         ·have e3:(q.1 != 0)=true:=by simp[hx]
          have H6:=ah hx;clear hx;go_wp2_with fail;go_ret;rw[<-Ho.o,Ht.o,h8.o,if_neg H6.o];exact⟨rfl,v9,Hn.o.box,Hn.o.kp⟩
        ·have e2:(it.kind == 2)=false:=by simp[Hr]
         have h8:=ah (xY (cs:=cs) (rec:=ie cs n) (r:=l.drop (k+1)) Hv.o h9.o h7.o Hr H3.o);clear Hr;go_wp2_with fail;clear c0 c1 c6 c7 c8 c9 d0 d1 d2 d3 d4 d5
         go_roundw
         ·exact⟨k+1,_,_,by omega,by go_num,by rw[<-Ho.o,Ht.o,h8.o],ho.o⟩
         simp[intOf]; omega
      ·have Yn: ¬(acc2.length:Int)<4096:=by omega
       have h7:=ah hO;clear hO;go_wp2_with fail;go_ret;have h1:=Ho.o;rw[Ht.o,iR,if_neg (fun h=>h7.o h.2)]at h1;rw[<-h1];exact⟨rfl,v2,hC.o.box,hC.o.kp⟩
   ·have Hr:k=m:=by omega
    subst Hr;go_wp2_with fail;go_ret;have h1:=Ho.o;rw[HM.o,jd,iR]at h1;rw[<-h1];exact⟨rfl,v2,hA.o.box,hA.o.kp⟩
theorem DC (cs:List (ByteArray×List UInt8)) (cv:Value) (B:Nat): ∀n,GO cs cv B n
 | 0=>Ke cs cv B
 | n+1=>Kd cs cv B n (DC cs cv B n)
def vK (B:Nat) (w:World) (v:Value) (acc:List dd):Prop:= ∃ys:List oU,ys.map Prod.snd=acc/\w.ownsRow B 79 6 v ys.length (iE ys)/\ ∀y∈ys,w.ownsRow B 5 1 y.1 y.2.data.length (y.2.data.map aY)
def Bd (cs:List (ByteArray×List UInt8)) (root:cH) (w:World) (e:Ending) (w':World):Prop:=Below w.heap.size w w'/\match lI cs root with
 | .error x=>e= .returned (.tuple #[.slice none 0 0, .int .i64 x])/\x≠0
 | .ok l=> ∃v,e= .returned (.tuple #[v, .int .i64 0])/\vK w.heap.size w' v l
theorem vl (S:Nat->Prop) (cv:Value) (cs:List (ByteArray×List UInt8)) (root:cH) (w:World) (hc:gy S w cv cs) (henv:oz w) (hr:eF root):Calls Tryz.prog 25 #[fi root,cv] w (Bd cs root w):=by
 have hh:=ah ((ak w.heap.size w).alloc (ai _) (.cells #[.string root.name, .int .i64 root.gen, .int .i64 root.size] 26));have hw:=ah (ep w (.cells #[.string root.name, .int .i64 root.gen, .int .i64 root.size] 26));have HI:=ah (lO.start (hc.below hh.o) (henv.below hh.o));have HR:=ah hr;unfold fi;clear hc henv hr
 cases hv:lF root
 ·have hl:=ah hv;have HM:=ah (show lI cs root= .error 1 by unfold lI; rw[if_neg (by rw[hv]; simp)]);clear hv
  go_enter Tryz.func25,Tryz.ntmps25
  go_wp2_with fail;refine(jw root false _ HR.o hl.o).mono ?_;rintro e w1 ⟨rfl,ha⟩;have hb:=ah (aj hh.o ha);clear ha;go_wp2_with fail
  go_ret2
  exact⟨hb.o,by rw[HM.o]; exact⟨rfl,by decide⟩⟩
 ·have hl:=ah hv;obtain⟨q,hq⟩:=bI (ie cs 514 ⟨#[]⟩ root []);have HM:=ah (show lI cs root=if q.1=0 then .ok q.2 else .error q.1 by unfold lI; rw[if_pos hv,hq]);have HQ:=ah hq;clear hv hq
  go_enter Tryz.func25,Tryz.ntmps25
  go_wp2_with fail;refine(jw root true _ HR.o hl.o).mono ?_;rintro e w1 ⟨rfl,ha⟩;have hb:=ah (aj hh.o ha);have hk:=er ha hw.o;have hz:=ah hk;have hA:=am hk;have hp:=lO.keepL (base:=w1.heap.size) (HI.o.keepL ha (ai _)) ((ak w1.heap.size w1).alloc (ai _) (.cells #[.slice none 0 0] 46)) ha.size;have hm:=DC cs cv _ 514 ⟨#[]⟩ root [] w1.heap.size w1.heap.size (.slice none 0 0) (w1.alloc (.cells #[.slice none 0 0] 46)) (by simp) (.inl rfl)
   ⟨ep w1 _,[],rfl,bM _ _ _ _,by simp⟩ HR.o hp ha.size (ai _) (by simp)
  rw[<-HQ.o]at hm;have ho:=ah hm;unfold fi at ho;obtain⟨c0,c1,c2,_⟩:=aS hk;clear ha hk hm hp;go_wp2_with fail;refine ho.o.mono ?_;rintro e w2 ⟨rfl,v2,hd,hg⟩;obtain⟨ys,hs,he,hf⟩:=hd.2;obtain⟨a2,c2',rfl,-,-⟩:=aH he;have e0:=ar (k:=0) hd.1;simp only[aC,aB]at e0;have hn:=ah (show Below w.heap.size w w2 from(hb.o.alloc hb.o.size (.cells #[.slice none 0 0] 46)).trans (hg.below.mono hb.o.size))
  have hu:=ah (show vK w.heap.size w2 (.slice a2 ys.length c2') q.2 from⟨ys,hs,gB he hb.o.size,fun y hy=>gB (hf y hy) hb.o.size⟩);clear hd hg hs he hf c0 c1 c2
  by_cases hx:q.1=0
  ·have e1:(q.1 != 0)=false:=by simp[hx]
   have hj:=ah hx;clear hx;go_wp2_with fail
   go_ret2
   exact⟨hn.o,by rw[HM.o,if_pos hj.o]; exact⟨_,rfl,hu.o⟩⟩
  ·have e1:(q.1 != 0)=true:=by simp[hx]
   have hj:=ah hx;clear hx;go_wp2_with fail
   go_ret2
   exact⟨hn.o,by rw[HM.o,if_neg hj.o]; exact⟨rfl,hj.o⟩⟩
open Go Go.RowKit Go.Maps
structure rP (w : World) : Prop where
 env:oz w
 envh:Bb w
 deb:Cg w
theorem rP.keep {B:Nat} {w w':World} (h:rP w) (hb:Below B w w') (h7:7<=B):rP w':=
 ⟨h.env.belowB hb (by omega) (by omega) (by omega),⟨fun j x hj=>(hb.cell (p:=⟨2,j,none⟩) (show 2<B by omega)).trans (h.envh.init j x hj),fun j x hj=>(hb.cell (p:=⟨5,j,none⟩) (show 5<B by omega)).trans (h.envh.kons j x hj),⟨(hb.cell (p:=⟨0,0,none⟩) (show 0<B by omega)).trans h.envh.pads.1,(hb.cell (p:=⟨0,1,none⟩) (show 0<B by omega)).trans h.envh.pads.2⟩,
  aO h.envh.ilt hb.size,aO h.envh.klt hb.size,aO h.envh.plt hb.size⟩,h.deb.block (hb.block _ (show 6<B by omega)) hb.size⟩
theorem rP.seven {w:World} (h:rP w):7<=w.heap.size:=by have:=h.deb.lt;omega
theorem rP.below {w w':World} (h:rP w) (hb:Below w.heap.size w w'):rP w':=h.keep hb h.seven
theorem OG {a:Act} {w:World} {b:Nat} {x0 x1 x2 e5:Value} (h:w.heap[b]? =some (.cells #[x0,x1,x2] 26 (0,0)))
  (h4:a.tmps[4]? =some (.pointer (some ⟨b,0,none⟩))) (h5:a.tmps[5]? =some e5):(results Tryz.f123 a.tmps).run Tryz.prog w= .ok (.tuple #[.agg #[x0,x1,x2],e5]) w:=by
 obtain⟨m0,m1,m2,_⟩:=aS h;simp[results,Tryz.results123,go_sem,h4,h5,m0,m1,m2]
theorem vN {a:Act} {w:World} {b:Nat} {a0 a1 a2 x0 x1 x2 e5:Value} {Q:Ending->World->Prop} (h:w.heap[b]? =some (.cells #[a0,a1,a2] 26 (0,0)))
  (h4:a.tmps[4]? =some (.pointer (some ⟨b,0,none⟩))) (h5:a.tmps[5]? =some e5) (hd:a.defers=[])
  (hQ:Q (.returned (.tuple #[.agg #[x0,x1,x2],e5])) (((w.setCell ⟨b,0,none⟩ x0).setCell ⟨b,1,none⟩ x1).setCell ⟨b,2,none⟩ x2)):
  bodyPost Tryz.prog Tryz.f123 Q Exit.ret a (((w.setCell ⟨b,0,none⟩ x0).setCell ⟨b,1,none⟩ x1).setCell ⟨b,2,none⟩ x2):=cP (OG (vu h) h4 h5) hd hQ
theorem jr.ofGrown {base bb kb:Nat} {v:Value} {w w':World} (h:w.grownBy w' (some kb)) (hb:base<=w.heap.size) (hk:base<=kb):jr base bb kb v v w w':=
 ⟨(ak base w).grown h hb (fun i e=>by cases e; exact hk),fun i h1 _ h3 _=>h.block i h1 (fun e=>h3 (bK e)),fun _ e=> .inl e⟩
theorem jr.setNew {base bb kb b j:Nat} {v v' u:Value} {w w':World} (h:jr base bb kb v v' w w') (hb:w.heap.size<=b) (hbz:base<=w.heap.size):jr base bb kb v v' w (w'.setCell ⟨b,j,none⟩ u):=
 ⟨cz h.below (show base<=b by omega) u,fun i h1 h2 h3 h4=>(ay _ _ _ _ (show i≠b by omega)).trans (h.same i h1 h2 h3 h4),h.place⟩
theorem kL.other {w w':World} {base bb im kb b:Nat} {k:dl} {c:fC} {gv v:Value} {bs:List dt} {cs:Array Value} {t:TypeId} {z:Nat×Nat} (h:kL w base bb k c gv im kb v bs) (hb:w.heap[b]? =some (.cells cs t z)) (h1:t≠122) (h2:t≠53) (h3:t≠5) (hs: ∀i,i≠b->i<w.heap.size->w'.heap[i]? =w.heap[i]?):kL w' base bb k c gv im kb v bs:=by
 obtain⟨zs,hz,hr,hd⟩:=h.own;refine⟨(hs bb (fun e=> ?_) (am h.box)).trans h.box,⟨zs,hz,ff hr (fun i hi hu=>hs i (fun e=> ?_) hi),fun y hy=>ff (hd y hy) (fun i hi hu=>hs i (fun e=> ?_) hi)⟩,h.known.same (hs kb (fun e=>h.known.cells (by rw[e]; exact hb)) h.known.map.lt)⟩
 ·subst e; exact h1 (bU hb h.box)
 ·subst e;obtain⟨cs2,ha⟩:=bJ hr hu;exact h2 (bU hb ha)
 ·subst e;obtain⟨cs2,ha⟩:=bJ (hd y hy) hu;exact h3 (bU hb ha)
theorem Aw (gs:List (ByteArray×Int)) (hgs: ∀p∈gs,0<=p.2/\p.2<=1099511627776) (n:ByteArray):0<=mQ gs n/\mQ gs n<=1099511627776:=by
 unfold mQ
 cases hf:gs.find? (fun p=>decide (p.1=n))with
 | none=>exact⟨by decide,by decide⟩
 | some p=>exact hgs p (dR hf)
theorem uR {S:Nat->Prop} {w:World} {v:Value} {bs:List UInt8} {kb:Nat} {l:List cH} (h:bD S w v bs) (hk:jX w kb l):bD (fun i=>i≠kb/\i<w.heap.size) w v bs:=by
 obtain⟨h1,a,cap,rfl,h2,h3,h4⟩:=h;refine⟨h1,a,cap,rfl,h2,h3, ?_⟩
 rcases h4 with h4 | ⟨b,o,rfl,hS,hc⟩
 ·exact .inl h4
 ·cases bs with
  | nil=>exact .inl rfl
  | cons y ys=>
   have q:=hc 0 (aY y) rfl;refine .inr ⟨b,o,rfl,⟨fun e=> ?_,bP q⟩,hc⟩;subst e;obtain⟨es,clock,hb,_⟩:=hk.map;simp[World.cell?,hb]at q
def EP (base bb kb:Nat) (k:dl) (c:fC) (gs:List (ByteArray×Int)) (gv:Value) (im:Nat) (v:Value) (bs:List dt) (x:List UInt8) (w:World) (e:Ending) (w':World):Prop:=
 e= .returned (.tuple #[fi (aV k gs x), .int .i64 0])/\ ∃v',kL w' base bb k c gv im kb v' (kJ k gs bs x)/\jr base bb kb v v' w w'
theorem GV (S:Nat->Prop) (base bb kb im:Nat) (k:dl) (c:fC) (gs:List (ByteArray×Int)) (gv v cv:Value) (bs:List dt) (x:List UInt8) (w:World) (h:kL w base bb k c gv im kb v bs) (hk:jK k=true) (hg:kZ (· <base) w gv gs) (hgs: ∀p∈gs,0<=p.2/\p.2<=1099511627776)
  (hx:bD S w cv x) (hl:x.length<=32768) (hE:rP w) (hbb:base<=bb) (hkb:base<=kb) (hbz:base<=w.heap.size) (_h7:7<=base) (hn:bs.length<1000000000000):
  Calls Tryz.prog 123 #[.pointer (some ⟨bb,0,none⟩),cv] w (EP base bb kb k c gs gv im v bs x w):=by
 obtain⟨_,a,cap,rfl,H2,Yj,-⟩:=id hx;have HX:=ah hx;obtain⟨xl,ya⟩:=bI x.length;rw[<-ya]at hl H2 ⊢;have hG:=ah ya;obtain⟨W0,Hj⟩:=bI ((w.alloc (.cells #[.string ⟨#[]⟩, .int .i64 0, .int .i64 0] 26)).alloc (.cells #[.string ⟨#[]⟩, .int .i64 0, .int .i64 (xl:Int)] 26));have HB:Below w.heap.size w W0:=by rw[Hj]; exact(eW).alloc (by simp) _
 have yb:=ah HB;have Ye:=ah (show W0.heap[w.heap.size]? =some (.cells #[.string ⟨#[]⟩, .int .i64 0, .int .i64 0] 26 (0,0)) by rw[Hj]; exact mY (ep w _) _);have HO:=ah (show W0.heap[w.heap.size+1]? =some (.cells #[.string ⟨#[]⟩, .int .i64 0, .int .i64 (xl:Int)] 26 (0,0)) by rw[Hj]; exact qa w _ _);have Ya:=ah (h.below HB);have HH:=ah h;have HK:=ah hk;have HG:=ah hg
 have Yc:=ah hgs;have HE:=ah (hE.below HB);have yl:=ah hE;have y6:bb<w.heap.size:=am h.box;have hs:=ah Ya.o.box;have k0:=ar (k:=0) hs.o;have k1:=ar (k:=1) hs.o;have k2:=ar (k:=2) hs.o;have k3:=ar (k:=3) hs.o;have k4:=ar (k:=4) hs.o;have k10:=ar (k:=10) hs.o;have k12:=ar (k:=12) hs.o;have k13:=ar (k:=13) hs.o
 simp only[nw,eT,fZ,aK,aI,gd]at k0 k1 k2 k3 k4 k10 k12 k13;clear h hk hg hgs hx hE HB ya Yj
 go_enter Tryz.func123,Tryz.ntmps123
 go_upto_region 3 with(fail)
 rw[<-Hj];clear Hj;have Yh:bD S W0 (.slice a xl cap) x:=by have h1:=HX.o; rw[<-hG.o]at h1; exact cD.below h1 (by omega) yb.o
 have h0:=tP S k 0 x (.slice a xl cap) W0 HK.o (by omega) Yh (by rw[<-hG.o]; exact hl) HE.o.envh;unfold kF at h0;have Yd:=ah h0;have f0:=ar (k:=0) HO.o;have fz0:=dE (k:=0) HO.o;simp only[aC,aB]at f0;clear h0;go_wp2_with fail;refine Yd.o.mono ?_;rintro e w1 ⟨rfl,HC⟩;obtain⟨n0,HJ⟩:=bI (mi k 0 x);rw[<-HJ]
 have Yn:n0.size=32:=by rw[HJ]; exact lD _ _ _
 have HF:=er HC HO.o;have y7:=er HC Ye.o;have f0':=ar (k:=0) HF;have fz0':=dE (k:=0) HF;simp only[aC,aB]at f0';have HS:=ah HJ;clear HJ k0 k1 k2 k3 k4 k10 k12 k13 f0 fz0;go_wp2_with fail;obtain⟨W2,Hk⟩:=bI ((w1.setCell ⟨w.heap.size+1,0,none⟩ (.string n0)).drew);have Hn:Below w.heap.size w W2:=by rw[Hk]; exact(cz (aj yb.o HC) (show w.heap.size<=w.heap.size+1 by omega) _).drew
 have yc:=ah Hn;have H3:=jm (k:=0) HF (.string n0);simp only[aW,cn]at H3;have He:=ah (show W2.heap[w.heap.size+1]? =some (.cells #[.string n0, .int .i64 0, .int .i64 (xl:Int)] 26 (0,0)) by rw[Hk]; exact H3);have yp:=ah (show W2.heap[w.heap.size]? =some (.cells #[.string ⟨#[]⟩, .int .i64 0, .int .i64 0] 26 (0,0)) by rw[Hk]; exact(ay _ _ _ _ (by show w.heap.size≠w.heap.size+1; omega)).trans y7)
 have HM:=ah (HH.o.below Hn);have hu:=ah HM.o.box;have Yl:=CZ (HG.o.keep (w':=W2) (fun i h1 h2=>Hn.block i h2)) (n:=n0) (by rw[Yn]; unfold maxLen; omega);have Yp:=ah (yl.o.below Hn);obtain⟨g,hg⟩:=bI (mQ gs n0);have y5:=Aw gs Yc.o n0;rw[<-hg]at Yl y5;have yn:=ah hg;have k0:=ar (k:=0) hu.o;have k1:=ar (k:=1) hu.o;have k2:=ar (k:=2) hu.o
 have k3:=ar (k:=3) hu.o;have k4:=ar (k:=4) hu.o;have k10:=ar (k:=10) hu.o;have k12:=ar (k:=12) hu.o;have k13:=ar (k:=13) hu.o;simp only[nw,eT,fZ,aK,aI,gd]at k0 k1 k2 k3 k4 k10 k12 k13;have f0:=ar (k:=0) He.o;simp only[aC,aB]at f0;clear HF y7 f0' fz0' Hn H3 hg HC
 refine bL [some 8] (by kernel_rfl) (by kernel_rfl) (by kernel_rfl) ?_;simp only[ed,aR,aZ];rw[<-Hk];clear Hk
 repeat (first | (refine cy rfl ?_; simp only[bN]) | (refine cU rfl (fun K hK=> ?_); go_simp; refine hK _ ?_; clear hK K))
 refine cT ?_;obtain⟨r,hr⟩:=bI (aV k gs x);have hZ:=ah hr;have H8:r.size=(xl:Int):=by rw[hr,hG.o]; rfl
 have H6:r.gen=g:=by rw[hr,yn.o,HS.o]; rfl
 have H7:r.name=mi k g.toNat x:=by rw[hr,yn.o,HS.o]; rfl
 have HA:=ah (show eF r from⟨by rw[H7,lD]; unfold maxLen; omega,by rw[H6]; exact WalkArith.wf_i64 ⟨by omega,by omega⟩,by rw[H8]; exact WalkArith.wf_i64 ⟨by omega,by omega⟩⟩);have y3:=ah H7;have yv:=ah H6;have y4:=ah H8;clear hr H7 H6 H8 k0 k1 k2 k3 k4 k10 k12 k13
 by_cases Yk:g=0
 ·go_wp2_with fail;have HP:=ah (show W2.heap[w.heap.size+1]? =some (.cells #[.string r.name, .int .i64 r.gen, .int .i64 r.size] 26 (0,0)) by rw[y3.o,yv.o,y4.o,Yk,Int.toNat_zero,<-HS.o]; exact He.o);have HL:=yc;have HW:=yp;clear f0;obtain⟨W6,hI⟩:=bI ((W2).drew);have hJ:Below (W2).heap.size (W2) W6:=by rw[hI]; exact(ak _ _).drew
  have hA:=ah (aj HL.o hJ);have Hf:=ah (er hJ HP.o);have hF:=ah (er hJ HW.o);have he:=ah (HH.o.below hA.o);have hc:=ah he.o.box;have k0:=ar (k:=0) hc.o;have k1:=ar (k:=1) hc.o;have k2:=ar (k:=2) hc.o;have k3:=ar (k:=3) hc.o;have k4:=ar (k:=4) hc.o;have k10:=ar (k:=10) hc.o;have k12:=ar (k:=12) hc.o
  have k13:=ar (k:=13) hc.o;simp only[nw,eT,fZ,aK,aI,gd]at k0 k1 k2 k3 k4 k10 k12 k13;obtain⟨f0,f1,f2,_⟩:=aS Hf.o;have hW:=he.o.known.look HA.o;unfold fi at hW
  by_cases hy:r∈bs.map dt.ref
  ·have e1:decide (r∈bs.map dt.ref)=true:=by simp[hy]
   rw[e1]at hW;have h8:=ah (show kJ k gs bs x=bs by unfold kJ; rw[<-hZ.o,if_pos hy]);clear hJ hy e1;refine bL [some 7] (by kernel_rfl) (by kernel_rfl) (by kernel_rfl) ?_;simp only[ed,aR,aZ];rw[<-hI];clear hI
   repeat (first | (refine cy rfl ?_; simp only[bN]) | (refine cU rfl (fun K hK=> ?_); go_simp; refine hK _ ?_; clear hK K))
   refine cT ?_;obtain⟨z0,z1,z2,_⟩:=aS hF.o;obtain⟨y0,y1,y2,_⟩:=gI hF.o;go_wp2_with fail;refine vN hF.o rfl rfl rfl ?_;refine⟨by rw[<-hZ.o]; rfl,v, ?_, ?_⟩
   ·rw[h8.o];exact he.o.other hF.o (by decide) (by decide) (by decide) (fun i hi _=>et hi)
   ·exact((((jr.ofBelow hA.o hbz).setNew (ai _) hbz).setNew (ai _) hbz).setNew (ai _) hbz)
  ·have e1:decide (r∈bs.map dt.ref)=false:=by simp[hy]
   rw[e1]at hW;have h8:=ah (show kJ k gs bs x=bs++[⟨r,x⟩] by unfold kJ; rw[<-hZ.o,if_neg hy]);have HT:=ah hy;clear hJ hy e1;refine bL [some 7] (by kernel_rfl) (by kernel_rfl) (by kernel_rfl) ?_;simp only[ed,aR,aZ];rw[<-hI];clear hI
   repeat (first | (refine cy rfl ?_; simp only[bN]) | (refine cU rfl (fun K hK=> ?_); go_simp; refine hK _ ?_; clear hK K))
   refine cT ?_;go_wp2_with fail;refine bL [some 5,none] (by kernel_rfl) (by kernel_rfl) (by kernel_rfl) ?_;simp only[ed,aR,aZ,bA,bR]
   repeat (first | (refine cy rfl ?_; simp only[bN]) | (refine cU rfl (fun K hK=> ?_); go_simp; refine hK _ ?_; clear hK K))
   refine cT ?_;refine eu rfl (fun K hK=> ?_);have HR:=ah (he.o.known.same (w':=W6.drew) rfl);go_wp2_with (at_mapUpdate; go_must (refine mM rfl _ _ _ rfl kb (bs.map dt.ref) HR.o rfl r HA.o rfl rfl HT.o ?_); intro w7 hP Hq);obtain⟨W8,hU⟩:=bI w7.drew;have hp:W6.grownBy W8 (some kb):=by rw[hU]; exact cg (b:=W6.drew) ⟨rfl,rfl,rfl,ai _,fun _ _ _=>rfl⟩ (cg Hq ⟨rfl,rfl,rfl,ai _,fun _ _ _=>rfl⟩)
   have Ha:=ah (show jX W8 kb ((bs++[(⟨r,x⟩:dt)]).map dt.ref) by rw[hU,aL]; exact hP.same rfl);have Ym:kb<w.heap.size:=HH.o.known.map.lt;have Hd:bb≠kb:=fun e=>he.o.known.cells (e▸hc.o)
   have hL:=nr hp hc.o Hd;have hd:=ah hL;have Hp:=nr hp Hf.o (by omega);have Hs:=nr hp hF.o (by omega);have Hg:=ah Hp;have HY:=ah Hs;obtain⟨zs,Hz,hB⟩:=he.o.own;have Hi:=ah Hz;have hC:=ah (show iw W8 base v zs from⟨hB.row.kept hp (.inr (fun e=>by obtain⟨cs2,hN⟩:=bJ hB.row e; exact he.o.known.cells hN)),fun z hz=>(hB.dat z hz).kept hp (.inr (fun e=>by obtain⟨cs2,hN⟩:=bJ (hB.dat z hz) e; exact he.o.known.cells hN))⟩)
   obtain⟨av,cv8,H9,-,-⟩:=aH hB.row;subst H9;have h7:=ah ((jr.ofBelow hA.o hbz).trans (jr.ofGrown (bb:=bb) (v:= .slice av zs.length cv8) hp (an hbz hA.o.size) hkb));have Hb:=ah (an hA.o.size hp.size);have H0:=ah (show cD (fun _=>True) W8 1 (.slice a xl cap) xl (x.map aY)from by have h1:=HX.o;rw[<-hG.o]at h1;have h2:bD S W6 (.slice a xl cap) x:=cD.below h1 (by omega) hA.o;have h3:=cD.same (w':=W8) (uR h2 he.o.known) (fun i hi=>hp.block i hi.2 (fun e=>hi.1 (bK e)));have h4:=cD.weak (T:=fun _=>True) h3 (fun _ _=>trivial);rw[<-hG.o]at h4;exact h4)
   clear hP Hq hp hL Hp Hs Hz hB f0 f1 f2 k0 k1 k2 k3 k4 k10 k12 k13 hW;obtain⟨f0,f1,f2,_⟩:=aS Hg.o;have k0:=ar (k:=0) hd.o;have k1:=ar (k:=1) hd.o;have k2:=ar (k:=2) hd.o;have k3:=ar (k:=3) hd.o;have k4:=ar (k:=4) hd.o;have k10:=ar (k:=10) hd.o;have k12:=ar (k:=12) hd.o;have k13:=ar (k:=13) hd.o;simp only[nw,eT,fZ,aK,aI,gd]at k0 k1 k2 k3 k4 k10 k12 k13
   refine eJ (fun w'=>w'.cell? ⟨bb,12,none⟩=some (.slice av zs.length cv8)/\w'.cell? ⟨w.heap.size+1,0,none⟩=some (.string r.name)/\w'.cell? ⟨w.heap.size+1,1,none⟩=some (.int .i64 r.gen)/\w'.cell? ⟨w.heap.size+1,2,none⟩=some (.int .i64 r.size)) (by kernel_rfl) (by kernel_rfl) ?_;simp only[bt,bu,az,bo,Nat.reduceAdd,Nat.reduceSub]
   rw[<-hU];clear hU
   iterate 7 (refine cI rfl ⟨k12,f0,f1,f2⟩ (by rintro w' ⟨Hu,Hv,Hw,Hx⟩; go_simp; rfl) ?_; simp only[bN])
   refine cC 7 rfl (fun K hK=> ?_);have Hy:0+xl<1099511627775:=by omega
   go_wp2_with (at_builtin; go_must (refine ew Tryz.appBytes rfl _ _ rfl W8.heap.size (.slice none 0 0) 0 [] rfl (bM _ _ _ _) (.slice a xl cap) xl (x.map aY) rfl H0.o (fy x) Hy (ai _) ?_); intro v9 w9 hh hm; rw[bT,aI]at hh; obtain⟨a9,c9,rfl,-,-⟩:=aH hh);have hV:Below W8.heap.size W8 w9:=jD hm
   have hS:=ah hV;have HV:=ah (show w9.ownsRow base 5 1 (.slice a9 xl c9) x.length (x.map aY) by rw[<-hG.o]; exact gB hh (an hbz Hb.o));have ha:=ah (er hV hd.o);have hT:=ah (er hV Hg.o);clear hh hm hV Hy k0 k1 k2 k3 k4 k10 k12 k13 f0 f1 f2;obtain⟨f0,f1,f2,_⟩:=aS hT.o;have k0:=ar (k:=0) ha.o;have k1:=ar (k:=1) ha.o
   have k2:=ar (k:=2) ha.o;have k3:=ar (k:=3) ha.o;have k4:=ar (k:=4) ha.o;have k10:=ar (k:=10) ha.o;have k12:=ar (k:=12) ha.o;have k13:=ar (k:=13) ha.o;simp only[nw,eT,fZ,aK,aI,gd]at k0 k1 k2 k3 k4 k10 k12 k13;refine⟨⟨k12,f0,f1,f2⟩, ?_⟩;refine cI rfl ⟨k12,f0,f1,f2⟩ (by rintro w' ⟨Hu,Hv,Hw,Hx⟩; go_simp; rfl) ?_
   simp only[bN];have hO:bb<w9.heap.size:=am ha.o;have hq:w.heap.size+1<w9.heap.size:=am hT.o;have hR:=ah ((ak w9.heap.size w9).alloc (ai _) (.cells #[.string r.name, .int .i64 r.gen, .int .i64 r.size, .slice a9 xl c9] 53));have HZ:=ah (aA ((hR.o.cell (p:=⟨bb,12,none⟩) hO).trans k12) (aA ((hR.o.cell (p:=⟨w.heap.size+1,0,none⟩) hq).trans f0) (aA ((hR.o.cell (p:=⟨w.heap.size+1,1,none⟩) hq).trans f1) ((hR.o.cell (p:=⟨w.heap.size+1,2,none⟩) hq).trans f2))))
   refine cC 9 rfl (fun K hK=> ?_);go_wp2_with fail
   (first | (refine⟨HZ.o, ?_⟩) | skip)
   refine cC 10 rfl (fun K hK=> ?_);have Yo:zs.length<1000000000000:=by have h1:=hn; rw[<-Hi.o,aw]at h1; exact h1
   have Hh:=ah (hC.o.below hS.o);go_wp2_with (at_builtin; go_must (refine bO Tryz.appBlobs rfl _ _ rfl base (.slice av zs.length cv8) zs.length (ks zs) rfl w9 [.string r.name, .int .i64 r.gen, .int .i64 r.size, .slice a9 xl c9] _ rfl rfl (ub (b:=⟨r,x⟩)) Hh.o.row (by omega) (by have:=Hb.o; have:=hS.o.size; omega) ?_); intro v' wc ho hb _ Hr; obtain⟨ae,ce,rfl,-,-⟩:=aH ho)
   have hX: ∀i cs t z,w9.heap[i]? =some (.cells cs t z)->t≠53->(Value.slice av zs.length cv8).ownBlock≠some i:=fun i cs t z hi ht e=>by obtain⟨cs2,hN⟩:=bJ Hh.o.row e;exact ht (bU hi hN)
   have hY:=er hS.o HY.o;have hM:=(hb.block bb hO (fun e=>hX _ _ _ _ ha.o (by decide) e.symm)).trans ha.o;have Hc:=(hb.block (w.heap.size+1) hq (fun e=>hX _ _ _ _ hT.o (by decide) e.symm)).trans hT.o;have Ht:=(hb.block w.heap.size (am hY) (fun e=>hX _ _ _ _ hY (by decide) e.symm)).trans hY;have hf:=ah hM;have HQ:=ah Hc;have hw:=kL.push (b:=⟨r,x⟩) Hi.o hC.o hd.o Ha.o hS.o HV.o ho hb Hr hbb (an hbz Hb.o)
   have h9:=ah hw;have H1:=y6;have hD:=ah ((ay wc ⟨bb,12,none⟩ (.slice ae (zs.length+1) ce) (w.heap.size+1) (by show w.heap.size+1≠bb; omega)).trans Hc);have hj:=ah ((ay wc ⟨bb,12,none⟩ (.slice ae (zs.length+1) ce) w.heap.size (by show w.heap.size≠bb; omega)).trans Ht);clear ho hb Hr hw hX hY hM Hc Ht k0 k1 k2 k3 k4 k10 k12 k13 f0 f1 f2
   obtain⟨f0,f1,f2,_⟩:=aS HQ.o;have k0:=ar (k:=0) hf.o;have k1:=ar (k:=1) hf.o;have k2:=ar (k:=2) hf.o;have k3:=ar (k:=3) hf.o;have k4:=ar (k:=4) hf.o;have k10:=ar (k:=10) hf.o;have k12:=ar (k:=12) hf.o;have k13:=ar (k:=13) hf.o;simp only[nw,eT,fZ,aK,aI,gd]at k0 k1 k2 k3 k4 k10 k12 k13
   have kz12:=dE (k:=12) hf.o;refine⟨⟨k12,f0,f1,f2⟩, ?_⟩
   iterate 2 (refine cI rfl ⟨k12,f0,f1,f2⟩ (by rintro w' ⟨Hu,Hv,Hw,Hx⟩; go_simp; rfl) ?_; simp only[bN])
   refine cL (by kernel_rfl) ?_;refine eU rfl rfl (fun K hK=> ?_)
   go_upto_region 13 with(fail)
   obtain⟨Yg,hH⟩:=bI (wc.setCell ⟨bb,12,none⟩ (.slice ae (zs.length+1) ce));rw[<-hH]at h9 hD hj ⊢;clear hH k0 k1 k2 k3 k4 k10 k12 k13 f0 f1 f2 kz12;obtain⟨f0,f1,f2,_⟩:=aS hD.o;obtain⟨z0,z1,z2,_⟩:=aS hj.o;obtain⟨y0,y1,y2,_⟩:=gI hj.o;go_wp2_with fail;refine vN hj.o rfl rfl rfl ?_;refine⟨by rw[<-hZ.o]; rfl, .slice ae (zs.length+1) ce,And.symm ⟨?_, ?_⟩⟩
   ·exact(((h7.o.trans h9.o.2).setNew (ai _) hbz).setNew (ai _) hbz).setNew (ai _) hbz
   ·rw[h8.o];exact h9.o.1.other hj.o (by decide) (by decide) (by decide) (fun i hi _=>et hi)
 ·have f1:=ar (k:=1) He.o;have fz1:=dE (k:=1) He.o;simp only[gd]at f1
  go_upto_region 7 with(fail)
  obtain⟨W3,Hl⟩:=bI (W2.setCell ⟨w.heap.size+1,1,none⟩ (.int .i64 g));rw[<-Hl];have Ho:Below w.heap.size w W3:=by rw[Hl]; exact cz yc.o (show w.heap.size<=w.heap.size+1 by omega) _
  have y9:=ah Ho;have H4:=jm (k:=1) He.o (.int .i64 g);simp only[aW,cG,cn]at H4;have Yb:=ah (show W3.heap[w.heap.size+1]? =some (.cells #[.string n0, .int .i64 g, .int .i64 (xl:Int)] 26 (0,0)) by rw[Hl]; exact H4);have Yf:=ah (show W3.heap[w.heap.size]? =some (.cells #[.string ⟨#[]⟩, .int .i64 0, .int .i64 0] 26 (0,0)) by rw[Hl]; exact(ay _ _ _ _ (by show w.heap.size≠w.heap.size+1; omega)).trans yp.o)
  have HN:=ah (HH.o.below Ho);have hv:=ah HN.o.box;have Yi:bD S W3 (.slice a xl cap) x:=by have h1:=HX.o; rw[<-hG.o]at h1; exact cD.below h1 (by omega) Ho
  have h0:=tP S k g.toNat x (.slice a xl cap) W3 HK.o (by omega) Yi (by rw[<-hG.o]; exact hl) (yl.o.below Ho).envh;rw[Int.toNat_of_nonneg y5.1,<-y3.o]at h0;unfold kF at h0;have HU:=ah h0;have k0:=ar (k:=0) hv.o;have k1:=ar (k:=1) hv.o;have k2:=ar (k:=2) hv.o;have k3:=ar (k:=3) hv.o;have k4:=ar (k:=4) hv.o;have k10:=ar (k:=10) hv.o
  have k12:=ar (k:=12) hv.o;have k13:=ar (k:=13) hv.o;simp only[nw,eT,fZ,aK,aI,gd]at k0 k1 k2 k3 k4 k10 k12 k13;clear Hl Ho H4 h0 f0 f1 fz1;go_wp2_with fail;refine HU.o.mono ?_;rintro e w4 ⟨rfl,HD⟩;have HI:=er HD Yb.o;have y8:=er HD Yf.o;have f0:=ar (k:=0) HI;have fz0:=dE (k:=0) HI;simp only[aC,aB]at f0
  clear k0 k1 k2 k3 k4 k10 k12 k13;go_wp2_with fail;obtain⟨W5,Hm⟩:=bI (w4.setCell ⟨w.heap.size+1,0,none⟩ (.string r.name));rw[<-Hm];have HL:=ah (show Below w.heap.size w W5 by rw[Hm]; exact cz (aj y9.o HD) (show w.heap.size<=w.heap.size+1 by omega) _);have H5:=jm (k:=0) HI (.string r.name);simp only[aW,cn]at H5
  have HP:=ah (show W5.heap[w.heap.size+1]? =some (.cells #[.string r.name, .int .i64 r.gen, .int .i64 r.size] 26 (0,0)) by rw[Hm,yv.o,y4.o]; exact H5);have HW:=ah (show W5.heap[w.heap.size]? =some (.cells #[.string ⟨#[]⟩, .int .i64 0, .int .i64 0] 26 (0,0)) by rw[Hm]; exact(ay _ _ _ _ (by show w.heap.size≠w.heap.size+1; omega)).trans y8);clear Hm HI y8 f0 fz0 HD H5
  obtain⟨W6,hI⟩:=bI ((W5).drew);have hJ:Below (W5).heap.size (W5) W6:=by rw[hI]; exact(ak _ _).drew
  have hA:=ah (aj HL.o hJ);have Hf:=ah (er hJ HP.o);have hF:=ah (er hJ HW.o);have he:=ah (HH.o.below hA.o);have hc:=ah he.o.box;have k0:=ar (k:=0) hc.o;have k1:=ar (k:=1) hc.o;have k2:=ar (k:=2) hc.o;have k3:=ar (k:=3) hc.o;have k4:=ar (k:=4) hc.o;have k10:=ar (k:=10) hc.o;have k12:=ar (k:=12) hc.o
  have k13:=ar (k:=13) hc.o;simp only[nw,eT,fZ,aK,aI,gd]at k0 k1 k2 k3 k4 k10 k12 k13;obtain⟨f0,f1,f2,_⟩:=aS Hf.o;have hW:=he.o.known.look HA.o;unfold fi at hW
  by_cases hy:r∈bs.map dt.ref
  ·have e1:decide (r∈bs.map dt.ref)=true:=by simp[hy]
   rw[e1]at hW;have h8:=ah (show kJ k gs bs x=bs by unfold kJ; rw[<-hZ.o,if_pos hy]);clear hJ hy e1;refine bL [some 7] (by kernel_rfl) (by kernel_rfl) (by kernel_rfl) ?_;simp only[ed,aR,aZ];rw[<-hI];clear hI
   repeat (first | (refine cy rfl ?_; simp only[bN]) | (refine cU rfl (fun K hK=> ?_); go_simp; refine hK _ ?_; clear hK K))
   refine cT ?_;obtain⟨z0,z1,z2,_⟩:=aS hF.o;obtain⟨y0,y1,y2,_⟩:=gI hF.o;go_wp2_with fail;refine vN hF.o rfl rfl rfl ?_;refine⟨by rw[<-hZ.o]; rfl,v, ?_, ?_⟩
   ·rw[h8.o];exact he.o.other hF.o (by decide) (by decide) (by decide) (fun i hi _=>et hi)
   ·exact((((jr.ofBelow hA.o hbz).setNew (ai _) hbz).setNew (ai _) hbz).setNew (ai _) hbz)
  ·have e1:decide (r∈bs.map dt.ref)=false:=by simp[hy]
   rw[e1]at hW;have h8:=ah (show kJ k gs bs x=bs++[⟨r,x⟩] by unfold kJ; rw[<-hZ.o,if_neg hy]);have HT:=ah hy;clear hJ hy e1;refine bL [some 7] (by kernel_rfl) (by kernel_rfl) (by kernel_rfl) ?_;simp only[ed,aR,aZ];rw[<-hI];clear hI
   repeat (first | (refine cy rfl ?_; simp only[bN]) | (refine cU rfl (fun K hK=> ?_); go_simp; refine hK _ ?_; clear hK K))
   refine cT ?_;go_wp2_with fail;refine bL [some 5,none] (by kernel_rfl) (by kernel_rfl) (by kernel_rfl) ?_;simp only[ed,aR,aZ,bA,bR]
   repeat (first | (refine cy rfl ?_; simp only[bN]) | (refine cU rfl (fun K hK=> ?_); go_simp; refine hK _ ?_; clear hK K))
   refine cT ?_;refine eu rfl (fun K hK=> ?_);have HR:=ah (he.o.known.same (w':=W6.drew) rfl);go_wp2_with (at_mapUpdate; go_must (refine mM rfl _ _ _ rfl kb (bs.map dt.ref) HR.o rfl r HA.o rfl rfl HT.o ?_); intro w7 hP Hq);obtain⟨W8,hU⟩:=bI w7.drew;have hp:W6.grownBy W8 (some kb):=by rw[hU]; exact cg (b:=W6.drew) ⟨rfl,rfl,rfl,ai _,fun _ _ _=>rfl⟩ (cg Hq ⟨rfl,rfl,rfl,ai _,fun _ _ _=>rfl⟩)
   have Ha:=ah (show jX W8 kb ((bs++[(⟨r,x⟩:dt)]).map dt.ref) by rw[hU,aL]; exact hP.same rfl);have Ym:kb<w.heap.size:=HH.o.known.map.lt;have Hd:bb≠kb:=fun e=>he.o.known.cells (e▸hc.o)
   have hL:=nr hp hc.o Hd;have hd:=ah hL;have Hp:=nr hp Hf.o (by omega);have Hs:=nr hp hF.o (by omega);have Hg:=ah Hp;have HY:=ah Hs;obtain⟨zs,Hz,hB⟩:=he.o.own;have Hi:=ah Hz;have hC:=ah (show iw W8 base v zs from⟨hB.row.kept hp (.inr (fun e=>by obtain⟨cs2,hN⟩:=bJ hB.row e; exact he.o.known.cells hN)),fun z hz=>(hB.dat z hz).kept hp (.inr (fun e=>by obtain⟨cs2,hN⟩:=bJ (hB.dat z hz) e; exact he.o.known.cells hN))⟩)
   obtain⟨av,cv8,H9,-,-⟩:=aH hB.row;subst H9;have h7:=ah ((jr.ofBelow hA.o hbz).trans (jr.ofGrown (bb:=bb) (v:= .slice av zs.length cv8) hp (an hbz hA.o.size) hkb));have Hb:=ah (an hA.o.size hp.size);have H0:=ah (show cD (fun _=>True) W8 1 (.slice a xl cap) xl (x.map aY)from by have h1:=HX.o;rw[<-hG.o]at h1;have h2:bD S W6 (.slice a xl cap) x:=cD.below h1 (by omega) hA.o;have h3:=cD.same (w':=W8) (uR h2 he.o.known) (fun i hi=>hp.block i hi.2 (fun e=>hi.1 (bK e)));have h4:=cD.weak (T:=fun _=>True) h3 (fun _ _=>trivial);rw[<-hG.o]at h4;exact h4)
   clear hP Hq hp hL Hp Hs Hz hB f0 f1 f2 k0 k1 k2 k3 k4 k10 k12 k13 hW;obtain⟨f0,f1,f2,_⟩:=aS Hg.o;have k0:=ar (k:=0) hd.o;have k1:=ar (k:=1) hd.o;have k2:=ar (k:=2) hd.o;have k3:=ar (k:=3) hd.o;have k4:=ar (k:=4) hd.o;have k10:=ar (k:=10) hd.o;have k12:=ar (k:=12) hd.o;have k13:=ar (k:=13) hd.o;simp only[nw,eT,fZ,aK,aI,gd]at k0 k1 k2 k3 k4 k10 k12 k13
   refine eJ (fun w'=>w'.cell? ⟨bb,12,none⟩=some (.slice av zs.length cv8)/\w'.cell? ⟨w.heap.size+1,0,none⟩=some (.string r.name)/\w'.cell? ⟨w.heap.size+1,1,none⟩=some (.int .i64 r.gen)/\w'.cell? ⟨w.heap.size+1,2,none⟩=some (.int .i64 r.size)) (by kernel_rfl) (by kernel_rfl) ?_;simp only[bt,bu,az,bo,Nat.reduceAdd,Nat.reduceSub]
   rw[<-hU];clear hU
   iterate 7 (refine cI rfl ⟨k12,f0,f1,f2⟩ (by rintro w' ⟨Hu,Hv,Hw,Hx⟩; go_simp; rfl) ?_; simp only[bN])
   refine cC 7 rfl (fun K hK=> ?_);have Hy:0+xl<1099511627775:=by omega
   go_wp2_with (at_builtin; go_must (refine ew Tryz.appBytes rfl _ _ rfl W8.heap.size (.slice none 0 0) 0 [] rfl (bM _ _ _ _) (.slice a xl cap) xl (x.map aY) rfl H0.o (fy x) Hy (ai _) ?_); intro v9 w9 hh hm; rw[bT,aI]at hh; obtain⟨a9,c9,rfl,-,-⟩:=aH hh);have hV:Below W8.heap.size W8 w9:=jD hm
   have hS:=ah hV;have HV:=ah (show w9.ownsRow base 5 1 (.slice a9 xl c9) x.length (x.map aY) by rw[<-hG.o]; exact gB hh (an hbz Hb.o));have ha:=ah (er hV hd.o);have hT:=ah (er hV Hg.o);clear hh hm hV Hy k0 k1 k2 k3 k4 k10 k12 k13 f0 f1 f2;obtain⟨f0,f1,f2,_⟩:=aS hT.o;have k0:=ar (k:=0) ha.o;have k1:=ar (k:=1) ha.o
   have k2:=ar (k:=2) ha.o;have k3:=ar (k:=3) ha.o;have k4:=ar (k:=4) ha.o;have k10:=ar (k:=10) ha.o;have k12:=ar (k:=12) ha.o;have k13:=ar (k:=13) ha.o;simp only[nw,eT,fZ,aK,aI,gd]at k0 k1 k2 k3 k4 k10 k12 k13;refine⟨⟨k12,f0,f1,f2⟩, ?_⟩;refine cI rfl ⟨k12,f0,f1,f2⟩ (by rintro w' ⟨Hu,Hv,Hw,Hx⟩; go_simp; rfl) ?_
   simp only[bN];have hO:bb<w9.heap.size:=am ha.o;have hq:w.heap.size+1<w9.heap.size:=am hT.o;have hR:=ah ((ak w9.heap.size w9).alloc (ai _) (.cells #[.string r.name, .int .i64 r.gen, .int .i64 r.size, .slice a9 xl c9] 53));have HZ:=ah (aA ((hR.o.cell (p:=⟨bb,12,none⟩) hO).trans k12) (aA ((hR.o.cell (p:=⟨w.heap.size+1,0,none⟩) hq).trans f0) (aA ((hR.o.cell (p:=⟨w.heap.size+1,1,none⟩) hq).trans f1) ((hR.o.cell (p:=⟨w.heap.size+1,2,none⟩) hq).trans f2))))
   refine cC 9 rfl (fun K hK=> ?_);go_wp2_with fail
   (first | (refine⟨HZ.o, ?_⟩) | skip)
   refine cC 10 rfl (fun K hK=> ?_);have Yo:zs.length<1000000000000:=by have h1:=hn; rw[<-Hi.o,aw]at h1; exact h1
   have Hh:=ah (hC.o.below hS.o);go_wp2_with (at_builtin; go_must (refine bO Tryz.appBlobs rfl _ _ rfl base (.slice av zs.length cv8) zs.length (ks zs) rfl w9 [.string r.name, .int .i64 r.gen, .int .i64 r.size, .slice a9 xl c9] _ rfl rfl (ub (b:=⟨r,x⟩)) Hh.o.row (by omega) (by have:=Hb.o; have:=hS.o.size; omega) ?_); intro v' wc ho hb _ Hr; obtain⟨ae,ce,rfl,-,-⟩:=aH ho)
   have hX: ∀i cs t z,w9.heap[i]? =some (.cells cs t z)->t≠53->(Value.slice av zs.length cv8).ownBlock≠some i:=fun i cs t z hi ht e=>by obtain⟨cs2,hN⟩:=bJ Hh.o.row e;exact ht (bU hi hN)
   have hY:=er hS.o HY.o;have hM:=(hb.block bb hO (fun e=>hX _ _ _ _ ha.o (by decide) e.symm)).trans ha.o;have Hc:=(hb.block (w.heap.size+1) hq (fun e=>hX _ _ _ _ hT.o (by decide) e.symm)).trans hT.o;have Ht:=(hb.block w.heap.size (am hY) (fun e=>hX _ _ _ _ hY (by decide) e.symm)).trans hY;have hf:=ah hM;have HQ:=ah Hc;have hw:=kL.push (b:=⟨r,x⟩) Hi.o hC.o hd.o Ha.o hS.o HV.o ho hb Hr hbb (an hbz Hb.o)
   have h9:=ah hw;have H1:=y6;have hD:=ah ((ay wc ⟨bb,12,none⟩ (.slice ae (zs.length+1) ce) (w.heap.size+1) (by show w.heap.size+1≠bb; omega)).trans Hc);have hj:=ah ((ay wc ⟨bb,12,none⟩ (.slice ae (zs.length+1) ce) w.heap.size (by show w.heap.size≠bb; omega)).trans Ht);clear ho hb Hr hw hX hY hM Hc Ht k0 k1 k2 k3 k4 k10 k12 k13 f0 f1 f2
   obtain⟨f0,f1,f2,_⟩:=aS HQ.o;have k0:=ar (k:=0) hf.o;have k1:=ar (k:=1) hf.o;have k2:=ar (k:=2) hf.o;have k3:=ar (k:=3) hf.o;have k4:=ar (k:=4) hf.o;have k10:=ar (k:=10) hf.o;have k12:=ar (k:=12) hf.o;have k13:=ar (k:=13) hf.o;simp only[nw,eT,fZ,aK,aI,gd]at k0 k1 k2 k3 k4 k10 k12 k13
   have kz12:=dE (k:=12) hf.o;refine⟨⟨k12,f0,f1,f2⟩, ?_⟩
   iterate 2 (refine cI rfl ⟨k12,f0,f1,f2⟩ (by rintro w' ⟨Hu,Hv,Hw,Hx⟩; go_simp; rfl) ?_; simp only[bN])
   refine cL (by kernel_rfl) ?_;refine eU rfl rfl (fun K hK=> ?_)
   go_upto_region 13 with(fail)
   obtain⟨Yg,hH⟩:=bI (wc.setCell ⟨bb,12,none⟩ (.slice ae (zs.length+1) ce));rw[<-hH]at h9 hD hj ⊢;clear hH k0 k1 k2 k3 k4 k10 k12 k13 f0 f1 f2 kz12;obtain⟨f0,f1,f2,_⟩:=aS hD.o;obtain⟨z0,z1,z2,_⟩:=aS hj.o;obtain⟨y0,y1,y2,_⟩:=gI hj.o;go_wp2_with fail;refine vN hj.o rfl rfl rfl ?_;refine⟨by rw[<-hZ.o]; rfl, .slice ae (zs.length+1) ce,And.symm ⟨?_, ?_⟩⟩
   ·exact(((h7.o.trans h9.o.2).setNew (ai _) hbz).setNew (ai _) hbz).setNew (ai _) hbz
   ·rw[h8.o];exact h9.o.1.other hj.o (by decide) (by decide) (by decide) (fun i hi _=>et hi)
theorem gO {w w':World} {B B' sz sz' n n':Nat} {t t':TypeId} {u r:Value} {xs xs':List Value} (h:w.ownsRow B t sz u n xs) (ho:w.ownsRow B' t' sz' r n' xs') (hg:w.grownBy w' r.ownBlock) (ht:t≠t'):w'.ownsRow B t sz u n xs:=
 ff h (fun k hk hu=>hg.block k hk (fun e=>by obtain⟨cs,hc⟩:=bJ h hu;obtain⟨cs2,hc2⟩:=bJ ho e.symm;exact ht (bU hc hc2)))
theorem jr.row {w w':World} {base bb im kb B sz n:Nat} {k:dl} {c:fC} {gv v v' u:Value} {bs:List dt} {t:TypeId} {xs:List Value} (h:kL w base bb k c gv im kb v bs) (hk:jr base bb kb v v' w w') (hr:w.ownsRow B t sz u n xs) (h1:t≠122) (h2:t≠53):w'.ownsRow B t sz u n xs:=
 ff hr (fun i hi hu=>by
  obtain⟨cs,hc⟩:=bJ hr hu;refine hk.same i hi (fun e=> ?_) (fun e=> ?_) (fun e=> ?_)
  ·subst e; exact h1 (bU hc h.box)
  ·subst e; exact h.known.cells hc
  ·obtain⟨zs,_,ho,_⟩:=h.own;obtain⟨cs2,hc2⟩:=bJ ho e;exact h2 (bU hc hc2))
theorem kL.otherRow {w w':World} {base bb im kb B sz n:Nat} {k:dl} {c:fC} {gv v r:Value} {bs:List dt} {t:TypeId} {xs:List Value} (h:kL w base bb k c gv im kb v bs) (hr:w.ownsRow B t sz r n xs) (hg:w.grownBy w' r.ownBlock) (h1:t≠122) (h2:t≠53) (h3:t≠5):kL w' base bb k c gv im kb v bs:=by
 obtain⟨zs,hz,ho,hd⟩:=h.own;refine⟨(hg.block bb (am h.box) (fun e=> ?_)).trans h.box,⟨zs,hz,gO ho hr hg (fun e=>h2 e.symm),fun z hz=>gO (hd z hz) hr hg (fun e=>h3 e.symm)⟩,h.known.same (hg.block kb h.known.map.lt (fun e=> ?_))⟩
 ·obtain⟨cs,hc⟩:=bJ hr e.symm;exact h1 (bU hc h.box)
 ·obtain⟨cs,hc⟩:=bJ hr e.symm;exact h.known.cells hc
theorem jr.otherRow {w0 w w':World} {base bb kb B sz n:Nat} {v v' r:Value} {t:TypeId} {xs:List Value} (h:jr base bb kb v v' w0 w) (hr:w.ownsRow B t sz r n xs) (hg:w.grownBy w' r.ownBlock) (hB:w0.heap.size<=B) (hbz:base<=w0.heap.size):jr base bb kb v v' w0 w':=
 ⟨h.below.grown hg (an hbz h.below.size) (fun i hi=>an (an hbz hB) (hr.lt i hi).1),fun i h1 h2 h3 h4=>(hg.block i (aO h1 h.below.size) (fun e=>by have:=(hr.lt i e.symm).1; omega)).trans (h.same i h1 h2 h3 h4),h.place⟩
theorem Ko (d p:ByteArray):Lib.trimPrefix (p.extract d.size p.size).data.toList [47]=mh (bl d) (bl p):=by
 have e:(p.extract d.size p.size).data.toList=(bl p).drop (bl d).length:=by rw[Lib.extract_data,<-bi];exact bw (by rw[bz,bi]; exact ai _)
 rw[e];unfold mh Lib.trimPrefix Lib.hasPrefix
 cases hd:(bl p).drop (bl d).length with
 | nil=>simp
 | cons y ys=>
  by_cases hy:y=47
  ·subst hy; simp
  ·simp[hy];intro h; exact absurd h.symm hy
theorem DJ (d p:ByteArray) (w:World) (h:d.size<=p.size):Calls Tryz.prog 121 #[.string d, .string p] w fun e w'=>e= .returned (.string ⟨(mh (bl d) (bl p)).toArray⟩)/\w=w':=by
 go_enter Tryz.func121,Tryz.ntmps121
 go_wp2_with fail;refine(Tryz.strings_TrimPrefix _ _ w).mono ?_;rintro e w' ⟨rfl,rfl⟩;rw[Ko d p];obtain⟨q,hq⟩:=bI (mh (bl d) (bl p));rw[<-hq];have HQ:=ah hq;clear hq;go_wp2_with fail;go_ret;obtain rfl:=HQ.o;exact⟨rfl,rfl⟩
structure LG (w : World) (base bb im kb B : Nat) (k : dl) (c : fC) (gv v pv : Value) (ys : List (Value × List UInt8)) (wr : World) (v2 rv : Value) (bs2 : List dt) (rs : List cH) : Prop where
 bd:kL wr base bb k c gv im kb v2 bs2
 kp:jr base bb kb v v2 w wr
 row:wr.ownsRow w.heap.size 26 3 rv rs.length (rs.flatMap jp)
 pcs:wr.ownsRow B 29 1 pv ys.length (ys.map Prod.fst)/\ ∀y∈ys,wr.ownsRow B 5 1 y.1 y.2.length (y.2.map aY)
section
variable {w wr w' : World} {base bb im kb B : Nat} {k : dl} {c : fC} {gv v pv v2 v3 rv : Value} {ys : List (Value × List UInt8)} {bs2 bs3 : List dt} {rs : List cH}
theorem LG.step (h:LG w base bb im kb B k c gv v pv ys wr v2 rv bs2 rs) (h1:kL w' base bb k c gv im kb v3 bs3) (h2:jr base bb kb v2 v3 wr w'):LG w base bb im kb B k c gv v pv ys w' v3 rv bs3 rs:=
 ⟨h1,h.kp.trans h2,h2.row h.bd h.row (by decide) (by decide),h2.row h.bd h.pcs.1 (by decide) (by decide),fun y hy=>h2.row h.bd (h.pcs.2 y hy) (by decide) (by decide)⟩
theorem LG.below (h:LG w base bb im kb B k c gv v pv ys wr v2 rv bs2 rs) (hb:Below wr.heap.size wr w') (hbz:base<=wr.heap.size):LG w base bb im kb B k c gv v pv ys w' v2 rv bs2 rs:=
 h.step (h.bd.below hb) (jr.ofBelow hb hbz)
theorem LG.push {rv':Value} {r:cH} (h:LG w base bb im kb B k c gv v pv ys wr v2 rv bs2 rs) (hown:w'.ownsRow w.heap.size 26 3 rv' (rs.length+1) (rs.flatMap jp++jp r)) (hg:wr.grownBy w' rv.ownBlock) (hbz:base<=w.heap.size):LG w base bb im kb B k c gv v pv ys w' v2 rv' bs2 (rs++[r]):=
 ⟨h.bd.otherRow h.row hg (by decide) (by decide) (by decide),h.kp.otherRow h.row hg (ai _) hbz,by rw[ag,bV]; simpa using hown,gO h.pcs.1 h.row hg (by decide),fun y hy=>gO (h.pcs.2 y hy) h.row hg (by decide)⟩
end
def QA (base bb im kb:Nat) (k:dl) (c:fC) (gs:List (ByteArray×Int)) (gv v:Value) (bs:List dt) (x:List UInt8) (w:World) (e:Ending) (w':World):Prop:=
 ∃rv v',e= .returned (.tuple #[rv, .int .i64 0])/\w'.ownsRow w.heap.size 26 3 rv ((fO c x).map (aV k gs)).length (((fO c x).map (aV k gs)).flatMap jp)/\kL w' base bb k c gv im kb v' (eG k gs (fO c x) bs)/\jr base bb kb v v' w w'
theorem Pm (k:dl) (gs:List (ByteArray×Int)) (bs:List dt) (x:List UInt8):(kJ k gs bs x).length<=bs.length+1:=by
 unfold kJ
 split
 ·omega
 ·simp
theorem ry (k:dl) (gs:List (ByteArray×Int)): ∀(cs:List (List UInt8)) (bs:List dt),(eG k gs cs bs).length<=bs.length+cs.length
 | [],bs=>ai _
 | x::cs,bs=>by
  have h1:=ry k gs cs (kJ k gs bs x);have h2:=Pm k gs bs x
  show(eG k gs cs (kJ k gs bs x)).length<=_
  rw[az]; omega
theorem Cp {k:dl} {gs:List (ByteArray×Int)} {cs:List (List UInt8)} {bs:List dt} {j:Nat} {x:List UInt8} (h:cs[j]? =some x):eG k gs (cs.take (j+1)) bs=kJ k gs (eG k gs (cs.take j) bs) x:=by rw[dZ h,jE]; rfl
theorem Bv {c:fC} (hc:jU c=true) (x:List UInt8): ∀y∈fO c x,1<=y.length/\y.length<=32768:=by have hv:=lW.1 hc;intro y hy;have:=As (mx:=c.mx.toNat) (by omega) (pq) y hy;omega
theorem Jn (S:Nat->Prop) (base bb kb im:Nat) (k:dl) (c:fC) (gs:List (ByteArray×Int)) (gv v cv:Value) (bs:List dt) (x:List UInt8) (w:World) (h:kL w base bb k c gv im kb v bs) (hk:jK k=true) (hc:jU c=true) (hsd:c.seed<18446744073709551616) (hg:kZ (· <base) w gv gs) (hgs: ∀p∈gs,0<=p.2/\p.2<=1099511627776)
  (hx:bD S w cv x) (hl:x.length<=1048576) (hE:rP w) (hbb:base<=bb) (hkb:base<=kb) (hbz:base<=w.heap.size) (h7:7<=base) (hn:bs.length+(fO c x).length<1000000000000):
  Calls Tryz.prog 122 #[.pointer (some ⟨bb,0,none⟩),cv] w (QA base bb im kb k c gs gv v bs x w):=by
 have HH:=ah h;have HK:=ah hk;have HG:=ah hg;have hX:=ah hgs;have HE:=ah hE;have hW:=ah (Bv hc x);have hF:=wD S c x cv w hc hsd hx hl hE.deb;obtain⟨L,hL⟩:=bI (fO c x);have HL:=ah hL;rw[<-hL]at hn;unfold fO at hL;rw[<-hL]at hF;unfold kB at hF;have h0:=ah hF;have ha:=ah h.box;have k5:=ar (k:=5) ha.o;have k6:=ar (k:=6) ha.o
 have k7:=ar (k:=7) ha.o;have k8:=ar (k:=8) ha.o;have k9:=ar (k:=9) ha.o;simp only[nw,eT,fZ,aK,aI,gd]at k5 k6 k7 k8 k9;clear h hk hg hgs hx hE hL hF
 go_enter Tryz.func122,Tryz.ntmps122
 go_wp2_with fail;refine h0.o.mono ?_;rintro e w1 ⟨pv,rfl,⟨ys,hM,hq,hw⟩,hC⟩;have Hj:=ah hC;obtain⟨pa,pc,rfl,Hc,He⟩:=aH hq;unfold maxLen at He;have h4:=ah hM;have hN:=ah (show LG w base bb im kb w.heap.size k c gv v (.slice pa ys.length pc) ys w1 v (.slice none 0 0) bs []from⟨HH.o.below hC,jr.ofBelow hC hbz,bM _ _ _ _,hq,hw⟩)
 obtain⟨m,hm⟩:=bI ys.length;rw[<-hm]at hN Hc ⊢;have HM:=ah hm;have hO:=ah (show m=L.length by rw[hm,<-hM,aw]);clear hC hq hw hM hm k5 k6 k7 k8 k9;go_wp2_with fail
 go_loopw [8,27] (fun rv i wr=> ∃(j:Nat) (v2:Value),j<=m/\i= .int .i64 (j:Int)/\LG w base bb im kb w.heap.size k c gv v (.slice pa m pc) ys wr v2 rv (eG k gs (L.take j) bs) ((L.take j).map (aV k gs))) (fun _ i _=>m-(intOf i).toNat)
 ·exact⟨0,v,aU _,rfl,hN.o⟩
 ·obtain⟨j,v2,hj,rfl,hy⟩:=hrel;have hf:=ah hy;obtain⟨rs,hD⟩:=bI ((L.take j).map (aV k gs));rw[<-hD]at hy;obtain⟨ra,rc,Hh,-,-⟩:=aH hy.row;subst Hh;have hf:=ah hy;have hP:=ah hD;have Hg:rs.length<=j:=by rw[hD,aw,bn]; omega
  clear hy hD
  by_cases Hb:j<m
  ·obtain⟨⟨yv,yb⟩,hG⟩: ∃yp,ys[j]? =some yp:=⟨ys[j]'(by rw[<-HM.o]; exact Hb),by simp⟩;have hA:=ah (show L[j]? =some yb by rw[<-h4.o,bh,hG]; rfl);obtain⟨_,pa',pc',Hd,_,_,hS⟩:=cJ hf.o.pcs.1
   cases Hd
   obtain⟨pb,po,rfl,-,he⟩:=hS.resolve_left (by omega);have q0:=he j yv (by rw[bh,hG]; rfl);have hp:=hf.o.pcs.2 (yv,yb) (aQ hG);obtain⟨ya,yc,hU,-,-⟩:=aH hp;simp only at hU;subst hU;have hT:=hW.o yb (by rw[<-HL.o]; exact aQ hA.o);have h9:=ry k gs (L.take j) bs;have hI:(L.take j).length<=L.length:=by rw[bn]; omega
   have hu:=GV (fun _=>True) base bb kb im k c gs gv v2 (.slice ya yb.length yc) (eG k gs (L.take j) bs) yb wr hf.o.bd HK.o (HG.o.keep (fun i h1 _=>hf.o.kp.below.block i h1)) hX.o
    (cD.weak (cJ hp) (fun _ _=>trivial)) hT.2 (HE.o.keep hf.o.kp.below h7) hbb hkb (an hbz hf.o.kp.below.size) h7 (by omega)
   unfold EP fi at hu;rw[<-Cp hA.o]at hu;obtain⟨r,hr⟩:=bI (aV k gs yb);rw[<-hr]at hu;have hZ:=ah hr;have hV:=ah hu;obtain⟨rn,hJ⟩:=bI rs.length;rw[<-hJ]at Hg ⊢;have ho:=ah hJ;clear hG hS he hp hT h9 hI hu hr hJ;go_wp2_with fail;refine hV.o.mono ?_;rintro e w3 ⟨rfl,v3,hv,hz⟩;have hs:=ah (hf.o.step hv hz);have h8:=ah (show base<=w3.heap.size from an hbz (hs.o.kp.below.size))
   obtain⟨W4,hB⟩:=bI (w3.alloc (.cells #[.string r.name, .int .i64 r.gen, .int .i64 r.size] 26));have hh:=ah (hs.o.below (w':=W4) (by rw[hB]; exact eW) h8.o);have hR:W4.heap[w3.heap.size]? =some (.cells #[.string r.name, .int .i64 r.gen, .int .i64 r.size] 26 (0,0)):=by rw[hB]; exact ep w3 _
   obtain⟨f0,f1,f2,_⟩:=aS hR;have hH:=ah (show W4.ownsRow w.heap.size 26 3 (.slice ra rn rc) rn (rs.flatMap jp) by have h1:=hh.o.row; rw[<-ho.o]at h1; exact h1);have Hi:w.heap.size<=W4.heap.size:=hh.o.kp.below.size;have Hf:rn<1099511627775:=by have:=hO.o; omega
   clear hv hz q0 hR
   go_upto_region 11 with(fail)
   rw[<-hB];clear hB;go_wp2_with (at_builtin; go_must (refine bO Tryz.appRefs rfl _ _ rfl w.heap.size (.slice ra rn rc) rn (rs.flatMap jp) rfl W4 [.string r.name, .int .i64 r.gen, .int .i64 r.size] _ rfl rfl (qY (r:=r)) hH.o Hf Hi ?_); intro v' wc hd hb _ _; obtain⟨ae,ce,rfl,-,-⟩:=aH hd; have hY:=ah (hh.o.push (r:=r) (by rw[<-ho.o]; exact hd) (by rw[<-ho.o]; exact hb) hbz); clear hd hb)
   go_roundw
   ·refine⟨j+1,v3,by omega,by go_num, ?_⟩;have h1:=hY.o;rw[hP.o,hZ.o]at h1;rw[dZ hA.o,aL,<-dZ hA.o];exact h1
   simp[intOf]; omega
  ·have Ha:j=m:=by omega
   subst Ha;go_wp2_with fail
   go_ret2
   have h1:=hf.o;have h2:L.take j=L:=by rw[hO.o,dw]
   have h3:rs=L.map (aV k gs):=by rw[hP.o,h2]
   rw[h2]at h1;refine⟨_,v2,rfl, ?_, ?_,h1.kp⟩
   ·rw[<-HL.o,<-h3]; exact h1.row
   ·rw[<-HL.o]; exact h1.bd
structure Cc where
 dir:ByteArray
 val:Value
 ents:List oU
def nY (g:Cc):Value×Value:=(.string g.dir,g.val)
structure qz (w : World) (base im : Nat) (G : List Cc) : Prop where
 map:ik Tryz.prog 9 w im (G.map nY)
 own: ∀g∈G,w.ownsRow base 79 6 g.val g.ents.length (iE g.ents)
 dat: ∀g∈G,∀y∈g.ents,el (· <base) w y.1 y.2.data/\jP y.2
 apart:G.Pairwise fun a b=> ∀i,a.val.ownBlock=some i->b.val.ownBlock≠some i
 key: ∀g∈G,g.dir.size<=maxLen
def mz (G:List Cc) (d:ByteArray):List dd:=match G.find? (fun g=>decide (g.dir=d))with
 | none=>[]
 | some g=>g.ents.map Prod.snd
def ES (w:World) (base im:Nat) (tree:List dd):Prop:= ∃G,qz w base im G/\ ∀d,mz G d=gW tree d
theorem pR {B:Nat} {w w':World} {v:Value} {bs:List UInt8} (h:el (· <B) w v bs) (hb:Below B w w'):el (· <B) w' v bs:=cD.same h (fun k hk=>hb.block k hk)
theorem ik.ncells {P:Program} {k:TypeId} {w:World} {b:Nat} {m:List (Value×Value)} (h:ik P k w b m) {cs:Array Value} {t:TypeId} {z:Nat×Nat} :w.heap[b]? ≠some (.cells cs t z):=fun e=>by obtain⟨es,clock,hb,_⟩:=h;rw[hb]at e; cases e
theorem jr.blk {w w':World} {base bb im kb i:Nat} {k:dl} {c:fC} {gv v v':Value} {bs:List dt} {cs:Array Value} {t:TypeId} {z:Nat×Nat} (h:kL w base bb k c gv im kb v bs) (hk:jr base bb kb v v' w w') (hx:w.heap[i]? =some (.cells cs t z)) (h1:t≠122) (h2:t≠53):w'.heap[i]? =some (.cells cs t z):=by
 refine(hk.same i (am hx) (fun e=> ?_) (fun e=> ?_) (fun e=> ?_)).trans hx
 ·subst e; exact h1 (bU hx h.box)
 ·subst e; exact h.known.cells hx
 ·obtain⟨zs,_,ho,_⟩:=h.own;obtain⟨cs2,ha⟩:=bJ ho e;exact h2 (bU hx ha)
theorem qz.keep {w w':World} {base bb im kb:Nat} {k:dl} {c:fC} {gv v v':Value} {bs:List dt} {G:List Cc} (hg:qz w base im G) (h:kL w base bb k c gv im kb v bs) (hk:jr base bb kb v v' w w') (hne:im≠kb):qz w' base im G:=by
 refine⟨hg.map.same (hk.same im hg.map.lt (fun e=> ?_) hne (fun e=> ?_)),fun g hm=>hk.row h (hg.own g hm) (by decide) (by decide),fun g hm y hy=>⟨pR (hg.dat g hm y hy).1 hk.below,(hg.dat g hm y hy).2⟩,hg.apart,hg.key⟩
 ·exact hg.map.ncells (by rw[e]; exact h.box)
 ·obtain⟨zs,_,ho,_⟩:=h.own;obtain⟨cs2,ha⟩:=bJ ho e;exact hg.map.ncells ha
theorem ES.keep {w w':World} {base bb im kb:Nat} {k:dl} {c:fC} {gv v v':Value} {bs:List dt} {tree:List dd} (hg:ES w base im tree) (h:kL w base bb k c gv im kb v bs) (hk:jr base bb kb v v' w w') (hne:im≠kb):ES w' base im tree:=by obtain⟨G,h1,h2⟩:=hg;exact⟨G,h1.keep h hk hne,h2⟩
theorem MD {w:World} {base im:Nat} {tree:List dd} (hg:ES w base im tree) {d:ByteArray} (hd:d.size<=maxLen):
  ∃(v:Value) (ys:List oU),(Instr.lookup 119 (.map (some im)) (.string d) false).run Tryz.prog w= .ok v w/\ys.map Prod.snd=gW tree d/\w.ownsRow base 79 6 v ys.length (iE ys)/\ ∀y∈ys,el (· <base) w y.1 y.2.data/\jP y.2:=by
 obtain⟨G,h1,h2⟩:=hg;have ht:Tryz.prog.underlying 119=some (.map 9 46):=Tryz.underlying119;have hz:(zeroValue 46).run Tryz.prog w= .ok (.slice none 0 0) w:=by kernel_rfl
 have h3:=h2 d;unfold mz at h3
 cases hf:G.find? (fun g=>decide (g.dir=d))with
 | none=>
  rw[hf]at h3;refine⟨.slice none 0 0,[], ?_,h3,bM _ _ _ _,by simp⟩;have:=h1.map.is.miss fw ht hz (gY hd) (fun q hq e=>by obtain⟨x,hx,rfl⟩:=aP.1 hq;simp only[nY,eD]at e;have:=eZ.1 hf x hx;simp[e]at this) false
  simpa using this
 | some g=>
  rw[hf]at h3;have h4:=dR hf;have h5:=jz hf;simp only[aJ]at h5;refine⟨g.val,g.ents, ?_,h3,h1.own g h4,h1.dat g h4⟩;have:=h1.map.is.hit fw ht (gY hd) (val:=g.val) (aP.2 ⟨g,h4,by rw[<-h5]; rfl⟩) false
  simpa using this
abbrev uO :=Value×cj
def pW (zs:List uO):List Value:=zs.flatMap fun z=>fu z.1 z.2
theorem zZ (zs:List uO) (z:uO):pW (zs++[z])=pW zs++fu z.1 z.2:=by simp[pW]
structure lM (w : World) (B : Nat) (iv : Value) (its : List cj) : Prop where
 row: ∃zs:List uO,zs.map Prod.snd=its/\w.ownsRow B 28 10 iv zs.length (pW zs)/\ ∀z∈zs,w.ownsRow B 26 3 z.1 z.2.chunks.length (z.2.chunks.flatMap jp)/\iC z.2/\ ∀r∈z.2.chunks,eF r
theorem zY {S:Nat->Prop} {w:World} : ∀ {zs:List uO},(∀z∈zs,dN S w z.1 z.2.chunks/\iC z.2)->eO (lG S w) (pW zs) (zs.map Prod.snd)
 | [],_=>rfl
 | z::zs,h=>⟨fu z.1 z.2,pW zs,by simp[pW],⟨z.1,rfl,(h z (by simp)).1,(h z (by simp)).2⟩,zY (fun y hy=>h y (by simp[hy]))⟩
theorem lM.at {w:World} {B:Nat} {iv:Value} {its:List cj} (h:lM w B iv its):eP (fun _=>True) w iv its:=by obtain⟨zs,rfl,h1,h2⟩:=h.row;refine⟨pW zs, ?_,zY (fun z hz=>⟨dN.same (qi (h2 z hz).1 (h2 z hz).2.2) (fun _ _ _=>⟨trivial,rfl⟩),(h2 z hz).2.1⟩)⟩;rw[aw];exact cD.weak (cJ h1) (fun _ _=>trivial)
theorem lM.nil (w:World) (B:Nat):lM w B (.slice none 0 0) []:=⟨[],rfl,bM _ _ _ _,by simp⟩
structure EQ (w : World) (base bb im kb : Nat) (k : dl) (c : fC) (gv v ev : Value) (ys : List oU) (wr : World) (v2 iv : Value) (bs2 : List dt) (its : List cj) : Prop where
 bd:kL wr base bb k c gv im kb v2 bs2
 kp:jr base bb kb v v2 w wr
 its:lM wr w.heap.size iv its
 ents:wr.ownsRow base 79 6 ev ys.length (iE ys)
 res:wr.heap[w.heap.size]? =some (.cells #[.string ⟨#[]⟩, .int .i64 0, .int .i64 0] 26 (0,0))
theorem lM.keep {w w':World} {base bb im kb B:Nat} {k:dl} {c:fC} {gv v v' iv:Value} {bs:List dt} {its:List cj} (hi:lM w B iv its) (h:kL w base bb k c gv im kb v bs) (hk:jr base bb kb v v' w w'):lM w' B iv its:=by obtain⟨zs,h1,h2,h3⟩:=hi.row;exact⟨zs,h1,hk.row h h2 (by decide) (by decide),fun z hz=>⟨hk.row h (h3 z hz).1 (by decide) (by decide),(h3 z hz).2⟩⟩
section
variable {w wr w' : World} {base bb im kb : Nat} {k : dl} {c : fC} {gv v ev v2 v3 iv : Value} {ys : List oU} {bs2 bs3 : List dt} {its : List cj}
theorem EQ.step (h:EQ w base bb im kb k c gv v ev ys wr v2 iv bs2 its) (h1:kL w' base bb k c gv im kb v3 bs3) (h2:jr base bb kb v2 v3 wr w'):EQ w base bb im kb k c gv v ev ys w' v3 iv bs3 its:=
 ⟨h1,h.kp.trans h2,h.its.keep h.bd h2,h2.row h.bd h.ents (by decide) (by decide),h2.blk h.bd h.res (by decide) (by decide)⟩
theorem EQ.below (h:EQ w base bb im kb k c gv v ev ys wr v2 iv bs2 its) (hb:Below wr.heap.size wr w') (hbz:base<=wr.heap.size):EQ w base bb im kb k c gv v ev ys w' v2 iv bs2 its:=
 h.step (h.bd.below hb) (jr.ofBelow hb hbz)
theorem EQ.push {iv' rv:Value} {it:cj} {zs:List uO} (h:EQ w base bb im kb k c gv v ev ys wr v2 iv bs2 its) (hz:zs.map Prod.snd=its) (hrow:wr.ownsRow w.heap.size 28 10 iv zs.length (pW zs)) (hdat: ∀z∈zs,wr.ownsRow w.heap.size 26 3 z.1 z.2.chunks.length (z.2.chunks.flatMap jp)/\iC z.2/\ ∀r∈z.2.chunks,eF r)
  (hown:w'.ownsRow w.heap.size 28 10 iv' (zs.length+1) (pW zs++fu rv it)) (hg:wr.grownBy w' iv.ownBlock) (hrv:wr.ownsRow w.heap.size 26 3 rv it.chunks.length (it.chunks.flatMap jp)) (hok:iC it) (hrs: ∀r∈it.chunks,eF r) (hbz:base<=w.heap.size):
  EQ w base bb im kb k c gv v ev ys w' v2 iv' bs2 (its++[it]):=by
 refine⟨h.bd.otherRow hrow hg (by decide) (by decide) (by decide),h.kp.otherRow hrow hg (ai _) hbz,⟨zs++[(rv,it)],by simp[hz],by rw[ag,bB,zZ]; exact hown,fun z hm=> ?_⟩,gO h.ents hrow hg (by decide), ?_⟩
 ·rcases aN.1 hm with hm | hm
  ·exact⟨gO (hdat z hm).1 hrow hg (by decide),(hdat z hm).2⟩
  ·rw[aE]at hm;subst hm;exact⟨gO hrv hrow hg (by decide),hok,hrs⟩
 ·refine(hg.block _ (am h.res) (fun e=> ?_)).trans h.res;obtain⟨cs2,ha⟩:=bJ hrow e.symm;exact absurd (bU h.res ha) (by decide)
theorem EQ.otherSet {i q:Nat} {u:Value} {cs:Array Value} {t:TypeId} {z:Nat×Nat} (h:EQ w base bb im kb k c gv v ev ys wr v2 iv bs2 its) (hx:wr.heap[i]? =some (.cells cs t z)) (h1:t≠122) (h2:t≠53) (h3:t≠5) (h4:t≠26) (h5:t≠79) (h6:iv.ownBlock≠some i) (hi:w.heap.size<=i) (hbz:base<=w.heap.size):EQ w base bb im kb k c gv v ev ys (wr.setCell ⟨i,q,none⟩ u) v2 iv bs2 its:=by
 have hs: ∀j,j≠i->(wr.setCell ⟨i,q,none⟩ u).heap[j]? =wr.heap[j]? :=fun j hj=>ay _ _ _ _ hj
 refine⟨h.bd.other hx h1 h2 h3 (fun j hj _=>hs j hj),h.kp.setNew hi hbz, ?_,ff h.ents (fun j hj hu=>hs j (fun e=> ?_)),(hs _ (fun e=> ?_)).trans h.res⟩
 ·obtain⟨zs,hz,hr,hd⟩:=h.its.row;refine⟨zs,hz,ff hr (fun j hj hu=>hs j (fun e=>h6 (e▸hu))),fun y hy=>⟨ff (hd y hy).1 (fun j hj hu=>hs j (fun e=> ?_)),(hd y hy).2⟩⟩;obtain⟨cs2,ha⟩:=bJ (hd y hy).1 hu;exact h4 (bU hx (e▸ha))
 ·obtain⟨cs2,ha⟩:=bJ h.ents hu;exact h5 (bU hx (e▸ha))
 ·exact h4 (bU hx (e▸h.res))
end
theorem OS {a:Act} {w:World} {b:Nat} {x0 x1 x2 e5:Value} (h:w.heap[b]? =some (.cells #[x0,x1,x2] 26 (0,0)))
  (h4:a.tmps[4]? =some (.pointer (some ⟨b,0,none⟩))) (h5:a.tmps[5]? =some e5):(results Tryz.f73 a.tmps).run Tryz.prog w= .ok (.tuple #[.agg #[x0,x1,x2],e5]) w:=by
 obtain⟨m0,m1,m2,_⟩:=aS h;simp[results,Tryz.results73,go_sem,h4,h5,m0,m1,m2]
theorem vT {a:Act} {w:World} {b:Nat} {a0 a1 a2 x0 x1 x2 e5:Value} {Q:Ending->World->Prop} (h:w.heap[b]? =some (.cells #[a0,a1,a2] 26 (0,0)))
  (h4:a.tmps[4]? =some (.pointer (some ⟨b,0,none⟩))) (h5:a.tmps[5]? =some e5) (hd:a.defers=[])
  (hQ:Q (.returned (.tuple #[.agg #[x0,x1,x2],e5])) (((w.setCell ⟨b,0,none⟩ x0).setCell ⟨b,1,none⟩ x1).setCell ⟨b,2,none⟩ x2)):
  bodyPost Tryz.prog Tryz.f73 Q Exit.ret a (((w.setCell ⟨b,0,none⟩ x0).setCell ⟨b,1,none⟩ x1).setCell ⟨b,2,none⟩ x2):=cP (OS (vu h) h4 h5) hd hQ
structure LE (base bb kb im : Nat) (k : dl) (c : fC) (gs : List (ByteArray × Int)) (tree : List dd) (UR : List cH) : Prop where
 keys:jK k=true
 cut:jU c=true
 seed:c.seed<18446744073709551616
 gens: ∀p∈gs,0<=p.2/\p.2<=1099511627776
 bbb:base<=bb
 bkb:base<=kb
 seven:7<=base
 ikb:im≠kb
 val: ∀e∈tree,ig e=true
 len:tree.length<=4096
 usz:UR.length<=100000000000
 u1: ∀e∈tree,∀y∈fO c e.data,aV k gs y∈UR
 u2: ∀(n:Nat) (d:ByteArray) (p:List UInt8×List (List UInt8)),n<=514->(d.size=0\/ ∃e∈tree,e.path=d)->gV k gs c tree n d= .ok p->aV k gs p.1∈UR
def GM (UR:List cH) (bs:List dt):Prop:= ∀b∈bs,b.ref∈UR
theorem GM.put {UR:List cH} {bs:List dt} {k:dl} {gs:List (ByteArray×Int)} {x:List UInt8} (h:GM UR bs) (hx:aV k gs x∈UR):GM UR (kJ k gs bs x):=by
 unfold kJ
 split
 ·exact h
 ·intro b hb
  rcases aN.1 hb with hb | hb
  ·exact h b hb
  ·rw[aE]at hb; subst hb; exact hx
theorem GM.puts {UR:List cH} {k:dl} {gs:List (ByteArray×Int)} : ∀ {cs:List (List UInt8)} {bs:List dt},GM UR bs->(∀x∈cs,aV k gs x∈UR)->GM UR (eG k gs cs bs)
 | [],_,h,_=>h
 | x::cs,bs,h,hx=>GM.puts (cs:=cs) (bs:=kJ k gs bs x) (h.put (hx x (by simp))) (fun y hy=>hx y (by simp[hy]))
theorem GM.len {UR:List cH} {bs:List dt} {w:World} {base bb im kb:Nat} {k:dl} {c:fC} {gv v:Value} (h:GM UR bs) (hb:kL w base bb k c gv im kb v bs):bs.length<=UR.length:=by
 have h1:=qU (l:=bs.map dt.ref) (U:=UR) hb.known.nodup (fun x hx=>by obtain⟨b,ha,rfl⟩:=aP.1 hx;exact h b ha)
 rwa [aw]at h1
def Ba (base bb kb im:Nat) (k:dl) (c:fC) (gs:List (ByteArray×Int)) (gv v:Value) (bs:List dt) (UR:List cH) (res:Except Int (List UInt8×List (List UInt8))) (w:World) (e:Ending) (w':World):Prop:=match res with
 | .error x=>e= .returned (.tuple #[.agg #[.string ⟨#[]⟩, .int .i64 0, .int .i64 0], .int .i64 x])/\x≠0/\ ∃v' bs',kL w' base bb k c gv im kb v' bs'/\jr base bb kb v v' w w'
 | .ok p=>e= .returned (.tuple #[fi (aV k gs p.1), .int .i64 0])/\GM UR (eG k gs p.2 bs)/\ ∃v',kL w' base bb k c gv im kb v' (eG k gs p.2 bs)/\jr base bb kb v v' w w'
def Ou (base bb kb im:Nat) (k:dl) (c:fC) (gs:List (ByteArray×Int)) (tree:List dd) (gv:Value) (UR:List cH) (n:Nat):Prop:= ∀(path:ByteArray) (v:Value) (bs:List dt) (w:World),
 514<=path.size+n->(path.size=0\/ ∃e∈tree,e.path=path)->kL w base bb k c gv im kb v bs->kZ (· <base) w gv gs->ES w base im tree->GM UR bs->rP w->base<=w.heap.size->
 Calls Tryz.prog 73 #[.pointer (some ⟨bb,0,none⟩), .string path] w (Ba base bb kb im k c gs gv v bs UR (gV k gs c tree n path) w)
theorem Ms {base bb kb im:Nat} {k:dl} {c:fC} {gs:List (ByteArray×Int)} {tree:List dd} {gv:Value} {UR:List cH} (hX:LE base bb kb im k c gs tree UR):Ou base bb kb im k c gs tree gv UR 0:=by
 intro path v bs w hn hp
 exfalso
 rcases hp with h | ⟨e,he,rfl⟩
 ·omega
 ·have:=mG (dj (hX.val e he));rw[<-bi]at this;omega
theorem qe {l:List UInt8} (h:l≠[]):(cr l).length<l.length:=by
 by_cases hp:cr l=[]
 ·rw[hp];exact List.length_pos_iff.2 h
 ·obtain⟨t,ht⟩:=qV hp;have:=congrArg List.length ht;rw[ag,az]at this;omega
theorem Bu {c:fC} (hc:jU c=true) (x:List UInt8):(fO c x).length<=x.length:=by
 have h1:(fO c x).flatten=x:=xK;have h2: ∀(l:List (List UInt8)),(∀y∈l,1<=y.length)->l.length<=l.flatten.length:=by
  intro l
  induction l with
  | nil=>simp
  | cons y l ih=>
   intro h;have:=ih (fun z hz=>h z (by simp[hz]));have:=h y (by simp);simp only[az,iI,ag];omega
 have h3:=h2 (fO c x) (fun y hy=>(Bv hc x y hy).1)
 rwa [h1]at h3
section
variable {P : Program} {ops : Array Oper} {Q : Exit → Act → World → Prop} {S : World → Prop}
theorem xf {dst dst2:Option Tmp} {op op2:Op} {ty ty2:TypeId} {pos pos2:String} {aft aft2:Array Edge} {g g2:Option (Nat×Bool)} {fuel:Nat} {listed:Array Bool} {a:Act} {w:World} (i j:Nat) (hi:ops[i]? =some ⟨dst,op,ty,pos,aft,g⟩) (hj:ops[j]? =some ⟨dst2,op2,ty2,pos2,aft2,g2⟩) (hr:Region.ready .any ops listed=[i,j])
  (hw:Region.wanted ⟨dst,op,ty,pos,aft,g⟩ (yielded ops a.tmps)=true) (hw2:Region.wanted ⟨dst2,op2,ty2,pos2,aft2,g2⟩ (yielded ops a.tmps)=true)
  (h: ∀K:Act->World->Prop,(∀a w,S w/\pM P ops Q S fuel (listed.setIfInBounds i true) a w->K a w)->wpList P #[] (Exit.then K Q) [⟨dst,op,ty,pos, #[],none⟩] a w)
  (h2: ∀K:Act->World->Prop,(∀a w,S w/\pM P ops Q S fuel (listed.setIfInBounds j true) a w->K a w)->wpList P #[] (Exit.then K Q) [⟨dst2,op2,ty2,pos2, #[],none⟩] a w):pM P ops Q S (fuel+1) listed a w:=by
 refine pM.of (wpAnyH_all hr (by simp) fun m hm=> ?_);have ha:m=i\/m=j:=by simpa using hm
 rcases ha with rfl | rfl
 ·have hb:yx P ops (fun a' w'=>S w'/\wpAnyH P .any ops Q S fuel (listed.setIfInBounds m true) a' w') Q [⟨dst,op,ty,pos,aft,g⟩] a w:=
   eu hw (fun K hK=>h K (fun a w hh=>hK a w ⟨hh.1,hh.2.out⟩))
  unfold wpOp;simp only[hi];exact yx.out hb
 ·have hb:yx P ops (fun a' w'=>S w'/\wpAnyH P .any ops Q S fuel (listed.setIfInBounds m true) a' w') Q [⟨dst2,op2,ty2,pos2,aft2,g2⟩] a w:=
   eu hw2 (fun K hK=>h2 K (fun a w hh=>hK a w ⟨hh.1,hh.2.out⟩))
  unfold wpOp;simp only[hj];exact yx.out hb
end
structure EU (it : cj) : Prop where
 nm:it.name.size<=512
 lk:it.link.size<=512
 ch:it.chunks.length<=1048576
 rs: ∀r∈it.chunks,r.name.size<=32
 nd:it.node.name.size<=32
 tm:it.time<9223372036854775808
theorem zC {r:cH} (h:r.name.size<=32):(fE r).length<=60:=by
 unfold fE;have h1:=dD r.gen.toNat
 have h2:=dD r.size.toNat
 rw[ag,ag,<-bi];omega
theorem Fi {it:cj} (h:EU it):(gx it).length<=70000000:=by
 have h1:=dD it.name.size;have h2:=dD it.kind.toNat
 have h3:=dD it.mode.toNat
 have h4:=dD it.time.toNat
 have h5:=dD it.chunks.length;have h6:=dD it.link.size;have h7:=mP fE 60 it.chunks (fun r hr=>zC (h.rs r hr));have h8:=zC h.nd;have hn:=h.nm;have hl:=h.lk;have hc:=h.ch;unfold gx ly;simp only[ag,<-bi]
 split
 ·simp only[ag];omega
 ·split
  ·omega
  ·simp only[ag,<-bi];omega
theorem Na {l:List cj} (h: ∀it∈l,EU it) (hl:l.length<=4096):(gk l).length<1000000000000:=by have h1:=mP gx 70000000 l (fun it ha=>Fi (h it ha));have h2:=dD l.length;unfold gk;rw[ag];have h3:l.length*70000000<=4096*70000000:=dh _ hl;omega
theorem Dw (d p:List UInt8):(mh d p).length<=p.length:=by
 unfold mh
 split
 ·rw[List.length_tail,bz]; omega
 ·rw[bz]; omega
theorem my {e:dd} (h:ig e=true):e.path.size<=512/\e.link.size<=512/\e.data.length<=1048576:=by
 have h1:=mG (dj h);rw[<-bi]at h1;unfold ig lr at h;rw[aF]at h;refine⟨h1, ?_⟩;have h2:=h.2
 split at h2
 ·simp only[aF,aJ]at h2;omega
 ·split at h2
  ·simp only[aF,aJ]at h2;omega
  ·split at h2
   ·simp only[aF,aJ,pg]at h2;have:=h2.2.1.2;rw[<-bi]at this;omega
   ·cases h2
theorem re (k:dl) (gs:List (ByteArray×Int)) (x:List UInt8):(aV k gs x).name.size=32:=lD _ _ _
theorem pV {k:dl} {gs:List (ByteArray×Int)} {c:fC} {dir:ByteArray} {e:dd} {nd:cH} (hc:jU c=true) (h:ig e=true) (hok:jP e) (hn:nd.name.size<=32):EU (cE k gs c dir e nd):=by
 obtain⟨h1,h2,h3⟩:=my h;have h4:=Dw (bl dir) (bl e.path);rw[<-bi e.path]at h4;refine⟨?_,h2, ?_, ?_, ?_, ?_⟩
 ·show ByteArray.size ⟨_⟩<=_
  simp only[ByteArray.size,bS];omega
 ·show(if e.kind=1 then(fO c e.data).map (aV k gs)else []).length<=_
  split
  ·rw[aw];have:=Bu hc e.data;omega
  ·simp
 ·show ∀r∈(if e.kind=1 then(fO c e.data).map (aV k gs)else []),_
  intro r hr
  split at hr
  ·obtain⟨x,_,rfl⟩:=aP.1 hr;rw[re]; omega
  ·simp at hr
 ·show(if e.kind=2 then nd else eq).name.size<=32
  split
  ·exact hn
  ·decide
 ·have:=hok.tim;simp[Lit.wf,IntKind.min,IntKind.max,IntKind.signed,IntKind.bits]at this
  show e.time<_
  omega
theorem jv {k:dl} {gs:List (ByteArray×Int)} (hgs: ∀p∈gs,0<=p.2/\p.2<=1099511627776) {x:List UInt8} (hx:x.length<=1048576):eF (aV k gs x):=by
 have h1:=Aw gs hgs (mi k 0 x);refine⟨by rw[re]; unfold maxLen; omega,WalkArith.wf_i64 ?_,WalkArith.wf_i64 ?_⟩
 ·show _<=mQ gs _/\mQ gs _<=_
  omega
 ·show -9223372036854775808<=(x.length:Int)/\(x.length:Int)<=_
  omega
theorem Mq {k:dl} {gs:List (ByteArray×Int)} {c:fC} {tree:List dd} : ∀ {n:Nat} {d:ByteArray} {p:List UInt8×List (List UInt8)},gV k gs c tree n d= .ok p->p.1.length<=32768
 | 0,_,_,h=>by simp[gV]at h
 | n+1,d,p,h=>by
  rw[gV]at h
  split at h
  ·cases h
  ·split at h
   ·split at h
    ·simp only[dr]at h;subst h
     assumption
    ·cases h
   ·cases h
theorem Aa {k:dl} {gs:List (ByteArray×Int)} {c:fC} {rec:ByteArray->Except Int (List UInt8×List (List UInt8))} {dir:ByteArray} {e:dd} {r:List dd} {its:List cj} {cs:List (List UInt8)} (h:e.kind=1):gZ k gs c rec dir (e::r) its cs=gZ k gs c rec dir r (its++[cE k gs c dir e eq]) (cs++fO c e.data):=by rw[gZ,if_pos h]
theorem xr {k:dl} {gs:List (ByteArray×Int)} {c:fC} {rec:ByteArray->Except Int (List UInt8×List (List UInt8))} {dir:ByteArray} {e:dd} {r:List dd} {its:List cj} {cs:List (List UInt8)} (h:e.kind=2):gZ k gs c rec dir (e::r) its cs=match rec e.path with
  | .error x=> .error x
  | .ok p=>gZ k gs c rec dir r (its++[cE k gs c dir e (aV k gs p.1)]) (cs++p.2):=by
 rw[gZ,if_neg (by omega),if_pos h]
 cases rec e.path<;> rfl
theorem JZ {k:dl} {gs:List (ByteArray×Int)} {c:fC} {rec:ByteArray->Except Int (List UInt8×List (List UInt8))} {dir:ByteArray} {e:dd} {r:List dd} {its:List cj} {cs:List (List UInt8)} (h1:e.kind≠1) (h:e.kind≠2):gZ k gs c rec dir (e::r) its cs=gZ k gs c rec dir r (its++[cE k gs c dir e eq]) cs:=by rw[gZ,if_neg h1,if_neg h]
theorem Mr {base bb kb im:Nat} {k:dl} {c:fC} {gs:List (ByteArray×Int)} {tree:List dd} {gv:Value} {UR:List cH} (n:Nat) (hX:LE base bb kb im k c gs tree UR) (hn514:n+1<=514) (IH:Ou base bb kb im k c gs tree gv UR n):Ou base bb kb im k c gs tree gv UR (n+1):=by
 intro path v bs w hn hp h hg y7 hu hE hd;have hf:=ah hX;have YH:=ah IH;have YJ:=ah hp;have HH:=ah h;have HG:=ah hg;have YG:=ah y7;have HU:=ah hu;have HE:=ah hE;have za:path.size<=512:=by
  rcases hp with h | ⟨e,he,rfl⟩
  ·omega
  ·have:=mG (dj (hX.val e he));rw[<-bi]at this;exact this
 obtain⟨W0,HZ⟩:=bI (w.alloc (.cells #[.string ⟨#[]⟩, .int .i64 0, .int .i64 0] 26));have H2:Below w.heap.size w W0:=by rw[HZ]; exact eW
 have Hl:=jr.ofBelow (bb:=bb) (kb:=kb) (v:=v) H2 hd;obtain⟨ev,ys,YU,Ye,Hn,Hk⟩:=MD (y7.keep h Hl hX.ikb) (d:=path) (by unfold maxLen; omega);obtain⟨ea,ec,YS,YR,YQ⟩:=aH Hn;subst YS;unfold maxLen at YQ;obtain⟨m,hm⟩:=bI ys.length;have Hh:=ah (show EQ w base bb im kb k c gv v (.slice ea m ec) ys W0 v (.slice none 0 0) bs []from⟨h.below H2,Hl,lM.nil _ _,by rw[hm]; exact Hn,by rw[HZ]; exact ep w _⟩)
 rw[<-hm]at YU YR;have HM:=ah hm;have Yp:=ah Ye;have H7:=ah (show ∀y∈ys,el (· <base) w y.1 y.2.data/\jP y.2 from fun y hy=>⟨cD.same (Hk y hy).1 (fun i hi=>(H2.block i (aO hi hd)).symm),(Hk y hy).2⟩);have hw:=ah Hh.o.bd.box;have Y8:m<=4096:=by rw[hm,<-aw (f:=Prod.snd),Ye];exact an (dM _ _) hX.len
 have k0:=ar (k:=0) hw.o;have k1:=ar (k:=1) hw.o;have k2:=ar (k:=2) hw.o;have k3:=ar (k:=3) hw.o;have k4:=ar (k:=4) hw.o;have k10:=ar (k:=10) hw.o;have k11:=ar (k:=11) hw.o;have k12:=ar (k:=12) hw.o;have k13:=ar (k:=13) hw.o;simp only[nw,eT,fZ,aK,aI,gd]at k0 k1 k2 k3 k4 k10 k11 k12 k13
 clear hX IH hp h hg y7 hu hE Hn Hk Ye hm H2 Hl
 go_enter Tryz.func73,Tryz.ntmps73
 go_upto_region 2 with(fail)
 rw[<-HZ];clear HZ;go_wp2_with fail
 go_loopw [6,20] (fun iv i wr=> ∃(j:Nat) (v2:Value) (its:List cj) (cs2:List (List UInt8)),j<=m/\i= .int .i64 (j:Int)/\its.length=j/\gZ k gs c (gV k gs c tree n) path ((gW tree path).drop j) its cs2=gZ k gs c (gV k gs c tree n) path (gW tree path) [] []/\GM UR (eG k gs cs2 bs)/\(∀it∈its,EU it)/\EQ w base bb im kb k c gv v (.slice ea m ec) ys wr v2 iv (eG k gs cs2 bs) its) (fun _ i _=>m-(intOf i).toNat)
 ·exact⟨0,v,[],[],aU _,rfl,rfl,rfl,HU.o,by simp,Hh.o⟩
 ·obtain⟨j,v2,its,cs2,hj,rfl,y9,Yw,Yv,Yz,y8⟩:=hrel;have Hj:=ah y9;have Hr:=ah Yw;have Hp:=ah Yv;have HB:=ah Yz;have hD:=ah y8;obtain⟨zs,Yh,Yg,YC⟩:=y8.its.row;obtain⟨ia,ic,YT,-,-⟩:=aH Yg;subst YT;have Yf:zs.length=j:=by rw[<-y9,<-Yh,aw]
  have Y2:=ah Yh;have HV:=ah Yg;have Y0:=ah YC;rw[Yf]at hD HV ⊢;have Y1:=ah Yf;clear y9 Yw Yv Yz y8 Yh Yg YC Yf Hh hw
  by_cases YV:j<m
  ·obtain⟨⟨dv,e⟩,hy⟩: ∃y,ys[j]? =some y:=⟨ys[j]'(by rw[<-HM.o]; exact YV),by simp⟩;have y5:=H7.o (dv,e) (aQ hy);obtain⟨da,dc,Yt,Y6,Y5⟩:=el.slice y5.1;simp only at Yt;subst Yt;obtain⟨b,rfl,Y3,Y4,-,p0,p1,p2,p3,p4,p5⟩:=Pj hD.o.ents hy;simp only at p0 p1 p2 p3 p4 p5;have HW:(gW tree path)[j]? =some e:=by rw[<-Yp.o,bh,hy]; rfl
   have Hm:=dV.1 (aQ HW);have y6:e∈tree:=Hm.1;have HN:cr (bl e.path)=bl path:=by have:=Hm.2; simpa using this
   have Ho:=hf.o.val e y6;have H3:=dj Ho;have Y7:e.path.size<=512:=by have:=mG H3; rw[<-bi]at this; exact this
   have Y9:path.size<e.path.size:=by have h1:=qe (l:=bl e.path) (fun h=>by have:=qm H3; rw[h]at this; simp at this);rw[HN,<-bi,<-bi]at h1;exact h1
   have H9:=ah y6;have YY:=ah H3;have HR:=ah Ho;have HQ:=ah y5;have YZ:=ah HW;have HP:=ah (zy HW);have Yk:=ah (an hd hD.o.kp.below.size);clear y5 hy HW Hm y6 HN Ho H3
   go_upto_region 5 with(fail)
   obtain⟨W1,HC⟩:=bI ((wr.alloc (.cells #[.string e.path, .int .i64 e.kind, .int .i64 e.mode, .int .i64 e.time, .slice da e.data.length dc, .string e.link] 79)).drew);have Yq:Below wr.heap.size wr W1:=by rw[HC]; exact(eW).drew
   have YD:=ah Yq;have HS:=ah (show W1.heap[wr.heap.size]? =some (.cells #[.string e.path, .int .i64 e.kind, .int .i64 e.mode, .int .i64 e.time, .slice da e.data.length dc, .string e.link] 79 (0,0)) by rw[HC]; exact ep wr _);have YB:W1.heap.size=wr.heap.size+1:=by rw[HC]; simp[World.drew]
   obtain⟨d0,d1,d2,d3,_⟩:=aS HS.o;have d5:=ar (k:=5) HS.o;simp only[gd]at d5;clear p0 p1 p2 p3 p4 p5 Yq;refine eJ (fun w'=>w'.cell? ⟨wr.heap.size,0,none⟩=some (.string e.path)/\w'.cell? ⟨wr.heap.size,1,none⟩=some (.int .i64 e.kind)/\w'.cell? ⟨wr.heap.size,2,none⟩=some (.int .i64 e.mode)/\w'.cell? ⟨wr.heap.size,3,none⟩=some (.int .i64 e.time)/\w'.cell? ⟨wr.heap.size,5,none⟩=some (.string e.link)) (by kernel_rfl) (by kernel_rfl) ?_
   simp only[bt,bu,az,bo,Nat.reduceAdd,Nat.reduceSub];rw[<-HC];clear HC
   iterate 3 (refine cI rfl ⟨d0,d1,d2,d3,d5⟩ (by rintro w' ⟨h0,h2,h3,h4,h7⟩; go_simp; rfl) ?_; simp only[bN])
   refine dy 4 rfl ⟨d0,d1,d2,d3,d5⟩ (by rintro w' ⟨h0,h2,h3,h4,h7⟩; go_simp; rfl) ?_;simp only[bN];refine dy 5 rfl ⟨d0,d1,d2,d3,d5⟩ (by rintro w' ⟨h0,h2,h3,h4,h7⟩; go_simp; rfl) ?_;simp only[bN];refine dy 6 rfl ⟨d0,d1,d2,d3,d5⟩ (by rintro w' ⟨h0,h2,h3,h4,h7⟩; go_simp; rfl) ?_;simp only[bN];refine dy 7 rfl ⟨d0,d1,d2,d3,d5⟩ (by rintro w' ⟨h0,h2,h3,h4,h7⟩; go_simp; rfl) ?_
   simp only[bN];refine dy 8 rfl ⟨d0,d1,d2,d3,d5⟩ (by rintro w' ⟨h0,h2,h3,h4,h7⟩; go_simp; rfl) ?_;simp only[bN];refine dy 9 rfl ⟨d0,d1,d2,d3,d5⟩ (by rintro w' ⟨h0,h2,h3,h4,h7⟩; go_simp; rfl) ?_;simp only[bN];refine dy 10 rfl ⟨d0,d1,d2,d3,d5⟩ (by rintro w' ⟨h0,h2,h3,h4,h7⟩; go_simp; rfl) ?_;simp only[bN];refine dy 11 rfl ⟨d0,d1,d2,d3,d5⟩ (by rintro w' ⟨h0,h2,h3,h4,h7⟩; go_simp; rfl) ?_
   simp only[bN];obtain⟨W2,H0⟩:=bI (W1.alloc (.cells #[.string ⟨#[]⟩, .int .i64 0, .int .i64 0, .int .i64 0, .int .i64 0, .string ⟨#[]⟩, .slice none 0 0, .string ⟨#[]⟩, .int .i64 0, .int .i64 0] 28));have yp:Below W1.heap.size W1 W2:=by rw[H0]; exact eW
   have H4:=er yp HS.o;have YA:W2.heap[wr.heap.size+1]? =some (.cells #[.string ⟨#[]⟩, .int .i64 0, .int .i64 0, .int .i64 0, .int .i64 0, .string ⟨#[]⟩, .slice none 0 0, .string ⟨#[]⟩, .int .i64 0, .int .i64 0] 28 (0,0)):=by rw[H0,<-YB]; exact ep W1 _
   have Yn:=ah H4;have HT:=ah YA;have YE:=ah (aj YD.o yp);have Ym:=ah H0;obtain⟨nm,Yy⟩: ∃nm:ByteArray,nm=⟨(mh (bl path) (bl e.path)).toArray⟩:=⟨_,rfl⟩;have Hv:=ah Yy;obtain⟨d0',d1',d2',d3',_⟩:=aS H4;have d5':=ar (k:=5) H4;simp only[gd]at d5';clear H0 yp H4 YA Yy;refine xf 3 13 rfl rfl (by kernel_rfl) rfl rfl (fun K hK=> ?ca) (fun K hK=> ?al)
   case' ca=>
    go_wp2_with fail;refine(DJ path e.path W1 (by omega)).mono ?_;rintro e' w' ⟨rfl,rfl⟩;rw[<-Hv.o];go_wp2_with fail;refine⟨⟨d0,d1,d2,d3,d5⟩, ?_⟩;refine dy 12 rfl ⟨d0,d1,d2,d3,d5⟩ (by rintro w' ⟨h0,h2,h3,h4,h7⟩; go_simp; rfl) ?_;simp only[bN];refine cC 13 rfl (fun K hK=> ?_);go_wp2_with fail;rw[<-Ym.o]
    (first | (refine⟨⟨d0',d1',d2',d3',d5'⟩, ?_⟩) | skip)
   case' al=>
    go_wp2_with fail;rw[<-Ym.o]
    (first | (refine⟨⟨d0',d1',d2',d3',d5'⟩, ?_⟩) | skip)
    refine cC 3 rfl (fun K hK=> ?_);go_wp2_with fail;refine(DJ path e.path W2 (by omega)).mono ?_;rintro e' w' ⟨rfl,rfl⟩;rw[<-Hv.o];go_wp2_with fail;refine⟨⟨d0',d1',d2',d3',d5'⟩, ?_⟩;refine dy 12 rfl ⟨d0',d1',d2',d3',d5'⟩ (by rintro w' ⟨h0,h2,h3,h4,h7⟩; go_simp; rfl) ?_;simp only[bN]
   all_goals
    refine cL (by kernel_rfl) ?_;clear d0 d1 d2 d3 d5 d0' d1' d2' d3' d5' HS;refine eU rfl rfl (fun K hK=> ?_);obtain⟨i0,i1,i2,i3,i4,i5,i6,i7,i8,i9,_⟩:=aS HT.o;obtain⟨g0,g1,g2,g3,g4,g5,g6,g7,g8,g9,_⟩:=gI HT.o
    go_upto_region 6 with(fail)
    obtain⟨W3,HD⟩:=bI (((((((((((W2.setCell ⟨wr.heap.size+1,0,none⟩ (.string nm)).setCell ⟨wr.heap.size+1,1,none⟩ (.int .i64 e.kind)).setCell ⟨wr.heap.size+1,2,none⟩ (.int .i64 e.mode)).setCell ⟨wr.heap.size+1,3,none⟩ (.int .i64 e.time)).setCell ⟨wr.heap.size+1,4,none⟩ (.int .i64 0)).setCell ⟨wr.heap.size+1,5,none⟩ (.string e.link)).setCell ⟨wr.heap.size+1,6,none⟩ (.slice none 0 0)).setCell ⟨wr.heap.size+1,7,none⟩ (.string ⟨#[]⟩)).setCell ⟨wr.heap.size+1,8,none⟩ (.int .i64 0)).setCell ⟨wr.heap.size+1,9,none⟩ (.int .i64 0)))
    rw[<-HD];have Yj:=ah (show Below wr.heap.size wr W3 by rw[HD]; exact js YE.o (by show wr.heap.size<=wr.heap.size+1; omega));have HX:=ah (show W3.heap[wr.heap.size]? =some (.cells #[.string e.path, .int .i64 e.kind, .int .i64 e.mode, .int .i64 e.time, .slice da e.data.length dc, .string e.link] 79 (0,0)) by rw[HD]; exact(pU (show wr.heap.size≠wr.heap.size+1 by omega)).trans Yn.o)
    have HY:=ah (show W3.heap[wr.heap.size+1]? =some (.cells #[.string nm, .int .i64 e.kind, .int .i64 e.mode, .int .i64 e.time, .int .i64 0, .string e.link, .slice none 0 0, .string ⟨#[]⟩, .int .i64 0, .int .i64 0] 28 (0,0)) by rw[HD]; exact Jb HT.o);have hz:=ah (hD.o.below Yj.o Yk.o);have zc:wr.heap.size+1<W3.heap.size:=am HY.o;clear HD i0 i1 i2 i3 i4 i5 i6 i7 i8 i9 g0 g1 g2 g3 g4 g5 g6 g7 g8 g9 YB Yn HT
    obtain⟨d0,d1,_⟩:=aS HX.o;have d4:=ar (k:=4) HX.o;simp only[gd]at d4;obtain⟨i0,i1,i2,i3,i4,i5,i6,i7,i8,i9,_⟩:=aS HY.o;obtain⟨g0,g1,g2,g3,g4,g5,g6,g7,g8,g9,_⟩:=gI HY.o
    by_cases Hq:e.kind=1
    ·have e1:(e.kind == 1)=true:=by simp[Hq]
     have hL:=ah Hq;clear Hq
     go_upto_region 10 with(fail)
     obtain⟨W4,HF⟩:=bI (W3.setCell ⟨wr.heap.size+1,4,none⟩ (.int .i64 (e.data.length:Int)));rw[<-HF];have Yr:Below wr.heap.size wr W4:=by rw[HF]; exact cz Yj.o (by show wr.heap.size<=wr.heap.size+1; omega) _
     have yl:=ah (show W4.heap[wr.heap.size]? =some (.cells #[.string e.path, .int .i64 e.kind, .int .i64 e.mode, .int .i64 e.time, .slice da e.data.length dc, .string e.link] 79 (0,0)) by rw[HF]; exact(ay _ _ _ _ (by show wr.heap.size≠wr.heap.size+1; omega)).trans HX.o);have H5:=jm (k:=4) HY.o (.int .i64 (e.data.length:Int));simp only[aW,cG,cn]at H5
     rw[<-HF]at H5;have YO:=ah H5;have hB:=ah (hD.o.below Yr Yk.o);have Ys:=(my HR.o).2.2;have Yc:=Hp.o.len hD.o.bd;have Yd:=hf.o.usz;have YP:=Bu hf.o.cut e.data;have Yu:=Jn (· <base) base bb kb im k c gs gv v2 (.slice da e.data.length dc) (eG k gs cs2 bs) e.data W4 hB.o.bd hf.o.keys hf.o.cut hf.o.seed (HG.o.keep (fun i h1 _=>hB.o.kp.below.block i h1)) hf.o.gens
      (pR HQ.o.1 hB.o.kp.below) Ys (HE.o.keep hB.o.kp.below hf.o.seven) hf.o.bbb hf.o.bkb (an hd hB.o.kp.below.size) hf.o.seven (by omega)
     have YF:=ah Yu;clear HF Yr H5 Ys Yc Yd YP Yu d0 d1 d4 i0 i1 i2 i3 i4 i5 i6 i7 i8 i9 g0 g1 g2 g3 g4 g5 g6 g7 g8 g9;obtain⟨d0,d1,_⟩:=aS yl.o;have d4:=ar (k:=4) yl.o;simp only[gd]at d4;go_wp2_with fail;refine YF.o.mono ?_;rintro e' w5 ⟨rv,v5,rfl,Ha,hI,hA⟩;obtain⟨ra,rc,rfl,-,-⟩:=aH Ha;have ha:=ah (hB.o.step hI hA);have hk:=hA.blk hB.o.bd YO.o (by decide) (by decide)
     have YW:=hA.blk hB.o.bd yl.o (by decide) (by decide);obtain⟨rn,Yb⟩:=bI (((fO c e.data).map (aV k gs)).length);have YK:=ah Yb;rw[<-Yb]at Ha ⊢;have i6:=ar (k:=6) hk;have g6:=dE (k:=6) hk;simp only[gd]at i6;have Hz:=ah Ha;have yn:=ah hk;clear hI hA YW hk Yb Ha d0 d1 d4
     go_upto_region 15 with(fail)
     obtain⟨W6,hH⟩:=bI (w5.setCell ⟨wr.heap.size+1,6,none⟩ (.slice ra rn rc));rw[<-hH];have H6:=jm (k:=6) yn.o (.slice ra rn rc);simp only[aW,cG,cn]at H6;rw[<-hH]at H6;have hF:=ah (show EQ w base bb im kb k c gv v (.slice (some ⟨b,0,none⟩) m ec) ys W6 v5 (.slice ia j ic) (eG k gs (fO c e.data) (eG k gs cs2 bs)) its by rw[hH];exact ha.o.otherSet yn.o (by decide) (by decide) (by decide) (by decide) (by decide) (fun e'=>by have:=(HV.o.lt _ e').2; omega) (by have:=hD.o.kp.below.size; omega) hd)
     have HA:=ah (show W6.ownsRow w.heap.size 26 3 (.slice ra rn rc) rn (((fO c e.data).map (aV k gs)).flatMap jp) by rw[hH];have Ya:=hB.o.kp.below.size;refine(gB Hz.o Ya).kept (cK _ _ _ _) (.inr (fun e'=> ?_));obtain⟨cs2',yv⟩:=bJ Hz.o e';exact absurd (bU yn.o yv) (by decide))
     clear i6 g6;obtain⟨it,hs⟩:=bI (cE k gs c path e eq);have hW:it.chunks=(fO c e.data).map (aV k gs):=by rw[hs]; unfold cE; simp only[if_pos hL.o]
     have Hd:=ah (show W6.heap[wr.heap.size+1]? =some (.cells #[.string it.name, .int .i64 it.kind, .int .i64 it.mode, .int .i64 it.time, .int .i64 it.size, .string it.link, .slice ra rn rc, .string it.node.name, .int .i64 it.node.gen, .int .i64 it.node.size] 28 (0,0)) by
      rw[H6,Hv.o,hs];unfold cE;simp only[if_pos hL.o,if_neg (show ¬e.kind=2 by rw[hL.o]; decide)]
      rfl)
     have hO:=ah (show W6.ownsRow w.heap.size 26 3 (.slice ra rn rc) it.chunks.length (it.chunks.flatMap jp) by rw[hW,<-YK.o]; exact HA.o);have hP:=ah (show EU it by rw[hs]; exact pV hf.o.cut HR.o HQ.o.2 (by decide));have hM:=ah (show iC it from⟨by have:=hP.o.nm; unfold maxLen; omega,by have:=hP.o.lk; unfold maxLen; omega,by rw[hs]; unfold cE; simp only[if_neg (show ¬e.kind=2 by rw[hL.o]; decide)]; exact od⟩)
     have hN:=ah (show ∀r∈it.chunks,eF r by rw[hW];intro r hr;obtain⟨x,hx,rfl⟩:=aP.1 hr;have:=(Bv hf.o.cut e.data x hx).2;exact jv hf.o.gens (by omega))
     have Hs:=ah (show gZ k gs c (gV k gs c tree n) path (e::(gW tree path).drop (j+1)) its cs2=gZ k gs c (gV k gs c tree n) path ((gW tree path).drop (j+1)) (its++[it]) (cs2++fO c e.data) by rw[hs]; exact Aa hL.o);have hJ:=ah (show GM UR (eG k gs (cs2++fO c e.data) bs) by rw[jE]; exact Hp.o.puts (hf.o.u1 e H9.o));rw[<-jE]at hF
     clear hs hW HY hH H6;obtain⟨zs4,hq,hh,hG⟩:=hF.o.its.row;have ho:zs4.length=j:=by rw[<-Hj.o,<-hq,aw]
     have hV:=ah hq;have hT:=ah hh;have hR:=ah hG;have hS:=ah ho;have HO:w.heap.size<=(W6).heap.size:=hF.o.kp.below.size;have HK:j<1099511627775:=by omega
     rw[ho]at hh;have hU:=ah hh;clear hq hh hG ho;obtain⟨i0,i1,i2,i3,i4,i5,i6,i7,i8,i9,_⟩:=aS Hd.o;obtain⟨g0,g1,g2,g3,g4,g5,g6,g7,g8,g9,_⟩:=gI Hd.o;go_wp2_with (at_builtin; go_must (refine bO Tryz.appItems rfl _ _ rfl w.heap.size (.slice ia j ic) j (pW zs4) rfl (W6) [.string it.name, .int .i64 it.kind, .int .i64 it.mode, .int .i64 it.time, .int .i64 it.size, .string it.link, .slice ra rn rc, .string it.node.name, .int .i64 it.node.gen, .int .i64 it.node.size] _ rfl rfl (kR (it:=it)) hU.o HK HO ?_); intro v' wc hc hb _ _; obtain⟨ae,ce,rfl,-,-⟩:=aH hc; have Hw:=ah (hF.o.push (it:=it) hV.o hT.o hR.o (by rw[hS.o]; exact hc) hb hO.o hM.o hN.o hd); clear hc hb)
     clear i0 i1 i2 i3 i4 i5 i6 i7 i8 i9 g0 g1 g2 g3 g4 g5 g6 g7 g8 g9
     go_roundw
     ·exact⟨j+1,_,its++[it],(cs2++fO c e.data),by omega,by go_num,by simp[Hj.o],by rw[<-Hr.o,HP.o,Hs.o],hJ.o,fun y hy=>by
      rcases aN.1 hy with hy | hy
      ·exact HB.o y hy
      ·rw[aE]at hy; subst hy; exact hP.o,Hw.o⟩
     simp[intOf]; omega
    ·have e1:(e.kind == 1)=false:=by simp[Hq]
     have hL:=ah Hq;clear Hq
     by_cases hZ:e.kind=2
     ·have e2:(e.kind == 2)=true:=by simp[hZ]
      have Hc:=ah hZ;have Hg:=YH.o e.path v2 (eG k gs cs2 bs) W3 (by omega) (.inr ⟨e,H9.o,rfl⟩) hz.o.bd (HG.o.keep (fun i h1 _=>hz.o.kp.below.block i h1)) (YG.o.keep HH.o hz.o.kp hf.o.ikb) Hp.o (HE.o.keep hz.o.kp.below hf.o.seven) (an hd hz.o.kp.below.size);unfold Ba at Hg;clear hZ
      cases Hf:gV k gs c tree n e.path with
      | error x=>
       rw[Hf]at Hg;have Hx:=ah Hg;have Hy:=ah (show gZ k gs c (gV k gs c tree n) path (gW tree path) [] []= .error x by rw[<-Hr.o,HP.o,xr Hc.o,Hf]);clear Hg Hf;go_wp2_with fail;refine Hx.o.mono ?_;rintro e' w5 ⟨rfl,hx,v5,bs5,hI,hA⟩;have ha:=ah (hz.o.step hI hA);have e4:(x != 0)=true:=by simp[hx]
       have YN:=ah hx;clear hx d0 d1 d4 i0 i1 i2 i3 i4 i5 i6 i7 i8 i9 g0 g1 g2 g3 g4 g5 g6 g7 g8 g9;have hk:=hA.blk hz.o.bd HY.o (by decide) (by decide);have h9:(Value.slice ia j ic).ownBlock≠some (wr.heap.size+1):=fun e'=>by have:=(HV.o.lt _ e').2; omega
       have h8:w.heap.size<=wr.heap.size+1:=by have:=hD.o.kp.below.size; omega
       have a1:=ha.o.otherSet (q:=7) (u:= .string ⟨#[]⟩) hk (by decide) (by decide) (by decide) (by decide) (by decide) h9 h8 hd;have y1:=jm (k:=7) hk (.string ⟨#[]⟩);have a2:=a1.otherSet (q:=8) (u:= .int .i64 0) y1 (by decide) (by decide) (by decide) (by decide) (by decide) h9 h8 hd;have y2:=jm (k:=8) y1 (.int .i64 0);have a3:=a2.otherSet (q:=9) (u:= .int .i64 0) y2 (by decide) (by decide) (by decide) (by decide) (by decide) h9 h8 hd
       have y3:=jm (k:=9) y2 (.int .i64 0);simp only[aW,cG,cn]at y3;have i7:=ar (k:=7) hk;have i8:=ar (k:=8) hk;have i9:=ar (k:=9) hk;have g7:=dE (k:=7) hk;have g8:=dE (k:=8) hk;have g9:=dE (k:=9) hk;simp only[gd]at i7 i8 i9;obtain⟨W6,hH⟩:=bI (((w5.setCell ⟨wr.heap.size+1,7,none⟩ (.string ⟨#[]⟩)).setCell ⟨wr.heap.size+1,8,none⟩ (.int .i64 0)).setCell ⟨wr.heap.size+1,9,none⟩ (.int .i64 0))
       rw[<-hH]at a3 y3;have hF:=ah a3;have Yo:=ah y3;clear a1 y1 a2 y2 a3 y3 hk h9 h8
       go_upto_region 13 with(fail)
       rw[<-hH];clear hH i7 i8 i9 g7 g8 g9;have hC:=ah hF.o.res;obtain⟨z0,z1,z2,_⟩:=aS hC.o;obtain⟨y0,y1,y2,_⟩:=gI hC.o;go_wp2_with fail;refine vT hC.o rfl rfl rfl ?_;have Hb:=ah (show gV k gs c tree (n+1) path= .error x by rw[gV,Hy.o]);rw[Hb.o];exact⟨rfl,YN.o,v5,bs5,hF.o.bd.other hC.o (by decide) (by decide) (by decide) (fun i hi _=>et hi),((hF.o.kp.setNew (ai _) hd).setNew (ai _) hd).setNew (ai _) hd⟩
      | ok p=>
       rw[Hf]at Hg
       dsimp only at Hg
       have Hx:=ah Hg;have Ht:=ah (show gZ k gs c (gV k gs c tree n) path (e::(gW tree path).drop (j+1)) its cs2=gZ k gs c (gV k gs c tree n) path ((gW tree path).drop (j+1)) (its++[cE k gs c path e (aV k gs p.1)]) (cs2++p.2) by rw[xr Hc.o,Hf]);have H8:=ah (Mq Hf);have YX:=ah (hf.o.u2 n e.path p (by omega) (.inr ⟨e,H9.o,rfl⟩) Hf)
       obtain⟨r,hr⟩:=bI (aV k gs p.1);have Yl:=ah hr;have YL:=ah (show eF r by rw[hr]; exact jv hf.o.gens (by have:=H8.o; omega));have yc:=ah (show r.name.size=32 by rw[hr]; exact re _ _ _);rw[<-hr]at Hx Ht;unfold fi at Hx;clear Hg Hf hr;go_wp2_with fail;refine Hx.o.mono ?_;rintro e' w5 ⟨rfl,HJ,v5,hI,hA⟩;have ya:=ah HJ
       have ha:=ah (hz.o.step hI hA);clear HJ d0 d1 d4 i0 i1 i2 i3 i4 i5 i6 i7 i8 i9 g0 g1 g2 g3 g4 g5 g6 g7 g8 g9;have hk:=hA.blk hz.o.bd HY.o (by decide) (by decide);have h9:(Value.slice ia j ic).ownBlock≠some (wr.heap.size+1):=fun e'=>by have:=(HV.o.lt _ e').2; omega
       have h8:w.heap.size<=wr.heap.size+1:=by have:=hD.o.kp.below.size; omega
       have a1:=ha.o.otherSet (q:=7) (u:= .string r.name) hk (by decide) (by decide) (by decide) (by decide) (by decide) h9 h8 hd;have y1:=jm (k:=7) hk (.string r.name);have a2:=a1.otherSet (q:=8) (u:= .int .i64 r.gen) y1 (by decide) (by decide) (by decide) (by decide) (by decide) h9 h8 hd;have y2:=jm (k:=8) y1 (.int .i64 r.gen);have a3:=a2.otherSet (q:=9) (u:= .int .i64 r.size) y2 (by decide) (by decide) (by decide) (by decide) (by decide) h9 h8 hd
       have y3:=jm (k:=9) y2 (.int .i64 r.size);simp only[aW,cG,cn]at y3;have i7:=ar (k:=7) hk;have i8:=ar (k:=8) hk;have i9:=ar (k:=9) hk;have g7:=dE (k:=7) hk;have g8:=dE (k:=8) hk;have g9:=dE (k:=9) hk;simp only[gd]at i7 i8 i9;obtain⟨W6,hH⟩:=bI (((w5.setCell ⟨wr.heap.size+1,7,none⟩ (.string r.name)).setCell ⟨wr.heap.size+1,8,none⟩ (.int .i64 r.gen)).setCell ⟨wr.heap.size+1,9,none⟩ (.int .i64 r.size))
       rw[<-hH]at a3 y3;have hF:=ah a3;have Yo:=ah y3;clear a1 y1 a2 y2 a3 y3 hk h9 h8
       go_upto_region 13 with(fail)
       rw[<-hH];clear hH i7 i8 i9 g7 g8 g9
       go_upto_region 15 with(fail)
       obtain⟨it,hs⟩:=bI (cE k gs c path e r);have hW:it.chunks=[]:=by rw[hs]; unfold cE; simp only[if_neg hL.o]
       have Hd:=ah (show W6.heap[wr.heap.size+1]? =some (.cells #[.string it.name, .int .i64 it.kind, .int .i64 it.mode, .int .i64 it.time, .int .i64 it.size, .string it.link, .slice none 0 0, .string it.node.name, .int .i64 it.node.gen, .int .i64 it.node.size] 28 (0,0)) by rw[Yo.o,Hv.o,hs];unfold cE;simp only[if_neg hL.o,if_pos Hc.o])
       have hO:=ah (show W6.ownsRow w.heap.size 26 3 (.slice none 0 0) it.chunks.length (it.chunks.flatMap jp) by rw[hW]; exact bM _ _ _ _);have hP:=ah (show EU it by rw[hs]; exact pV hf.o.cut HR.o HQ.o.2 (by rw[yc.o]; decide));have hM:=ah (show iC it from⟨by have:=hP.o.nm; unfold maxLen; omega,by have:=hP.o.lk; unfold maxLen; omega,by rw[hs]; unfold cE; simp only[if_pos Hc.o]; exact YL.o⟩)
       have hN:=ah (show ∀r∈it.chunks,eF r by rw[hW]; simp);have Hs:=ah (show gZ k gs c (gV k gs c tree n) path (e::(gW tree path).drop (j+1)) its cs2=gZ k gs c (gV k gs c tree n) path ((gW tree path).drop (j+1)) (its++[it]) (cs2++p.2) by rw[hs]; exact Ht.o);have hJ:=ah (show GM UR (eG k gs (cs2++p.2) bs) by rw[jE]; exact ya.o)
       rw[<-jE]at hF;clear hs hW;obtain⟨zs4,hq,hh,hG⟩:=hF.o.its.row;have ho:zs4.length=j:=by rw[<-Hj.o,<-hq,aw]
       have hV:=ah hq;have hT:=ah hh;have hR:=ah hG;have hS:=ah ho;have HO:w.heap.size<=(W6).heap.size:=hF.o.kp.below.size;have HK:j<1099511627775:=by omega
       rw[ho]at hh;have hU:=ah hh;clear hq hh hG ho;obtain⟨i0,i1,i2,i3,i4,i5,i6,i7,i8,i9,_⟩:=aS Hd.o;obtain⟨g0,g1,g2,g3,g4,g5,g6,g7,g8,g9,_⟩:=gI Hd.o;go_wp2_with (at_builtin; go_must (refine bO Tryz.appItems rfl _ _ rfl w.heap.size (.slice ia j ic) j (pW zs4) rfl (W6) [.string it.name, .int .i64 it.kind, .int .i64 it.mode, .int .i64 it.time, .int .i64 it.size, .string it.link, .slice none 0 0, .string it.node.name, .int .i64 it.node.gen, .int .i64 it.node.size] _ rfl rfl (kR (it:=it)) hU.o HK HO ?_); intro v' wc hc hb _ _; obtain⟨ae,ce,rfl,-,-⟩:=aH hc; have Hw:=ah (hF.o.push (it:=it) hV.o hT.o hR.o (by rw[hS.o]; exact hc) hb hO.o hM.o hN.o hd); clear hc hb)
       clear i0 i1 i2 i3 i4 i5 i6 i7 i8 i9 g0 g1 g2 g3 g4 g5 g6 g7 g8 g9
       go_roundw
       ·exact⟨j+1,_,its++[it],(cs2++p.2),by omega,by go_num,by simp[Hj.o],by rw[<-Hr.o,HP.o,Hs.o],hJ.o,fun y hy=>by
        rcases aN.1 hy with hy | hy
        ·exact HB.o y hy
        ·rw[aE]at hy; subst hy; exact hP.o,Hw.o⟩
       simp[intOf]; omega
     ·have e2:(e.kind == 2)=false:=by simp[hZ]
      have Hc:=ah hZ;clear hZ
      go_upto_region 15 with(fail)
      clear i0 i1 i2 i3 i4 i5 i6 i7 i8 i9 g0 g1 g2 g3 g4 g5 g6 g7 g8 g9 d0 d1 d4;obtain⟨it,hs⟩:=bI (cE k gs c path e eq);have hF:=hz;have Hd:=ah (show W3.heap[wr.heap.size+1]? =some (.cells #[.string it.name, .int .i64 it.kind, .int .i64 it.mode, .int .i64 it.time, .int .i64 it.size, .string it.link, .slice none 0 0, .string it.node.name, .int .i64 it.node.gen, .int .i64 it.node.size] 28 (0,0)) by
       rw[HY.o,Hv.o,hs];unfold cE;simp only[if_neg hL.o,if_neg Hc.o]
       rfl)
      have hW:it.chunks=[]:=by rw[hs]; unfold cE; simp only[if_neg hL.o]
      have hO:=ah (show W3.ownsRow w.heap.size 26 3 (.slice none 0 0) it.chunks.length (it.chunks.flatMap jp) by rw[hW]; exact bM _ _ _ _);have hP:=ah (show EU it by rw[hs]; exact pV hf.o.cut HR.o HQ.o.2 (by decide));have hM:=ah (show iC it from⟨by have:=hP.o.nm; unfold maxLen; omega,by have:=hP.o.lk; unfold maxLen; omega,by rw[hs]; unfold cE; simp only[if_neg Hc.o]; exact od⟩)
      have hN:=ah (show ∀r∈it.chunks,eF r by rw[hW]; simp);have Hs:=ah (show gZ k gs c (gV k gs c tree n) path (e::(gW tree path).drop (j+1)) its cs2=gZ k gs c (gV k gs c tree n) path ((gW tree path).drop (j+1)) (its++[it]) cs2 by rw[hs]; exact JZ hL.o Hc.o);have hJ:=Hp;clear hs hW HY;obtain⟨zs4,hq,hh,hG⟩:=hF.o.its.row;have ho:zs4.length=j:=by rw[<-Hj.o,<-hq,aw]
      have hV:=ah hq;have hT:=ah hh;have hR:=ah hG;have hS:=ah ho;have HO:w.heap.size<=(W3).heap.size:=hF.o.kp.below.size;have HK:j<1099511627775:=by omega
      rw[ho]at hh;have hU:=ah hh;clear hq hh hG ho;obtain⟨i0,i1,i2,i3,i4,i5,i6,i7,i8,i9,_⟩:=aS Hd.o;obtain⟨g0,g1,g2,g3,g4,g5,g6,g7,g8,g9,_⟩:=gI Hd.o;go_wp2_with (at_builtin; go_must (refine bO Tryz.appItems rfl _ _ rfl w.heap.size (.slice ia j ic) j (pW zs4) rfl (W3) [.string it.name, .int .i64 it.kind, .int .i64 it.mode, .int .i64 it.time, .int .i64 it.size, .string it.link, .slice none 0 0, .string it.node.name, .int .i64 it.node.gen, .int .i64 it.node.size] _ rfl rfl (kR (it:=it)) hU.o HK HO ?_); intro v' wc hc hb _ _; obtain⟨ae,ce,rfl,-,-⟩:=aH hc; have Hw:=ah (hF.o.push (it:=it) hV.o hT.o hR.o (by rw[hS.o]; exact hc) hb hO.o hM.o hN.o hd); clear hc hb)
      clear i0 i1 i2 i3 i4 i5 i6 i7 i8 i9 g0 g1 g2 g3 g4 g5 g6 g7 g8 g9
      go_roundw
      ·exact⟨j+1,_,its++[it],cs2,by omega,by go_num,by simp[Hj.o],by rw[<-Hr.o,HP.o,Hs.o],hJ.o,fun y hy=>by
       rcases aN.1 hy with hy | hy
       ·exact HB.o y hy
       ·rw[aE]at hy; subst hy; exact hP.o,Hw.o⟩
      simp[intOf]; omega
  ·have hZ:j=m:=by omega
   have yb:=ah (show gZ k gs c (gV k gs c tree n) path (gW tree path) [] []= .ok (its,cs2) by rw[<-Hr.o,gm (by rw[<-Yp.o,aw,<-HM.o]; omega)]; rfl)
   have hY:=DH (fun _=>True) its (.slice ia j ic) wr hD.o.its.at (HE.o.keep hD.o.kp.below hf.o.seven).env (Na HB.o (by rw[Hj.o]; omega)) (fun it hs=>(HB.o it hs).tm);unfold wg at hY
   by_cases hv:jL its=true
   ·simp only[if_pos hv]at hY
    by_cases hl:(gk its).length<=32768
    ·simp only[if_pos hl]at hY;have Hb:=ah (show gV k gs c tree (n+1) path= .ok (gk its,cs2++[gk its]) by rw[gV,yb.o]; simp only[if_pos hv,if_pos hl]);have Hu:=ah hY;have YM:=ah (hf.o.u2 (n+1) path _ hn514 YJ.o Hb.o);have YI:=ah hl;clear hY hv hl hZ;go_wp2_with fail;refine Hu.o.mono ?_;rintro e' w5 ⟨He,cv,rfl,y4⟩;obtain⟨ca,cc,rfl,-,-⟩:=aH y4
     have ha:=ah (hD.o.below He (an hd hD.o.kp.below.size));have Yc:=Hp.o.len hD.o.bd;have Yd:=hf.o.usz;have H1:=GV (fun _=>True) base bb kb im k c gs gv v2 _ (eG k gs cs2 bs) (gk its) w5 ha.o.bd hf.o.keys (HG.o.keep (fun i h1 _=>ha.o.kp.below.block i h1)) hf.o.gens
      (cD.weak (cJ y4) (fun _ _=>trivial)) YI.o (HE.o.keep ha.o.kp.below hf.o.seven) hf.o.bbb hf.o.bkb (an hd ha.o.kp.below.size) hf.o.seven (by omega)
     unfold EP fi at H1;obtain⟨r,hr⟩:=bI (aV k gs (gk its));rw[<-hr]at H1;have Yl:=ah hr;have Yi:=ah H1;obtain⟨nl,Yx⟩:=bI ((gk its).length);rw[<-Yx]at Yi ⊢;clear He y4 Yc Yd H1 hr Yx;go_wp2_with fail;refine Yi.o.mono ?_;rintro e' w6 ⟨rfl,v6,HI,HL⟩;have Hi:=ah (ha.o.step HI HL);have hC:=ah Hi.o.res;clear HI HL;obtain⟨z0,z1,z2,_⟩:=aS hC.o
     obtain⟨y0,y1,y2,_⟩:=gI hC.o;go_wp2_with fail;refine vT hC.o rfl rfl rfl ?_;rw[Hb.o];refine⟨by rw[<-Yl.o]; rfl, ?_,v6, ?_, ?_⟩
     ·rw[jE];exact Hp.o.put YM.o
     ·rw[jE];exact Hi.o.bd.other hC.o (by decide) (by decide) (by decide) (fun i hi _=>et hi)
     ·exact((Hi.o.kp.setNew (ai _) hd).setNew (ai _) hd).setNew (ai _) hd
    ·simp only[if_neg hl]at hY;have Hb:=ah (show gV k gs c tree (n+1) path= .error 2 by rw[gV,yb.o]; simp only[if_pos hv,if_neg hl]);have Hu:=ah hY;clear hY hv hl hZ;go_wp2_with fail;refine Hu.o.mono ?_;rintro e' w5 ⟨He,rfl⟩;have ha:=ah (hD.o.below He (an hd hD.o.kp.below.size));have hC:=ah ha.o.res;clear He;obtain⟨z0,z1,z2,_⟩:=aS hC.o
     obtain⟨y0,y1,y2,_⟩:=gI hC.o;go_wp2_with fail;refine vT hC.o rfl rfl rfl ?_;rw[Hb.o];exact⟨rfl,by decide,v2,_,ha.o.bd.other hC.o (by decide) (by decide) (by decide) (fun i hi _=>et hi),((ha.o.kp.setNew (ai _) hd).setNew (ai _) hd).setNew (ai _) hd⟩
   ·simp only[if_neg hv]at hY;have Hb:=ah (show gV k gs c tree (n+1) path= .error 1 by rw[gV,yb.o]; simp only[if_neg hv]);have hl:=hv;have Hu:=ah hY;clear hY hv hl hZ;go_wp2_with fail;refine Hu.o.mono ?_;rintro e' w5 ⟨He,rfl⟩;have ha:=ah (hD.o.below He (an hd hD.o.kp.below.size));have hC:=ah ha.o.res;clear He;obtain⟨z0,z1,z2,_⟩:=aS hC.o
    obtain⟨y0,y1,y2,_⟩:=gI hC.o;go_wp2_with fail;refine vT hC.o rfl rfl rfl ?_;rw[Hb.o];exact⟨rfl,by decide,v2,_,ha.o.bd.other hC.o (by decide) (by decide) (by decide) (fun i hi _=>et hi),((ha.o.kp.setNew (ai _) hd).setNew (ai _) hd).setNew (ai _) hd⟩
theorem Bx {base bb kb im:Nat} {k:dl} {c:fC} {gs:List (ByteArray×Int)} {tree:List dd} {gv:Value} {UR:List cH} (hX:LE base bb kb im k c gs tree UR): ∀n,n<=514->Ou base bb kb im k c gs tree gv UR n
 | 0,_=>Ms hX
 | n+1,h=>Mr n hX h (Bx hX n (by omega))
theorem gy.hitM {S:Nat->Prop} {w:World} {cv:Value} {cs:List (ByteArray×List UInt8)} (h:gy S w cv cs) {n:ByteArray} {bs:List UInt8} (hn:n.size<=maxLen) (hf:di cs n=some bs):
  ∃v,(Instr.lookup 55 cv (.string n) true).run Tryz.prog w= .ok (.tuple #[v, .bool true]) w/\bD S w v bs:=by
 rcases h with⟨_,rfl⟩ | ⟨b,m,rfl,_,h2,h3⟩
 ·simp[di]at hf
 ·obtain⟨v,hv,hb⟩:=h3.hit hf;exact⟨v,h2.hit qP (t:=55) (e:=29) (by kernel_rfl) (qO hn) hv true,hb⟩
theorem gy.missM {S:Nat->Prop} {w:World} {cv:Value} {cs:List (ByteArray×List UInt8)} (h:gy S w cv cs) {n:ByteArray} (hn:n.size<=maxLen) (hf:di cs n=none):
  (Instr.lookup 55 cv (.string n) true).run Tryz.prog w= .ok (.tuple #[.slice none 0 0, .bool false]) w:=by
 obtain⟨l,hl⟩:=qO hn
 rcases h with⟨rfl,_⟩ | ⟨b,m,rfl,_,h2,h3⟩
 ·exact Maps.look_nil true qP (t:=55) (e:=29) (by kernel_rfl) (by kernel_rfl) hl
 ·exact h2.miss qP (t:=55) (e:=29) (by kernel_rfl) (by kernel_rfl) (qO hn) (h3.miss hf) true
def iQ (cs:List (ByteArray×List UInt8)) (r:cH):Except Int (List cj):=match iz cs r with
 | .error x=>if x=10 then .ok []else .error x
 | .ok l=> .ok l
def OB (cs:List (ByteArray×List UInt8)) (r:cH) (w:World) (e:Ending) (w':World):Prop:=Below w.heap.size w w'/\match iQ cs r with
 | .error x=>e= .returned (.tuple #[.slice none 0 0, .int .i64 x])/\x≠0
 | .ok l=> ∃v,e= .returned (.tuple #[v, .int .i64 0])/\eP (w.heap.size<= ·) w' v l
theorem DW (S:Nat->Prop) (cv:Value) (cs:List (ByteArray×List UInt8)) (r:cH) (w:World) (hc:gy S w cv cs) (hr:eF r) (henv:oz w):Calls Tryz.prog 95 #[cv,fi r] w (OB cs r w):=by
 have HB:=ah ((ak w.heap.size w).alloc (ai _) (.cells #[.string r.name, .int .i64 r.gen, .int .i64 r.size] 26));have HC:=ah (hc.below HB.o);have HR:=ah hr;have HE:=ah (henv.below HB.o);unfold fi;clear hc hr henv
 go_enter Tryz.func95,Tryz.ntmps95
 go_wp2_with fail;refine(tI S cv cs r _ HC.o HR.o HE.o).mono ?_;rintro e w1 ⟨hf,ha⟩;have he:=ah (aj HB.o hf);have hz:=hf.size;simp at hz;clear hf
 cases hb:iz cs r with
 | error x=>
  rw[hb]at ha;obtain⟨rfl,hx⟩:=ha
  by_cases hd:x=10
  ·subst hd;have HN:=ah (show iQ cs r= .ok [] by unfold iQ; rw[hb]; rfl);clear hb hx;go_wp2_with fail
   go_ret2
   exact⟨he.o,by rw[HN.o]; exact⟨_,rfl,cN.nil⟩⟩
  ·have HN:=ah (show iQ cs r= .error x by unfold iQ; rw[hb]; simp only[if_neg hd]);have e1:(x == 10)=false:=by simp[hd]
   have HX:=ah hx;clear hb hx hd;go_wp2_with fail
   go_ret2
   exact⟨he.o,by rw[HN.o]; exact⟨rfl,HX.o⟩⟩
 | ok l=>
  rw[hb]at ha;obtain⟨v,rfl,hv⟩:=ha;have HN:=ah (show iQ cs r= .ok l by unfold iQ; rw[hb]);have HV:=ah hv;have hh:=ah (show eP (w.heap.size<= ·) w1 v l from by
   obtain⟨cells,h1,h2⟩:=hv;have hg:w.heap.size<=(w.alloc (.cells #[.string r.name, .int .i64 r.gen, .int .i64 r.size] 26)).heap.size:=by simp
   exact⟨cells,h1.weak (fun k hk=>an hg hk),h2.mono (fun c x _ hx=>hx.same (fun k _ hS=>⟨an hg hS,rfl⟩))⟩)
  obtain⟨a,cap,rfl,-,-,-⟩:=cN.shape hv lG.len;clear hb hv;go_wp2_with fail
  go_ret2
  exact⟨he.o,by rw[HN.o]; exact⟨_,rfl,hh.o⟩⟩
end
section
open Go.RowKit
theorem Pp (l:List UInt8):(BQ l).length<=4*l.length:=by
 have h1:=yU l;have: ∀rs:List Int,(rs.flatMap Lib.encodeRune).length<=4*rs.length:=by
  intro rs
  induction rs with
  | nil=>simp
  | cons r rs ih=>rw[bm,ag,az]; have:=wR r; omega
 have h2:=this (uB l);unfold BQ; omega
theorem CM (s:ByteArray) (pos:Nat):Lib.decodeL ((bl s).drop pos)=Utf8.decode s pos:=Lib.decodeL_drop s pos
theorem OT {s:ByteArray} {pos:Nat} (h:pos<s.size):(bl s).drop pos≠[]:=by intro e; have:=List.drop_eq_nil_iff.1 e; rw[<-bi]at this; omega
theorem Lt {s o:ByteArray} {pos:Nat} (hp:pos<s.size) (h:bl o++BQ ((bl s).drop pos)=BQ (bl s)):
  bl (o++Utf8.encode ((Utf8.decode s pos).1:Int))++BQ ((bl s).drop (pos+(Utf8.decode s pos).2))=BQ (bl s):=by
 rw[nH,<-h,Ei _ (OT hp),CM,fR,<-Fm,OQ,bp]
theorem Gc (s:ByteArray) (w:World) (hs:s.size<=16777216):
  Calls Tryz.prog 164 #[.string s] w fun e w'=>e= .returned (.bool (Lib.validD (bl s)))/\Below w.heap.size w w':=by
 go_enter Tryz.func164,Tryz.ntmps164
 go_wp2
 go_loopw [3] (fun v wr=> ∃(pos:Nat) (o:ByteArray),v= .string o/\wr=w.iter s pos/\o.size<=67108864/\bl o++BQ ((bl s).drop pos)=BQ (bl s)) (fun _ wr=>s.size-wr.iterPos w.heap.size)
 ·exact⟨0,⟨#[]⟩,rfl,rfl,by simp[ByteArray.size],by simp[bl]⟩
 ·obtain⟨pos,o,rfl,rfl,ho,ha⟩:=hrel;have HR:=ah ha;clear ha
  by_cases hp:pos<s.size
  ·have hb: ∀ty,(Instr.next (.pointer (some ⟨w.heap.size,0,none⟩)) true ty).run Tryz.prog (w.iter s pos)=_:=fun ty=>run_next_any w s pos ty hp
   obtain⟨r,hr⟩:=bI ((Utf8.decode s pos).1);obtain⟨E,hE⟩:=bI (Utf8.encode (r:Int));have he: ∀w',(convert 21 9 (.int .i32 (r:Int))).run Tryz.prog w'= .ok (.string E) w':=fun w'=>by rw[hE]; exact run_convert_int_string w' _ _ .i32 _ (by rw[Tryz.underlying21]; rfl) ee
   have hd:E.size<=4:=by rw[hE]; exact encode_size_le _
   simp only[<-hr]at hb;have HE:=ah hE;have hc:=ah hr;clear hE hr
   go_wp2
   go_roundw
   case rel=>
    have hn:bl (o++E)++BQ ((bl s).drop (pos+(Utf8.decode s pos).2))=BQ (bl s):=by rw[HE.o,hc.o]; exact Lt hp HR.o
    refine⟨pos+(Utf8.decode s pos).2,o++E,rfl,rfl, ?_,hn⟩;have h1:=congrArg List.length hn;have h2:=Pp (bl s);rw[ag,<-bi]at h1;rw[<-bi]at h2;omega
   case measure=>
    rw[World.iterPos_iter,World.iterPos_iter];have:=Lib.width_pos s pos;omega
  ·have hb: ∀ty,(Instr.next (.pointer (some ⟨w.heap.size,0,none⟩)) true ty).run Tryz.prog (w.iter s pos)=_:=fun ty=>run_next_end w s pos ty hp
   go_wp2
   go_ret;refine⟨bX ?_,eW⟩;have h1:bl o=BQ (bl s):=by rw[<-HR.o,dT (by rw[<-bi]; omega),BR,ci]
   rw[eN,eN,h1];exact KJ (bl s)
theorem DE {s:ByteArray} {j:Nat} (hj:j<s.size) (h:(s[j].toNat:Int)<32):rC (bl s)=false:=by refine DG hj ?_;rw[sG s j hj,<-kO s j hj]; omega
theorem Ed (s:ByteArray) (w:World) (hs:s.size<=16777216):
  Calls Tryz.prog 138 #[.string s] w fun e w'=>e= .returned (.bool (yf (bl s)))/\Below w.heap.size w w':=by
 go_enter Tryz.func138,Tryz.ntmps138
 go_wp2
 go_loop [3] (fun i=> ∃k:Nat,k<=s.size/\i= .int .i64 k/\ ∀j,j<k->j<s.size->32<=(s.get! j).toNat) (fun i=>s.size-(intOf i).toNat)
 ·exact⟨0,aU _,rfl,fun j hj=>by omega⟩
 ·obtain⟨k,hk,rfl,ha⟩:=hrel;have HL:=ah ha;clear ha
  by_cases hp:k<s.size
  ·go_wp2
   ·have hd:(s[k].toNat:Int)<32:=by assumption
    go_ret;exact⟨bX (by simp[yf,DE hp hd]),ak _ _⟩
   ·have he:(32:Int)<=(s[k].toNat:Int):=by assumption
    go_round
    ·refine⟨k+1,by omega,by go_num,fun j hj hc=> ?_⟩
     rcases dK j k with h | h
     ·exact HL.o j h hc
     ·obtain rfl:j=k:=by omega
      rw[sG s j hp,<-kO s j hp]; omega
    simp[intOf]<;> omega
  ·go_wp2_with (go_at_call 164; refine(Gc s _ hs).mono ?_; rintro e w' ⟨rfl,hb⟩);go_ret;refine⟨bX ?_,hb⟩;simp only[yf,Iy (fun j hj=>HL.o j (by omega) hj),gU]
def LF (c:UInt8) (s:ByteArray) (w:World) (e:Ending) (w':World):Prop:=
 ∃v xs,e= .returned v/\xs.map bl=dg c (bl s)/\lP (w.heap.size<= ·) w' v xs/\Below w.heap.size w w'
theorem CP {s:ByteArray} {c:UInt8} {ys:List ByteArray} {f k:Nat} (hk:k<s.size) (hf:f<=k) (h:dg c (bl s)=ys.map bl++dg c ((bl s).drop f)) (hn: ∀j,f<=j->j<k->(s.get! j)≠c) (hc:s[k]=c):
  dg c (bl s)=(ys++[s.extract f k]).map bl++dg c ((bl s).drop (k+1)):=by
 have ha:k<(bl s).length:=by rw[<-bi]; exact hk
 have e:(bl s).drop f=bl (s.extract f k)++c::(bl s).drop (k+1):=by rw[pO,<-hc,kO s k hk,List.getElem_cons_drop,List.drop_take];have h2:=dx (k-f) ((bl s).drop f);rw[fR,show f+(k-f)=k by omega]at h2;exact h2.symm
 have hm:c∉bl (s.extract f k):=by intro hm;obtain⟨j,hj,ej⟩:=eh hm;simp only[pO]at hj ej;rw[bz,bn]at hj;rw[List.getElem_drop,List.getElem_take]at ej;exact hn (f+j) (by omega) (by omega) (by rw[sG s _ (by omega)]; exact ej)
 rw[h,e,oZ _ _ _ hm]; simp
theorem CO {s:ByteArray} {c:UInt8} {ys:List ByteArray} {f:Nat} (hf:f<=s.size) (h:dg c (bl s)=ys.map bl++dg c ((bl s).drop f)) (hn: ∀j,f<=j->j<s.size->(s.get! j)≠c):
  dg c (bl s)=(ys++[s.extract f s.size]).map bl:=by
 have e:(bl s).drop f=bl (s.extract f s.size):=by rw[pO,bi,dw]
 have hm:c∉(bl s).drop f:=by intro hm;obtain⟨j,hj,ej⟩:=eh hm;rw[bz,<-bi]at hj;rw[List.getElem_drop]at ej;exact hn (f+j) (by omega) (by omega) (by rw[sG s _ (by omega)]; exact ej)
 rw[h,fP _ _ hm,e]; simp
theorem nD (s:ByteArray) (w:World) (hs:s.size<=16777216):Calls Tryz.prog 87 #[.string s] w (LF 47 s w):=by
 go_enter Tryz.func87,Tryz.ntmps87
 go_wp2_with fail
 go_loopw [3,4,5] (fun v fr i wr=> ∃(k f:Nat) (ys:List ByteArray),k<=s.size+1/\f<=k/\ys.length<=k/\i= .int .i64 k/\fr= .int .i64 f/\wr.ownsRow w.heap.size 9 1 v ys.length (ys.map Value.string)/\Below w.heap.size w wr/\
   (k<=s.size->dg 47 (bl s)=ys.map bl++dg 47 ((bl s).drop f)/\ ∀j,f<=j->j<k->(s.get! j)≠47)/\(k=s.size+1->dg 47 (bl s)=ys.map bl)) (fun _ _ i _=>s.size+1-(intOf i).toNat)
 ·exact⟨0,0,[],aU _,ai _,ai _,rfl,rfl,bM _ _ _ _,ak _ _,fun _=>⟨by simp,fun j _ hj=>by omega⟩,fun h=>by omega⟩
 ·obtain⟨k,f,ys,hk,hf,hy,rfl,rfl,hh,hb,hu,hv⟩:=hrel;have HO:=ah hh;have HB:=ah hb;have he:=ah hu;have hw:=ah hv;have hl:w.heap.size<=wr.heap.size:=hb.size;clear hh hb hu hv
  by_cases hg:k<=s.size
  ·by_cases hr:k<s.size
   ·have e1:((k:Int) == (s.size:Int))=false:=by rw[ij]; omega
    by_cases hc:s[k]=47
    ·have e2:((s[k].toNat:Int) == (47:UInt8).toNat)=true:=by rw[hc]; rfl
     have e2':((s[k].toNat:Int) == 47)=true:=e2;have ho:=ah hc;clear hc e2;go_wp2_with (at_builtin; go_must (refine iS Tryz.appStrings rfl _ _ rfl w.heap.size u3 ys.length (ys.map Value.string) rfl wr [.string (s.extract f k)] _ rfl rfl (by simp; rfl) HO.o (by omega) hl ?_); intro v' w1 hd ha _);have hq:=ah hd;have hp:=ah ha;clear hd ha;go_wp2_with fail
     go_roundw
     ·refine⟨k+1,k+1,ys++[s.extract f k],by omega,ai _,by simp; omega,by go_num,by go_num, ?_,bZ HB.o HO.o hp.o (ai _) hl,fun _=>⟨CP hr hf (he.o hg).1 (he.o hg).2 ho.o,fun j h1 h2=>by omega⟩,fun h=>by omega⟩;have:=hq.o; simpa using this
     simp[intOf]<;> omega
    ·have e2':((s[k].toNat:Int) == 47)=false:=by
      rw[ij]; intro e; apply hc; apply gN.1; have:s[k].toNat=47:=by omega
      rw[this]; rfl
     have ho:=ah hc;clear hc;go_wp2_with fail
     go_roundw
     ·refine⟨k+1,f,ys,by omega,by omega,by omega,by go_num,rfl,HO.o,HB.o,fun _=>⟨(he.o hg).1,fun j h1 h2=> ?_⟩,fun h=>by omega⟩
      rcases dK j k with h | h
      ·exact(he.o hg).2 j h1 h
      ·obtain rfl:j=k:=by omega
       rw[sG s j hr,<-kO s j hr]; exact ho.o
     simp[intOf]<;> omega
   ·obtain rfl:k=s.size:=by omega
    have e1:((s.size:Int) == (s.size:Int))=true:=by simp
    go_wp2_with (at_builtin; go_must (refine iS Tryz.appStrings rfl _ _ rfl w.heap.size u3 ys.length (ys.map Value.string) rfl wr [.string (s.extract f s.size)] _ rfl rfl (by simp; rfl) HO.o (by omega) hl ?_); intro v' w1 hd ha _);have hq:=ah hd;have hp:=ah ha;clear hd ha;go_wp2_with fail
    go_roundw
    ·refine⟨s.size+1,s.size+1,ys++[s.extract f s.size],by omega,ai _,by simp; omega,by go_num,by go_num, ?_,bZ HB.o HO.o hp.o (ai _) hl,fun h=>by omega,fun _=>CO hf (he.o hg).1 (he.o hg).2⟩;have:=hq.o; simpa using this
    simp[intOf]<;> omega
  ·obtain⟨a,cap,rfl,hn,hm⟩:=aH HO.o;go_wp2_with fail;go_ret;exact⟨_,ys,rfl,(hw.o (by omega)).symm,(cJ HO.o).weak (fun k hk=>hk.1),HB.o⟩
theorem ye {xs:List ByteArray} {k:Nat} {x:ByteArray} (hx:xs[k]? =some x):jT ((xs.take (k+1)).map bl)=if k=0 then bl x else jT ((xs.take k).map bl)++[47]++bl x:=by
 have hk:=(aD.1 hx).1;have e:(xs.take (k+1)).map bl=(xs.take k).map bl++[bl x]:=by rw[bY,hx]; simp
 rw[e,EG]
 by_cases h:k=0
 ·subst h; simp
 ·have h2:(xs.take k).map bl≠[]:=by intro e; have:=congrArg List.length e; simp only[aw,bn,bo]at this; omega
  rw[if_neg h,if_neg h2]
theorem yk (xs:List ByteArray) (m:Nat) (h: ∀x∈xs,x.size<=m) (k:Nat):(jT ((xs.take k).map bl)).length<=xs.length*(m+1):=by
 have h1:=GC ((xs.take k).map bl) m (fun p hp=>by obtain⟨y,hy,rfl⟩:=aP.1 hp;have:=h y (List.mem_of_mem_take hy);rw[<-bi]; exact this)
 have h2:((xs.take k).map bl).length<=xs.length:=by simp; omega
 exact an h1 (dh _ h2)
theorem Ee (xs:List ByteArray) (S:Nat->Prop) (v:Value) (w:World) (hv:lP S w v xs) (hn:xs.length<=65536) (hsz: ∀x∈xs,x.size<=65536):
  Calls Tryz.prog 132 #[v] w fun e w'=>e= .returned (.string ⟨(jT (xs.map bl)).toArray⟩)/\w=w':=by
 obtain⟨a,cap,rfl,hc,hb,ha⟩:=hv.shape;have HC:=ah ha;have HS:=ah hsz;clear hv ha hsz;unfold maxLen at hb
 go_enter Tryz.func132,Tryz.ntmps132
 go_wp2_with fail
 go_loop [3,8] (fun o i=> ∃(k:Nat) (t:ByteArray),k<=xs.length/\i= .int .i64 k/\o= .string t/\bl t=jT ((xs.take k).map bl)) (fun _ i=>xs.length-(intOf i).toNat)
 ·exact⟨0,⟨#[]⟩,aU _,rfl,rfl,by simp[bl,jT,Lib.join_nil]⟩
 ·obtain⟨k,t,hk,rfl,rfl,ht⟩:=hrel;have hh:t.size<=4295032832:=by rw[bi,ht];have:=yk xs 65536 HS.o k;have h2:xs.length*(65536+1)<=65536*(65536+1):=dh _ hn;omega
  have HT:=ah ht;clear ht
  by_cases hd:k<xs.length
  ·obtain⟨x,hx⟩: ∃x,xs[k]? =some x:=⟨xs[k],by simp[hd]⟩;obtain⟨b,o,rfl,_,hf⟩:=HC.o k x hx;have hj:=HS.o x (aQ hx);have HX:=ah hx;clear hx
   by_cases h0:k=0
   ·have e0:decide ((0:Int)<(k:Int))=false:=by simp[h0]
    have hg: ¬(0:Int)<(k:Int):=by omega
    have H0:=ah h0;clear h0;go_wp2_with fail
    go_round
    ·refine⟨k+1,t++x,by omega,by go_num,rfl, ?_⟩;rw[ye HX.o,if_pos H0.o,nH,HT.o,H0.o]; simp[jT,Lib.join_nil]
    simp[intOf]; omega
   ·have h1:(0:Int)<(k:Int):=by omega
    have he:0<k:=by omega
    have H0:=ah h0;clear h0;go_wp2_with fail
    go_round
    ·refine⟨k+1,(t++⟨#[47]⟩)++x,by omega,by go_num,rfl, ?_⟩;rw[ye HX.o,if_neg H0.o,nH,nH,HT.o]; rfl
    simp[intOf]; omega
  ·go_wp2_with fail;go_ret;refine⟨?_,rfl⟩;have:jT (xs.map bl)=bl t:=by rw[HT.o,bw (by omega)]
   rw[this,tF]; rfl
theorem Im {xs:List ByteArray} {s:ByteArray} (hx:xs.map bl=dg 47 (bl s)):((xs.length:Int) == 1)= !(bl s).contains 47:=by rw[<-CH,<-hx,aw,dq,kf,kf]; omega
theorem qw (s:ByteArray) (w:World) (hs:s.size<=16777216):
  Calls Tryz.prog 102 #[.string s] w fun e w'=>e= .returned (.bool (iO (bl s)))/\Below w.heap.size w w':=by
 go_enter Tryz.func102,Tryz.ntmps102
 go_wp2_with (first
  | (go_at_call 138; refine(Ed s _ hs).mono ?_; rintro e w1 ⟨rfl,hb⟩)
  | (go_at_call 87; refine(nD s _ hs).mono ?_; rintro e w2 ⟨v2,xs2,rfl,hd,hc,he⟩; obtain⟨a2,c2,rfl,-,-,-⟩:=hc.shape; have ha:=ah hd; clear hd hc))
 all_goals (go_ret; refine⟨bX ?_,by first | exact ak _ _ | exact aj hb he | exact hb⟩)
 all_goals (rw[dq]; simp only[eN]at *)
 all_goals (first | (have hq:=Im ha.o; simp_all [iO,bi]; done) | (simp_all [iO,bi]; done) | (simp_all [iO,bi]; omega) | (have hq:=Im ha.o; simp_all [iO,bi]; intro _; omega))
theorem Ef (s:ByteArray) (w:World) (hs:s.size<=16777216):
  Calls Tryz.prog 86 #[.string s] w fun e w'=>e= .returned (.bool (dH (bl s)))/\Below w.heap.size w w':=by
 go_enter Tryz.func86,Tryz.ntmps86
 go_wp2_with fail;refine(nD s w hs).mono ?_;rintro e w1 ⟨v,xs,rfl,hx,hv,ho⟩;obtain⟨a,cap,rfl,hc,hr,hd⟩:=hv.shape;have hw:xs.length<=16777217:=by
  have h1:(dg 47 (bl s)).length=xs.length:=by rw[<-hx]; simp
  have h2:=pd 47 (bl s);rw[<-bi]at h2;omega
 have HX:=ah hx;have HC:=ah hd;have hn:=ah ho;clear hx hd ho hv;unfold maxLen at hr;go_wp2_with fail
 go_loopw [10] (fun i wr=> ∃k:Nat,k<=xs.length/\i= .int .i64 k/\Below w1.heap.size w1 wr/\ ∀(j:Nat) x,j<k->xs[j]? =some x->iO (bl x)=true) (fun i _=>xs.length-(intOf i).toNat)
 ·exact⟨0,aU _,rfl,ak _ _,fun j x hj=>by omega⟩
 ·obtain⟨k,hk,rfl,hb,hf⟩:=hrel;have HA:=ah hf;have HB:=ah hb;clear hf hb
  by_cases hu:k<xs.length
  ·obtain⟨x,hx⟩: ∃x,xs[k]? =some x:=⟨xs[k],by simp[hu]⟩;obtain⟨b,o,rfl,_,hh⟩:=HC.o k x hx;have hd:wr.cell? ⟨b,o+k,none⟩=some (.string x):=(HB.o.cell (p:=⟨b,o+k,none⟩) (bP hh)).trans hh;have HK:=ah hx;have hq:x.size<=16777216:=by have:=Aq HX.o hx; omega
   clear hx hh
   cases hc:iO (bl x)
   ·have he:=ah hc;clear hc;go_wp2_with (go_at_call 102; refine(qw x wr hq).mono ?_; rintro e w' ⟨rfl,hg⟩; rw[he.o]);go_ret;exact⟨bX (AK HX.o HK.o he.o).symm,aj (aj hn.o HB.o) hg⟩
   ·have he:=ah hc;clear hc;go_wp2_with (go_at_call 102; refine(qw x wr hq).mono ?_; rintro e w' ⟨rfl,hg⟩; rw[he.o])
    go_roundw
    ·refine⟨k+1,by omega,by go_num,aj HB.o hg,fun j x' hj hp=> ?_⟩
     rcases dK j k with h | h
     ·exact HA.o j x' h hp
     ·obtain rfl:j=k:=by omega
      have:=HK.o.symm.trans hp
      cases this
      exact he.o
    simp[intOf]; omega
  ·go_wp2_with fail
   all_goals (go_ret; refine⟨bX ?_,aj hn.o HB.o⟩)
   all_goals (
    have ha:(dg 47 (bl s)).all iO=true:=by rw[<-HX.o,List.all_map,cu];intro x hm;obtain⟨j,hj,rfl⟩:=eh hm;exact HA.o j _ (by omega) (by simp)
    have hl:(dg 47 (bl s)).length=xs.length:=by rw[<-HX.o]; simp
    rw[dH,ha,hl,Bool.and_true,<-bi,dq]
    simp_all<;> omega)
end
end Go.Proofs.YtpffpjbkbaleiaaGreatDoor
