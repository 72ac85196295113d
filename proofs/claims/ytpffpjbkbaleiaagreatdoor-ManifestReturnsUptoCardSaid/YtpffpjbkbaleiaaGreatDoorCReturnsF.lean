/- Texts of this proof, one after the other: LoadB, BldB, BldC, BldD, BldE, RGet, Pres, RefA. -/
import Derived.Test.YtpffpjbkbaleiaaGreatDoorCReturnsE
set_option maxRecDepth 100000
set_option maxHeartbeats 8000000
namespace Go.Proofs.YtpffpjbkbaleiaaGreatDoor
open Go Go.RowKit
theorem ms {l:List UInt8} (h:dB l=true):l.length<=512:=by
 unfold dB at h;simp only[aJ,aK]at h;exact h.1.1
theorem pY {l:List UInt8} (h:dB l=true):1<=l.length:=by
 cases l with
 | nil=>exact absurd h (by decide)
 | cons a l=>simp
theorem uV (d n:ByteArray) (hn:1<=n.size):d.size+1<=(jS d n).size:=by
 unfold jS
 split
 ·omega
 ·simp only[ByteArray.size_append]
  show d.size+1<=d.size+1+n.size
  omega
theorem ul {cs:List (ByteArray×List UInt8)} {rec:ByteArray->cX->List dj->Int×List dj} {dir p:ByteArray} {it:cr} {r:List cr} {acc:List dj} (hp:jS dir it.name=p) (hv:dB (bl p)=true) (hl:acc.length<4096) (hk:it.kind=2):
  jz cs rec dir (it::r) acc=if(rec p it.node (acc++[⟨p,it.kind,it.mode,it.time,[],it.link⟩])).1=0 then jz cs rec dir r (rec p it.node (acc++[⟨p,it.kind,it.mode,it.time,[],it.link⟩])).2 else rec p it.node (acc++[⟨p,it.kind,it.mode,it.time,[],it.link⟩]):=by
 have hf:lS cs it=([],0):=by unfold lS; rw[if_neg (by omega)]
 rw[jz,hp,if_pos ⟨hv,hl⟩,hf];simp only[if_pos hk]
theorem xF {cs:List (ByteArray×List UInt8)} {rec:ByteArray->cX->List dj->Int×List dj} {dir p:ByteArray} {it:cr} {r:List cr} {acc:List dj} (hp:jS dir it.name=p) (hv:dB (bl p)=true) (hl:acc.length<4096) (hk:it.kind≠2) (hk1:it.kind≠1):
  jz cs rec dir (it::r) acc=jz cs rec dir r (acc++[⟨p,it.kind,it.mode,it.time,[],it.link⟩]):=by
 have hf:lS cs it=([],0):=by unfold lS; rw[if_neg hk1]
 rw[jz,hp,if_pos ⟨hv,hl⟩,hf];simp only[if_neg hk,if_true]
theorem sx {cs:List (ByteArray×List UInt8)} {rec:ByteArray->cX->List dj->Int×List dj} {dir p:ByteArray} {it:cr} {r:List cr} {acc:List dj} {bs:List UInt8} (hp:jS dir it.name=p) (hv:dB (bl p)=true) (hl:acc.length<4096) (hk1:it.kind=1) (hb:kL cs it.chunks []= .ok bs):
  jz cs rec dir (it::r) acc=jz cs rec dir r (acc++[⟨p,it.kind,it.mode,it.time,bs,it.link⟩]):=by
 have hf:lS cs it=(bs,0):=by unfold lS; rw[if_pos hk1,hb]
 have hk: ¬it.kind=2:=by omega
 rw[jz,hp,if_pos ⟨hv,hl⟩,hf];simp only[if_neg hk,if_true]
theorem Al {cs:List (ByteArray×List UInt8)} {rec:ByteArray->cX->List dj->Int×List dj} {dir p:ByteArray} {it:cr} {r:List cr} {acc:List dj} {x:Int} (hp:jS dir it.name=p) (hv:dB (bl p)=true) (hl:acc.length<4096) (hk1:it.kind=1) (hb:kL cs it.chunks []= .error x) (hx:x≠0):
  jz cs rec dir (it::r) acc=(x,acc++[⟨p,it.kind,it.mode,it.time,[],it.link⟩]):=by
 have hf:lS cs it=([],x):=by unfold lS; rw[if_pos hk1,hb]
 have hk: ¬it.kind=2:=by omega
 rw[jz,hp,if_pos ⟨hv,hl⟩,hf];simp only[if_neg hk,if_neg hx]
def FZ (cs:List (ByteArray×List UInt8)) (cv:Value) (B n:Nat):Prop:= ∀(dir:ByteArray) (ref:cX) (acc:List dj) (base eb:Nat) (v:Value) (w:World),
 514<=dir.size+n->(dir.size=0\/dB (bl dir)=true)->lm w base eb v acc->eC ref->lE B cv cs w->B<=base->base<=eb->base<=w.heap.size->
 Calls Tryz.prog 78 #[cv, .string dir,fa ref, .pointer (some ⟨eb,0,none⟩)] w fun e w'=>e= .returned (.int .i64 (iz cs n dir ref acc).1)/\ ∃v',lm w' base eb v' (iz cs n dir ref acc).2/\rJ base eb v v' w w'
theorem Jg (cs:List (ByteArray×List UInt8)) (cv:Value) (B:Nat):FZ cs cv B 0:=by
 intro dir ref acc base eb v w hn hd
 exfalso
 rcases hd with h | h
 ·omega
 ·have:=ms h;rw[<-bi]at this;omega
theorem eY.wide {S:Nat->Prop} {w:World} : ∀ {m:List (Value×Value)} {cs:List (ByteArray×List UInt8)},eY S w m cs->eY (fun _=>True) w m cs
 | [],[],_=>trivial
 | [],_::_,h=>h
 | _::_,[],h=>h
 | (_,_)::_,(_,_)::_,h=>⟨h.1,cE.weak h.2.1 (fun _ _=>trivial),eY.wide h.2.2⟩
theorem fU.wide {S:Nat->Prop} {w:World} {cv:Value} {cs:List (ByteArray×List UInt8)} (h:fU S w cv cs):fU (fun _=>True) w cv cs:=by
 rcases h with h | ⟨b,m,h1,_,h2,h3⟩
 ·exact .inl h
 ·exact .inr ⟨b,m,h1,trivial,h2,h3.wide⟩
theorem lE.keepL {B base:Nat} {cv:Value} {cs:List (ByteArray×List UInt8)} {w w':World} (h:lE B cv cs w) (hb:Below base w w') (hB:B<=base):lE B cv cs w':=
 lE.keep w w' h ⟨hb.os,hb.tape,hb.output,hb.size,fun k _ hn=>hb.block k (by omega)⟩
theorem Jf (cs:List (ByteArray×List UInt8)) (cv:Value) (B n:Nat) (IH:FZ cs cv B n):FZ cs cv B (n+1):=by
 intro dir ref acc base eb v w hn hd Yf hr hi hB H3 Ht;have Yq:=an IH;have HD:=an hd;have Yi:=an Yf;have HI:=an hi;have HA:=an ((ay w.heap.size w).alloc (au _) (.cells #[.string ref.name, .int .i64 ref.gen, .int .i64 ref.size] 26));have H8:=ti (· <B) cv cs ref _ (hi.cont.below HA.o) hr (hi.env.below HA.o);have YE:eb<w.heap.size:=az Yf.1
 unfold fa at *;unfold AE at H8;have Yr:=an (show iz cs (n+1) dir ref acc=match jy cs ref with
  | .error x=>(x,acc)
  | .ok l=>jz cs (iz cs n) dir l acc from rfl)
 cases H0:jy cs ref with
 | error x=>
  rw[H0]at H8;have Yk:=an H8;have HE:=an (show iz cs (n+1) dir ref acc=(x,acc) by rw[Yr.o,H0]);clear H0 H8 IH hd Yf hr hi
  go_enter Tryz.func78,Tryz.ntmps78
  go_wp2_with fail;refine Yk.o.mono ?_;rintro e w1 ⟨yl,rfl,hx⟩;have yn:=an (aw HA.o yl);have e1:(x != 0)=true:=by simp[hx]
  clear yl hx;go_wp2_with fail;go_ret;rw[HE.o];exact⟨rfl,v,Yi.o.below yn.o,rJ.ofBelow yn.o Ht⟩
 | ok l=>
  rw[H0]at H8;have Yk:=an H8;have HE:=an (show iz cs (n+1) dir ref acc=jz cs (iz cs n) dir l acc by rw[Yr.o,H0]);have Yj:=an (rZ H0);clear H0 H8 IH hd Yf hr hi
  go_enter Tryz.func78,Tryz.ntmps78
  go_wp2_with fail;refine Yk.o.mono ?_;rintro e w1 ⟨yl,v1,rfl,Yo⟩;have yn:=an (aw HA.o yl);obtain⟨a1,cap1,rfl,YA,YB,-⟩:=cL.shape Yo lr.len;unfold maxLen at YB;have y6:=an (show vi w (w.heap.size+1) w1.heap.size base eb v (.slice a1 l.length cap1) l w1 v acc from
   ⟨Yi.o.below yn.o,rJ.ofBelow yn.o Ht,fun k hk=> .inl (by obtain⟨_,ys,_,hr,_⟩:=Yi.o; have:=(hr.lt k hk).2; omega),by omega,⟨by omega,by have:=yl.size; simpa using this,au _⟩,
    by have h:=eD.lt Yo; simpa using h⟩)
  obtain⟨m,hm⟩: ∃m,m=l.length:=⟨_,rfl⟩;rw[<-hm]at y6 YA ⊢;have HM:=an hm;have YF:m<=4096:=by rw[hm]; exact Yj.o.1
  clear yl Yo hm;go_wp2_with fail
  go_loopw [26] (fun i wr=> ∃(k:Nat) (v2:Value) (acc2:List dj),k<=m/\i= .int .i64 (k:Int)/\jz cs (iz cs n) dir (l.drop k) acc2=iz cs (n+1) dir ref acc/\vi w (w.heap.size+1) w1.heap.size base eb v (.slice a1 m cap1) l wr v2 acc2) (fun i _=>m-(intOf i).toNat)
  case atStart=>exact⟨0,v,acc,aX _,rfl,HE.o.symm,y6.o⟩
  case round=>
   obtain⟨k,v2,acc2,hk,rfl,Yz,Yu⟩:=hrel;have Hn:=an Yz;have hA:=an Yu;clear Yz Yu
   by_cases Yv:k<m
   ·obtain⟨it,hr⟩: ∃it,l[k]? =some it:=⟨l[k]'(by rw[<-HM.o]; exact Yv),by simp⟩;obtain⟨b,o,ca,cc,rfl,Yw,Yy,YC,-,HH⟩:=mL hA.o.its (ay _ _) hr;have q0:=HH 0 (by omega);have q1:=HH 1 (by omega);have q2:=HH 2 (by omega);have q3:=HH 3 (by omega);have q4:=HH 4 (by omega);have q5:=HH 5 (by omega);have q6:=HH 6 (by omega);have q7:=HH 7 (by omega)
    have q8:=HH 8 (by omega);have q9:=HH 9 (by omega);simp only[fh,aj,am,de]at q0 q1 q2 q3 q4 q5 q6 q7 q8 q9;have HO:=an Yw;have Ys:=an Yy;have Hs:=an (show l.drop k=it::l.drop (k+1) by
     rw[cI (by rw[<-HM.o]; exact Yv)]
     congr 1
     exact(aN.1 hr).2)
    have Ya:=(nF Yj.o.2.1).2 it (aS hr);have Yt:=an Ya;have YD:dir.size<=512:=by
     rcases HD.o with h | h
     ·omega
     ·have:=ms h; rw[<-bi]at this; exact this
    have Yh:=pg.1 (by unfold gO at Ya; rw[aJ]at Ya; exact Ya.1);have YG:it.name.size<=64:=by rw[bi]; exact sJ Yh.val Yh.nos
    have H0:1<=it.name.size:=by rw[bi]; exact pY Yh.val
    have Ye:=an (Yj.o.2.2 it (aS hr));clear hr Yw Yy HH Ya Yh;have Hw:=an (show base<=wr.heap.size by have:=hA.o.ord; omega)
    by_cases Yg:dir.size=0
    ·have e2:dir.toList=[]:=by rw[eB]; exact bt (by rw[<-bi]; exact Yg)
     have e3:dir.toList.isEmpty=true:=by rw[e2]; rfl
     have Hu:=an (show jS dir it.name=it.name by unfold jS; rw[if_pos Yg]);go_wp2_with fail;obtain⟨W,hW⟩: ∃W,W=(wr.alloc (.cells #[.string it.name, .int .i64 it.kind, .int .i64 it.mode, .int .i64 it.time, .int .i64 it.size, .string it.link, .slice ca it.chunks.length cc, .string it.node.name, .int .i64 it.node.gen, .int .i64 it.node.size] 28)).alloc (.cells #[.string (it.name), .int .i64 it.kind, .int .i64 it.mode, .int .i64 it.time, .slice none 0 0, .string it.link] 79):=⟨_,rfl⟩
     rw[<-hW];have Ho:=an (show Below wr.heap.size wr W by rw[hW]; exact(eN).alloc (by simp) _);have y9:=an (show W.heap[wr.heap.size]? =some (.cells #[.string it.name, .int .i64 it.kind, .int .i64 it.mode, .int .i64 it.time, .int .i64 it.size, .string it.link, .slice ca it.chunks.length cc, .string it.node.name, .int .i64 it.node.gen, .int .i64 it.node.size] 28 (0,0)) by rw[hW]; exact mT (dY wr _) _)
     have HB:=an (show W.heap[wr.heap.size+1]? =some (.cells #[.string (it.name), .int .i64 it.kind, .int .i64 it.mode, .int .i64 it.time, .slice none 0 0, .string it.link] 79 (0,0)) by rw[hW]; exact pL wr _ _);have Hl:=an (hA.o.below Ho.o Hw.o);have yv:=an (show og W from(HI.o.keepL (Hl.o.kp.below) hB).env);clear hW q0 q1 q2 q3 q4 q5 q6 q7 q8 q9
     cases h9:dB (bl (it.name))with
     | false=>
      have h8:=an h9;clear h9;refine(mR (it.name) false W yv.o h8.o).mono ?_;rintro e w2 ⟨rfl,h2⟩;have hC:=an (Hl.o.below h2 (aB Hw.o Ho.o.size));clear h2;go_wp2_with fail;go_ret;have h1:=Hn.o;rw[Hs.o,jz,if_neg (fun h=>by rw[Hu.o,h8.o]at h; cases h.1)]at h1;rw[<-h1];exact⟨rfl,v2,hC.o.box,hC.o.kp⟩
     | true=>
      have h8:=an h9;clear h9;refine(mR (it.name) true W yv.o h8.o).mono ?_;rintro e w2 ⟨rfl,h2⟩;have hC:=an (Hl.o.below h2 (aB Hw.o Ho.o.size));have HX:=an (dV h2 y9.o);have HY:=an (dV h2 HB.o);have h3:=an (aB (aB Hw.o Ho.o.size) h2.size);have H7:=an (show dA (fun k=>w.heap.size+1<=k/\k<w1.heap.size) w2 (.slice ca it.chunks.length cc) it.chunks from cL.below (cL.below Ys.o (by omega) Ho.o (fun _ _ _ h=>h)) (by omega) h2 (fun _ _ _ h=>h))
      have H1:=an (Ho.o.trans (h2.mono Ho.o.size));clear h2 y9 HB;obtain⟨ys0,HZ,Hh,-⟩:=hC.o.box.2;obtain⟨av0,cv0,yb,yc,Yp⟩:=aI Hh;have HK:ys0.length=acc2.length:=by rw[<-HZ,aE]
      rw[HK]at yb yc;have e0:=aA (k:=0) hC.o.box.1;simp only[ak,aj]at e0;rw[yb]at e0;obtain⟨c0,c1,_⟩:=aT HX.o;have c6:=aA (k:=6) HX.o;have c7:=aA (k:=7) HX.o;have c8:=aA (k:=8) HX.o;have c9:=aA (k:=9) HX.o;obtain⟨d0,d1,d2,d3,d4,d5,_⟩:=aT HY.o;simp only[ak,am,aj]at c6 c7 c8 c9
      clear HZ Hh yb HK
      by_cases hO:acc2.length<4096
      ·have Ym:(acc2.length:Int)<4096:=by omega
       have h4:=an hO;clear hO
       by_cases Hf:it.kind=1
       ·have e1:(it.kind == 1)=true:=by simp[Hf]
        have H2:=an Hf;have e2:(it.kind == 2)=false:=by simp[Hf]
        have HF:=lw Hf (by have h:=Yt.o; unfold gO at h; rw[aJ]at h; exact h.2);have ya:=tI (l:=it.chunks) (by have:=Ye.o; omega) (fun r hr=>(HF.2.2.1 r hr).1) _ (au _);rw[dg]at ya;have Hp:=qA (fun _=>True) cv (.slice ca it.chunks.length cc) cs it.chunks w2 (fU.wide (HI.o.keepL hC.o.kp.below hB).cont) (dA.same H7.o (fun k _ _=>⟨trivial,rfl⟩)) ya.1 (by rw[<-HF.2.2.2.1]; exact HF.2.2.2.2) (by have:=Ye.o; omega) (fun r hr=>(HF.2.2.1 r hr).1)
        unfold vw at Hp;clear Hf HF ya
        cases Hv:kL cs it.chunks []with
        | error x=>
         rw[Hv]at Hp;have Hk:=an Hp;have H4:=an Hv;clear Hp Hv;go_wp2_with fail;refine Hk.o.mono ?_;rintro e w5 ⟨hX,rfl,hx⟩;have HW:=dV hX HX.o;have hZ:=dV hX HY.o;have HB:=an hZ;have d4':=aA (k:=4) hZ;have f4':=dy (k:=4) hZ;simp only[ak,am,aj]at d4';clear e0 c0 c1 c6 c7 c8 c9 d0 d1 d2 d3 d4 d5
         go_wp2_with fail;obtain⟨W5,hM⟩: ∃W5:World,W5=w5.setCell ⟨wr.heap.size+1,4,none⟩ (.slice none 0 0):=⟨_,rfl⟩;rw[<-hM];have y8:=an hM;have Hz:=an ((show W5.heap[wr.heap.size]? =w5.heap[wr.heap.size]? from by rw[hM,aF _ _ _ _ (by show wr.heap.size≠wr.heap.size+1; omega)]).trans HW);have Ha:=jf (k:=4) hZ (.slice none 0 0);simp only[ag,ai,ah]at Ha
         rw[<-hM]at Ha;have HC:=an Ha;have hl:=an (show vi w (w.heap.size+1) w1.heap.size base eb v (.slice (some ⟨b,o,none⟩) m cap1) l W5 v2 acc2 from hA.o.below (by rw[hM]; exact cC (H1.o.trans (hX.mono H1.o.size)) (by show wr.heap.size<=wr.heap.size+1; omega) _) Hw.o);have hE:=an (show base<=W5.heap.size from aB h3.o (by rw[hM]; have:=hX.size; simpa [World.setCell]using this))
         clear hM HW hZ Ha d4' f4' HX HY hX;have HX:=Hz;have HY:=HC;clear Hz HC;have Hx:=an (bN W5 base 5 1);have e4:(x != 0)=true:=by simp[hx]
         have h7:=an (Al (cs:=cs) (rec:=iz cs n) (r:=l.drop (k+1)) Hu.o h8.o h4.o H2.o H4.o hx);clear hx;obtain⟨ys,Hj,hz,hG⟩:=hl.o.box.2;obtain⟨av,cv2,HN,Yc,Yb⟩:=aI hz;have hD:=an hl.o.box.1;have hs:=an hz;have hp:=an hG
         have Hc:=an Hj;subst HN;clear Hj hz hG
         obtain⟨W6,hV⟩: ∃W6:World,W6=(W5).drew:=⟨_,rfl⟩;have hj:Below (W5).heap.size (W5) W6:=by rw[hV]; exact(ay _ _).drew
         have yp:=an hj;have Hb:=an (dV hj HX.o);have hT:=an (dV hj HY.o);have hf:=an (dV hj hD.o);have hg:=an (cU hs.o hj);have hF:=an (fun y hy=>cU (hp.o y hy) hj);have hQ:=an (cU (Hx).out hj);have hR:=an (hl.o.below hj hE.o);have hY:=aB hE.o hj.size;have hP:=an hY;clear hj HX HY hl hD hs hp
         have hN:=aA (k:=0) hf.o;obtain⟨d0,d1,d2,d3,d4,d5,_⟩:=aT hT.o;have f1:=dy (k:=0) hf.o;simp only[ak,aj]at hN;refine ey (fun w'=>w'.cell? ⟨eb,0,none⟩=some (.slice av ys.length cv2)/\w'.cell? ⟨wr.heap.size+1,0,none⟩=some (.string (it.name))/\w'.cell? ⟨wr.heap.size+1,1,none⟩=some (.int .i64 it.kind)/\w'.cell? ⟨wr.heap.size+1,2,none⟩=some (.int .i64 it.mode)/\w'.cell? ⟨wr.heap.size+1,3,none⟩=some (.int .i64 it.time)/\w'.cell? ⟨wr.heap.size+1,4,none⟩=some (.slice none 0 0)/\w'.cell? ⟨wr.heap.size+1,5,none⟩=some (.string it.link)) (by kernel_rfl) (by kernel_rfl) ?_
         simp only[bw,bz,aG,bo,Nat.reduceAdd,Nat.reduceSub];rw[<-hV];clear hV
         iterate 5 (refine cF rfl (by kernel_rfl) (fun _ _ _ h=>h) rfl ⟨hN,d0,d1,d2,d3,d4,d5⟩ (by rintro w' ⟨HP,HQ,HR,HS,HT,HU,HV⟩; go_simp; rfl) ?_; simp only[Act.put,ag,ai,ah])
         have hH:eb<W6.heap.size:=az hf.o;have hb:wr.heap.size+1<W6.heap.size:=az hT.o;have hu:=an ((ay W6.heap.size W6).alloc (au _) (.cells #[.string (it.name), .int .i64 it.kind, .int .i64 it.mode, .int .i64 it.time, .slice none 0 0, .string it.link] 79));have Hd:=aD ((hu.o.cell (p:=⟨eb,0,none⟩) hH).trans hN) (aD ((hu.o.cell (p:=⟨wr.heap.size+1,0,none⟩) hb).trans d0) (aD ((hu.o.cell (p:=⟨wr.heap.size+1,1,none⟩) hb).trans d1) (aD ((hu.o.cell (p:=⟨wr.heap.size+1,2,none⟩) hb).trans d2) (aD ((hu.o.cell (p:=⟨wr.heap.size+1,3,none⟩) hb).trans d3) (aD ((hu.o.cell (p:=⟨wr.heap.size+1,4,none⟩) hb).trans d4) ((hu.o.cell (p:=⟨wr.heap.size+1,5,none⟩) hb).trans d5))))))
         have Hy:=an Hd;clear Hd;refine cy 5 rfl (fun K hK=> ?_);go_wp2_with fail
         (first | (refine⟨Hy.o, ?_⟩) | skip)
         refine cy 6 rfl (fun K hK=> ?_);have Yd:ys.length<4096:=by have h1:=h4.o; rw[<-Hc.o,aE]at h1; exact h1
         go_wp2_with (at_builtin; go_must (refine bR Tryz.appEnts rfl _ _ rfl base (.slice av ys.length cv2) ys.length (iw ys) rfl W6 [.string (it.name), .int .i64 it.kind, .int .i64 it.mode, .int .i64 it.time, .slice none 0 0, .string it.link] _ rfl rfl (kU (e:=⟨it.name,it.kind,it.mode,it.time,[],it.link⟩)) hg.o (by omega) (by omega) ?_); intro v' wc hh ha _ Hg; obtain⟨ae,ce,rfl,-,-⟩:=aI hh)
         have hI:(Value.slice av ys.length cv2).ownBlock≠some eb:=fun e=>by
          obtain⟨cs,hc⟩:=bL hg.o e;exact absurd (bV hf.o hc) (by decide)
         have hw: ∀i,(Value.slice av ys.length cv2).ownBlock=some i->i<wr.heap.size:=fun i e=>by
          obtain⟨_,ys',_,HL,_⟩:=hA.o.box;exact(HL.lt _ e).2
         have hL:(Value.slice av ys.length cv2).ownBlock≠some (wr.heap.size+1):=fun e=>by have:=hw _ e; omega
         have hJ:(Value.slice av ys.length cv2).ownBlock≠some wr.heap.size:=fun e=>by have:=hw _ e; omega
         have hv:=(ha.block eb hH (fun e=>hI e.symm)).trans hf.o;have h0:=(ha.block (wr.heap.size+1) hb (fun e=>hL e.symm)).trans hT.o;have Hi:=(ha.block wr.heap.size (az Hb.o) (fun e=>hJ e.symm)).trans Hb.o;have he:=lm.push (e:=⟨it.name,it.kind,it.mode,it.time,[],it.link⟩) hf.o hg.o hF.o hQ.o hh ha Hg H3 hP.o
         rw[Hc.o]at he;have ho:=an (hR.o.step he.1 he.2);have hS:=an ((aF wc ⟨eb,0,none⟩ (.slice ae (ys.length+1) ce) wr.heap.size (by show wr.heap.size≠eb; have:=hA.o.lo; have:=hA.o.ord; omega)).trans Hi);have hU:=an ((aF wc ⟨eb,0,none⟩ (.slice ae (ys.length+1) ce) (wr.heap.size+1) (by show wr.heap.size+1≠eb; have:=hA.o.lo; have:=hA.o.ord; omega)).trans h0)
         have c0':=aA (k:=0) hv;have f0':=dy (k:=0) hv;obtain⟨y0,y1,y2,y3,y4,y5,_⟩:=aT h0;simp only[ak,aj]at c0';clear hh ha Hg he hI hL hJ hw hN d0 d1 d2 d3 d4 d5 f1 hv h0 Hi;refine⟨⟨c0',y0,y1,y2,y3,y4,y5⟩, ?_⟩;refine cF rfl (by kernel_rfl) (fun _ _ _ h=>h) rfl ⟨c0',y0,y1,y2,y3,y4,y5⟩ (by rintro w' ⟨HP,HQ,HR,HS,HT,HU,HV⟩; go_simp; rfl) ?_
         simp only[Act.put,ag,ai,ah];refine cH (by kernel_rfl) ?_;refine eJ rfl rfl (fun K hK=> ?_)
         go_upto_region 16 with(fail)
         obtain⟨W8,He⟩: ∃W8:World,W8=wc.setCell ⟨eb,0,none⟩ (.slice ae (ys.length+1) ce):=⟨_,rfl⟩;rw[<-He]at ho hS hU ⊢;clear He c0' f0' y0 y1 y2 y3 y4 y5;have HX:=hS;have HY:=hU;clear hS hU;obtain⟨c0,c1,_⟩:=aT HX.o;have c6:=aA (k:=6) HX.o;have c7:=aA (k:=7) HX.o;have c8:=aA (k:=8) HX.o;have c9:=aA (k:=9) HX.o;obtain⟨d0,d1,d2,d3,d4,d5,_⟩:=aT HY.o
         simp only[ak,am,aj]at c6 c7 c8 c9;go_wp2_with fail;go_ret;rw[<-Hn.o,Hs.o,h7.o];exact⟨rfl,_,ho.o.box,ho.o.kp⟩
        | ok bs=>
         rw[Hv]at Hp;have Hk:=an Hp;have H4:=an Hv;clear Hp Hv;go_wp2_with fail;refine Hk.o.mono ?_;rintro e w5 ⟨hX,v5,rfl,H9⟩;obtain⟨a5,c5,rfl,-,-⟩:=aI H9;have y7:=an H9;clear H9;have HW:=dV hX HX.o;have hZ:=dV hX HY.o;have HB:=an hZ;have d4':=aA (k:=4) hZ;have f4':=dy (k:=4) hZ;simp only[ak,am,aj]at d4'
         clear e0 c0 c1 c6 c7 c8 c9 d0 d1 d2 d3 d4 d5;go_wp2_with fail;obtain⟨W5,hM⟩: ∃W5:World,W5=w5.setCell ⟨wr.heap.size+1,4,none⟩ (.slice a5 bs.length c5):=⟨_,rfl⟩;rw[<-hM];have y8:=an hM;have Hz:=an ((show W5.heap[wr.heap.size]? =w5.heap[wr.heap.size]? from by rw[hM,aF _ _ _ _ (by show wr.heap.size≠wr.heap.size+1; omega)]).trans HW);have Ha:=jf (k:=4) hZ (.slice a5 bs.length c5)
         simp only[ag,ai,ah]at Ha;rw[<-hM]at Ha;have HC:=an Ha;have hl:=an (show vi w (w.heap.size+1) w1.heap.size base eb v (.slice (some ⟨b,o,none⟩) m cap1) l W5 v2 acc2 from hA.o.below (by rw[hM]; exact cC (H1.o.trans (hX.mono H1.o.size)) (by show wr.heap.size<=wr.heap.size+1; omega) _) Hw.o)
         have hE:=an (show base<=W5.heap.size from aB h3.o (by rw[hM]; have:=hX.size; simpa [World.setCell]using this));clear hM HW hZ Ha d4' f4' HX HY hX;have HX:=Hz;have HY:=HC;clear Hz HC;have Hx:=an (show W5.ownsRow base 5 1 (.slice a5 bs.length c5) bs.length (bs.map aY)from by
          rw[y8.o];refine(fT y7.o h3.o).kept (cJ w5 _ _ _) (.inr (fun e=> ?_));obtain⟨cs2,Yl⟩:=bL y7.o e;exact absurd (bV HB.o Yl) (by decide))
         have h7:=an (sx (cs:=cs) (rec:=iz cs n) (r:=l.drop (k+1)) Hu.o h8.o h4.o H2.o H4.o);obtain⟨ys,Hj,hz,hG⟩:=hl.o.box.2;obtain⟨av,cv2,HN,Yc,Yb⟩:=aI hz;have hD:=an hl.o.box.1;have hs:=an hz;have hp:=an hG
         have Hc:=an Hj;subst HN;clear Hj hz hG
         obtain⟨W6,hV⟩: ∃W6:World,W6=(W5).drew:=⟨_,rfl⟩;have hj:Below (W5).heap.size (W5) W6:=by rw[hV]; exact(ay _ _).drew
         have yp:=an hj;have Hb:=an (dV hj HX.o);have hT:=an (dV hj HY.o);have hf:=an (dV hj hD.o);have hg:=an (cU hs.o hj);have hF:=an (fun y hy=>cU (hp.o y hy) hj);have hQ:=an (cU (Hx).out hj);have hR:=an (hl.o.below hj hE.o);have hY:=aB hE.o hj.size;have hP:=an hY;clear hj HX HY hl hD hs hp
         have hN:=aA (k:=0) hf.o;obtain⟨d0,d1,d2,d3,d4,d5,_⟩:=aT hT.o;have f1:=dy (k:=0) hf.o;simp only[ak,aj]at hN;refine ey (fun w'=>w'.cell? ⟨eb,0,none⟩=some (.slice av ys.length cv2)/\w'.cell? ⟨wr.heap.size+1,0,none⟩=some (.string (it.name))/\w'.cell? ⟨wr.heap.size+1,1,none⟩=some (.int .i64 it.kind)/\w'.cell? ⟨wr.heap.size+1,2,none⟩=some (.int .i64 it.mode)/\w'.cell? ⟨wr.heap.size+1,3,none⟩=some (.int .i64 it.time)/\w'.cell? ⟨wr.heap.size+1,4,none⟩=some (.slice a5 bs.length c5)/\w'.cell? ⟨wr.heap.size+1,5,none⟩=some (.string it.link)) (by kernel_rfl) (by kernel_rfl) ?_
         simp only[bw,bz,aG,bo,Nat.reduceAdd,Nat.reduceSub];rw[<-hV];clear hV
         iterate 5 (refine cF rfl (by kernel_rfl) (fun _ _ _ h=>h) rfl ⟨hN,d0,d1,d2,d3,d4,d5⟩ (by rintro w' ⟨HP,HQ,HR,HS,HT,HU,HV⟩; go_simp; rfl) ?_; simp only[Act.put,ag,ai,ah])
         have hH:eb<W6.heap.size:=az hf.o;have hb:wr.heap.size+1<W6.heap.size:=az hT.o;have hu:=an ((ay W6.heap.size W6).alloc (au _) (.cells #[.string (it.name), .int .i64 it.kind, .int .i64 it.mode, .int .i64 it.time, .slice a5 bs.length c5, .string it.link] 79));have Hd:=aD ((hu.o.cell (p:=⟨eb,0,none⟩) hH).trans hN) (aD ((hu.o.cell (p:=⟨wr.heap.size+1,0,none⟩) hb).trans d0) (aD ((hu.o.cell (p:=⟨wr.heap.size+1,1,none⟩) hb).trans d1) (aD ((hu.o.cell (p:=⟨wr.heap.size+1,2,none⟩) hb).trans d2) (aD ((hu.o.cell (p:=⟨wr.heap.size+1,3,none⟩) hb).trans d3) (aD ((hu.o.cell (p:=⟨wr.heap.size+1,4,none⟩) hb).trans d4) ((hu.o.cell (p:=⟨wr.heap.size+1,5,none⟩) hb).trans d5))))))
         have Hy:=an Hd;clear Hd;refine cy 5 rfl (fun K hK=> ?_);go_wp2_with fail
         (first | (refine⟨Hy.o, ?_⟩) | skip)
         refine cy 6 rfl (fun K hK=> ?_);have Yd:ys.length<4096:=by have h1:=h4.o; rw[<-Hc.o,aE]at h1; exact h1
         go_wp2_with (at_builtin; go_must (refine bR Tryz.appEnts rfl _ _ rfl base (.slice av ys.length cv2) ys.length (iw ys) rfl W6 [.string (it.name), .int .i64 it.kind, .int .i64 it.mode, .int .i64 it.time, .slice a5 bs.length c5, .string it.link] _ rfl rfl (kU (e:=⟨it.name,it.kind,it.mode,it.time,bs,it.link⟩)) hg.o (by omega) (by omega) ?_); intro v' wc hh ha _ Hg; obtain⟨ae,ce,rfl,-,-⟩:=aI hh)
         have hI:(Value.slice av ys.length cv2).ownBlock≠some eb:=fun e=>by
          obtain⟨cs,hc⟩:=bL hg.o e;exact absurd (bV hf.o hc) (by decide)
         have hw: ∀i,(Value.slice av ys.length cv2).ownBlock=some i->i<wr.heap.size:=fun i e=>by
          obtain⟨_,ys',_,HL,_⟩:=hA.o.box;exact(HL.lt _ e).2
         have hL:(Value.slice av ys.length cv2).ownBlock≠some (wr.heap.size+1):=fun e=>by have:=hw _ e; omega
         have hJ:(Value.slice av ys.length cv2).ownBlock≠some wr.heap.size:=fun e=>by have:=hw _ e; omega
         have hv:=(ha.block eb hH (fun e=>hI e.symm)).trans hf.o;have h0:=(ha.block (wr.heap.size+1) hb (fun e=>hL e.symm)).trans hT.o;have Hi:=(ha.block wr.heap.size (az Hb.o) (fun e=>hJ e.symm)).trans Hb.o;have he:=lm.push (e:=⟨it.name,it.kind,it.mode,it.time,bs,it.link⟩) hf.o hg.o hF.o hQ.o hh ha Hg H3 hP.o
         rw[Hc.o]at he;have ho:=an (hR.o.step he.1 he.2);have hS:=an ((aF wc ⟨eb,0,none⟩ (.slice ae (ys.length+1) ce) wr.heap.size (by show wr.heap.size≠eb; have:=hA.o.lo; have:=hA.o.ord; omega)).trans Hi);have hU:=an ((aF wc ⟨eb,0,none⟩ (.slice ae (ys.length+1) ce) (wr.heap.size+1) (by show wr.heap.size+1≠eb; have:=hA.o.lo; have:=hA.o.ord; omega)).trans h0)
         have c0':=aA (k:=0) hv;have f0':=dy (k:=0) hv;obtain⟨y0,y1,y2,y3,y4,y5,_⟩:=aT h0;simp only[ak,aj]at c0';clear hh ha Hg he hI hL hJ hw hN d0 d1 d2 d3 d4 d5 f1 hv h0 Hi;refine⟨⟨c0',y0,y1,y2,y3,y4,y5⟩, ?_⟩;refine cF rfl (by kernel_rfl) (fun _ _ _ h=>h) rfl ⟨c0',y0,y1,y2,y3,y4,y5⟩ (by rintro w' ⟨HP,HQ,HR,HS,HT,HU,HV⟩; go_simp; rfl) ?_
         simp only[Act.put,ag,ai,ah];refine cH (by kernel_rfl) ?_;refine eJ rfl rfl (fun K hK=> ?_)
         go_upto_region 16 with(fail)
         obtain⟨W8,He⟩: ∃W8:World,W8=wc.setCell ⟨eb,0,none⟩ (.slice ae (ys.length+1) ce):=⟨_,rfl⟩;rw[<-He]at ho hS hU ⊢;clear He c0' f0' y0 y1 y2 y3 y4 y5;have HX:=hS;have HY:=hU;clear hS hU;obtain⟨c0,c1,_⟩:=aT HX.o;have c6:=aA (k:=6) HX.o;have c7:=aA (k:=7) HX.o;have c8:=aA (k:=8) HX.o;have c9:=aA (k:=9) HX.o;obtain⟨d0,d1,d2,d3,d4,d5,_⟩:=aT HY.o
         simp only[ak,am,aj]at c6 c7 c8 c9;go_wp2_with fail;clear c0 c1 c6 c7 c8 c9 d0 d1 d2 d3 d4 d5
         go_roundw
         case rel=>exact⟨k+1,_,_,by omega,by go_num,by rw[<-Hn.o,Hs.o,h7.o],ho.o⟩
         case measure=>simp[intOf]; omega
       ·have e1:(it.kind == 1)=false:=by simp[Hf]
        have H2:=an Hf;clear Hf;have hl:=hC;have hE:=h3;have Hx:=an (bN w2 base 5 1);go_wp2_with fail;clear e0 c0 c1 c6 c7 c8 c9 d0 d1 d2 d3 d4 d5;obtain⟨ys,Hj,hz,hG⟩:=hl.o.box.2;obtain⟨av,cv2,HN,Yc,Yb⟩:=aI hz;have hD:=an hl.o.box.1;have hs:=an hz;have hp:=an hG
        have Hc:=an Hj;subst HN;clear Hj hz hG
        obtain⟨W6,hV⟩: ∃W6:World,W6=(w2).drew:=⟨_,rfl⟩;have hj:Below (w2).heap.size (w2) W6:=by rw[hV]; exact(ay _ _).drew
        have yp:=an hj;have Hb:=an (dV hj HX.o);have hT:=an (dV hj HY.o);have hf:=an (dV hj hD.o);have hg:=an (cU hs.o hj);have hF:=an (fun y hy=>cU (hp.o y hy) hj);have hQ:=an (cU (Hx).out hj);have hR:=an (hl.o.below hj hE.o);have hY:=aB hE.o hj.size;have hP:=an hY;clear hj HX HY hl hD hs hp
        have hN:=aA (k:=0) hf.o;obtain⟨d0,d1,d2,d3,d4,d5,_⟩:=aT hT.o;have f1:=dy (k:=0) hf.o;simp only[ak,aj]at hN;refine ey (fun w'=>w'.cell? ⟨eb,0,none⟩=some (.slice av ys.length cv2)/\w'.cell? ⟨wr.heap.size+1,0,none⟩=some (.string (it.name))/\w'.cell? ⟨wr.heap.size+1,1,none⟩=some (.int .i64 it.kind)/\w'.cell? ⟨wr.heap.size+1,2,none⟩=some (.int .i64 it.mode)/\w'.cell? ⟨wr.heap.size+1,3,none⟩=some (.int .i64 it.time)/\w'.cell? ⟨wr.heap.size+1,4,none⟩=some (.slice none 0 0)/\w'.cell? ⟨wr.heap.size+1,5,none⟩=some (.string it.link)) (by kernel_rfl) (by kernel_rfl) ?_
        simp only[bw,bz,aG,bo,Nat.reduceAdd,Nat.reduceSub];rw[<-hV];clear hV
        iterate 5 (refine cF rfl (by kernel_rfl) (fun _ _ _ h=>h) rfl ⟨hN,d0,d1,d2,d3,d4,d5⟩ (by rintro w' ⟨HP,HQ,HR,HS,HT,HU,HV⟩; go_simp; rfl) ?_; simp only[Act.put,ag,ai,ah])
        have hH:eb<W6.heap.size:=az hf.o;have hb:wr.heap.size+1<W6.heap.size:=az hT.o;have hu:=an ((ay W6.heap.size W6).alloc (au _) (.cells #[.string (it.name), .int .i64 it.kind, .int .i64 it.mode, .int .i64 it.time, .slice none 0 0, .string it.link] 79));have Hd:=aD ((hu.o.cell (p:=⟨eb,0,none⟩) hH).trans hN) (aD ((hu.o.cell (p:=⟨wr.heap.size+1,0,none⟩) hb).trans d0) (aD ((hu.o.cell (p:=⟨wr.heap.size+1,1,none⟩) hb).trans d1) (aD ((hu.o.cell (p:=⟨wr.heap.size+1,2,none⟩) hb).trans d2) (aD ((hu.o.cell (p:=⟨wr.heap.size+1,3,none⟩) hb).trans d3) (aD ((hu.o.cell (p:=⟨wr.heap.size+1,4,none⟩) hb).trans d4) ((hu.o.cell (p:=⟨wr.heap.size+1,5,none⟩) hb).trans d5))))))
        have Hy:=an Hd;clear Hd;refine cy 5 rfl (fun K hK=> ?_);go_wp2_with fail
        (first | (refine⟨Hy.o, ?_⟩) | skip)
        refine cy 6 rfl (fun K hK=> ?_);have Yd:ys.length<4096:=by have h1:=h4.o; rw[<-Hc.o,aE]at h1; exact h1
        go_wp2_with (at_builtin; go_must (refine bR Tryz.appEnts rfl _ _ rfl base (.slice av ys.length cv2) ys.length (iw ys) rfl W6 [.string (it.name), .int .i64 it.kind, .int .i64 it.mode, .int .i64 it.time, .slice none 0 0, .string it.link] _ rfl rfl (kU (e:=⟨it.name,it.kind,it.mode,it.time,[],it.link⟩)) hg.o (by omega) (by omega) ?_); intro v' wc hh ha _ Hg; obtain⟨ae,ce,rfl,-,-⟩:=aI hh)
        have hI:(Value.slice av ys.length cv2).ownBlock≠some eb:=fun e=>by
         obtain⟨cs,hc⟩:=bL hg.o e;exact absurd (bV hf.o hc) (by decide)
        have hw: ∀i,(Value.slice av ys.length cv2).ownBlock=some i->i<wr.heap.size:=fun i e=>by
         obtain⟨_,ys',_,HL,_⟩:=hA.o.box;exact(HL.lt _ e).2
        have hL:(Value.slice av ys.length cv2).ownBlock≠some (wr.heap.size+1):=fun e=>by have:=hw _ e; omega
        have hJ:(Value.slice av ys.length cv2).ownBlock≠some wr.heap.size:=fun e=>by have:=hw _ e; omega
        have hv:=(ha.block eb hH (fun e=>hI e.symm)).trans hf.o;have h0:=(ha.block (wr.heap.size+1) hb (fun e=>hL e.symm)).trans hT.o;have Hi:=(ha.block wr.heap.size (az Hb.o) (fun e=>hJ e.symm)).trans Hb.o;have he:=lm.push (e:=⟨it.name,it.kind,it.mode,it.time,[],it.link⟩) hf.o hg.o hF.o hQ.o hh ha Hg H3 hP.o
        rw[Hc.o]at he;have ho:=an (hR.o.step he.1 he.2);have hS:=an ((aF wc ⟨eb,0,none⟩ (.slice ae (ys.length+1) ce) wr.heap.size (by show wr.heap.size≠eb; have:=hA.o.lo; have:=hA.o.ord; omega)).trans Hi);have hU:=an ((aF wc ⟨eb,0,none⟩ (.slice ae (ys.length+1) ce) (wr.heap.size+1) (by show wr.heap.size+1≠eb; have:=hA.o.lo; have:=hA.o.ord; omega)).trans h0)
        have c0':=aA (k:=0) hv;have f0':=dy (k:=0) hv;obtain⟨y0,y1,y2,y3,y4,y5,_⟩:=aT h0;simp only[ak,aj]at c0';clear hh ha Hg he hI hL hJ hw hN d0 d1 d2 d3 d4 d5 f1 hv h0 Hi;refine⟨⟨c0',y0,y1,y2,y3,y4,y5⟩, ?_⟩;refine cF rfl (by kernel_rfl) (fun _ _ _ h=>h) rfl ⟨c0',y0,y1,y2,y3,y4,y5⟩ (by rintro w' ⟨HP,HQ,HR,HS,HT,HU,HV⟩; go_simp; rfl) ?_
        simp only[Act.put,ag,ai,ah];refine cH (by kernel_rfl) ?_;refine eJ rfl rfl (fun K hK=> ?_)
        go_upto_region 16 with(fail)
        obtain⟨W8,He⟩: ∃W8:World,W8=wc.setCell ⟨eb,0,none⟩ (.slice ae (ys.length+1) ce):=⟨_,rfl⟩;rw[<-He]at ho hS hU ⊢;clear He c0' f0' y0 y1 y2 y3 y4 y5;have HX:=hS;have HY:=hU;clear hS hU;obtain⟨c0,c1,_⟩:=aT HX.o;have c6:=aA (k:=6) HX.o;have c7:=aA (k:=7) HX.o;have c8:=aA (k:=8) HX.o;have c9:=aA (k:=9) HX.o;obtain⟨d0,d1,d2,d3,d4,d5,_⟩:=aT HY.o
        simp only[ak,am,aj]at c6 c7 c8 c9
        by_cases Hq:it.kind=2
        ·have e2:(it.kind == 2)=true:=by simp[Hq]
         have Hr:=Yq.o (it.name) it.node (acc2++[⟨it.name,it.kind,it.mode,it.time,[],it.link⟩]) base eb _ W8 (by have h1:=uV dir it.name H0; rw[Hu.o]at h1; omega) (.inr h8.o) ho.o.box HO.o.nd (HI.o.keepL ho.o.kp.below hB) hB H3 (aB Ht ho.o.kp.below.size);have h7:=an (ul (cs:=cs) (rec:=iz cs n) (r:=l.drop (k+1)) Hu.o h8.o h4.o Hq)
         obtain⟨q,hq⟩: ∃q,q=iz cs n (it.name) it.node (acc2++[⟨it.name,it.kind,it.mode,it.time,[],it.link⟩]):=⟨_,rfl⟩;rw[<-hq]at Hr h7;have H6:=an Hr;clear Hr hq Hq;go_wp2_with fail;refine H6.o.mono ?_;rintro e w9 ⟨rfl,v9,HG,HJ⟩;have Hm:=an (ho.o.step HG HJ);clear HG HJ c0 c1 c6 c7 c8 c9 d0 d1 d2 d3 d4 d5
         by_cases hx:q.1=0
         ·have e3:(q.1 != 0)=false:=by simp[hx]
          have H5:=an hx;clear hx;go_wp2_with fail
          go_roundw
          case rel=>exact⟨k+1,v9,q.2,by omega,by go_num,by rw[<-Hn.o,Hs.o,h7.o,if_pos H5.o],Hm.o⟩
          case measure=>simp[intOf]; omega
         ·have e3:(q.1 != 0)=true:=by simp[hx]
          have H5:=an hx;clear hx;go_wp2_with fail;go_ret;rw[<-Hn.o,Hs.o,h7.o,if_neg H5.o];exact⟨rfl,v9,Hm.o.box,Hm.o.kp⟩
        ·have e2:(it.kind == 2)=false:=by simp[Hq]
         have h7:=an (xF (cs:=cs) (rec:=iz cs n) (r:=l.drop (k+1)) Hu.o h8.o h4.o Hq H2.o);clear Hq;go_wp2_with fail;clear c0 c1 c6 c7 c8 c9 d0 d1 d2 d3 d4 d5
         go_roundw
         case rel=>exact⟨k+1,_,_,by omega,by go_num,by rw[<-Hn.o,Hs.o,h7.o],ho.o⟩
         case measure=>simp[intOf]; omega
      ·have Ym: ¬(acc2.length:Int)<4096:=by omega
       have h4:=an hO;clear hO;go_wp2_with fail;go_ret;have h1:=Hn.o;rw[Hs.o,jz,if_neg (fun h=>h4.o h.2)]at h1;rw[<-h1];exact⟨rfl,v2,hC.o.box,hC.o.kp⟩
    ·have e2:dir.toList≠[]:=by rw[eB]; intro h; apply Yg; rw[bi,h]; rfl
     have e3:dir.toList.isEmpty=false:=by simpa using e2
     have Yx:jS dir it.name=dir++⟨#[47]⟩++it.name:=by unfold jS; rw[if_neg Yg]
     go_wp2_with fail;rw[<-Yx];obtain⟨pt,Yn⟩: ∃pt,jS dir it.name=pt:=⟨_,rfl⟩;have Hu:=an Yn;rw[Yn];clear Yn Yx;obtain⟨W,hW⟩: ∃W,W=(wr.alloc (.cells #[.string it.name, .int .i64 it.kind, .int .i64 it.mode, .int .i64 it.time, .int .i64 it.size, .string it.link, .slice ca it.chunks.length cc, .string it.node.name, .int .i64 it.node.gen, .int .i64 it.node.size] 28)).alloc (.cells #[.string (pt), .int .i64 it.kind, .int .i64 it.mode, .int .i64 it.time, .slice none 0 0, .string it.link] 79):=⟨_,rfl⟩
     rw[<-hW];have Ho:=an (show Below wr.heap.size wr W by rw[hW]; exact(eN).alloc (by simp) _);have y9:=an (show W.heap[wr.heap.size]? =some (.cells #[.string it.name, .int .i64 it.kind, .int .i64 it.mode, .int .i64 it.time, .int .i64 it.size, .string it.link, .slice ca it.chunks.length cc, .string it.node.name, .int .i64 it.node.gen, .int .i64 it.node.size] 28 (0,0)) by rw[hW]; exact mT (dY wr _) _)
     have HB:=an (show W.heap[wr.heap.size+1]? =some (.cells #[.string (pt), .int .i64 it.kind, .int .i64 it.mode, .int .i64 it.time, .slice none 0 0, .string it.link] 79 (0,0)) by rw[hW]; exact pL wr _ _);have Hl:=an (hA.o.below Ho.o Hw.o);have yv:=an (show og W from(HI.o.keepL (Hl.o.kp.below) hB).env);clear hW q0 q1 q2 q3 q4 q5 q6 q7 q8 q9
     cases h9:dB (bl (pt))with
     | false=>
      have h8:=an h9;clear h9;refine(mR (pt) false W yv.o h8.o).mono ?_;rintro e w2 ⟨rfl,h2⟩;have hC:=an (Hl.o.below h2 (aB Hw.o Ho.o.size));clear h2;go_wp2_with fail;go_ret;have h1:=Hn.o;rw[Hs.o,jz,if_neg (fun h=>by rw[Hu.o,h8.o]at h; cases h.1)]at h1;rw[<-h1];exact⟨rfl,v2,hC.o.box,hC.o.kp⟩
     | true=>
      have h8:=an h9;clear h9;refine(mR (pt) true W yv.o h8.o).mono ?_;rintro e w2 ⟨rfl,h2⟩;have hC:=an (Hl.o.below h2 (aB Hw.o Ho.o.size));have HX:=an (dV h2 y9.o);have HY:=an (dV h2 HB.o);have h3:=an (aB (aB Hw.o Ho.o.size) h2.size);have H7:=an (show dA (fun k=>w.heap.size+1<=k/\k<w1.heap.size) w2 (.slice ca it.chunks.length cc) it.chunks from cL.below (cL.below Ys.o (by omega) Ho.o (fun _ _ _ h=>h)) (by omega) h2 (fun _ _ _ h=>h))
      have H1:=an (Ho.o.trans (h2.mono Ho.o.size));clear h2 y9 HB;obtain⟨ys0,HZ,Hh,-⟩:=hC.o.box.2;obtain⟨av0,cv0,yb,yc,Yp⟩:=aI Hh;have HK:ys0.length=acc2.length:=by rw[<-HZ,aE]
      rw[HK]at yb yc;have e0:=aA (k:=0) hC.o.box.1;simp only[ak,aj]at e0;rw[yb]at e0;obtain⟨c0,c1,_⟩:=aT HX.o;have c6:=aA (k:=6) HX.o;have c7:=aA (k:=7) HX.o;have c8:=aA (k:=8) HX.o;have c9:=aA (k:=9) HX.o;obtain⟨d0,d1,d2,d3,d4,d5,_⟩:=aT HY.o;simp only[ak,am,aj]at c6 c7 c8 c9
      clear HZ Hh yb HK
      by_cases hO:acc2.length<4096
      ·have Ym:(acc2.length:Int)<4096:=by omega
       have h4:=an hO;clear hO
       by_cases Hf:it.kind=1
       ·have e1:(it.kind == 1)=true:=by simp[Hf]
        have H2:=an Hf;have e2:(it.kind == 2)=false:=by simp[Hf]
        have HF:=lw Hf (by have h:=Yt.o; unfold gO at h; rw[aJ]at h; exact h.2);have ya:=tI (l:=it.chunks) (by have:=Ye.o; omega) (fun r hr=>(HF.2.2.1 r hr).1) _ (au _);rw[dg]at ya;have Hp:=qA (fun _=>True) cv (.slice ca it.chunks.length cc) cs it.chunks w2 (fU.wide (HI.o.keepL hC.o.kp.below hB).cont) (dA.same H7.o (fun k _ _=>⟨trivial,rfl⟩)) ya.1 (by rw[<-HF.2.2.2.1]; exact HF.2.2.2.2) (by have:=Ye.o; omega) (fun r hr=>(HF.2.2.1 r hr).1)
        unfold vw at Hp;clear Hf HF ya
        cases Hv:kL cs it.chunks []with
        | error x=>
         rw[Hv]at Hp;have Hk:=an Hp;have H4:=an Hv;clear Hp Hv;go_wp2_with fail;refine Hk.o.mono ?_;rintro e w5 ⟨hX,rfl,hx⟩;have HW:=dV hX HX.o;have hZ:=dV hX HY.o;have HB:=an hZ;have d4':=aA (k:=4) hZ;have f4':=dy (k:=4) hZ;simp only[ak,am,aj]at d4';clear e0 c0 c1 c6 c7 c8 c9 d0 d1 d2 d3 d4 d5
         go_wp2_with fail;obtain⟨W5,hM⟩: ∃W5:World,W5=w5.setCell ⟨wr.heap.size+1,4,none⟩ (.slice none 0 0):=⟨_,rfl⟩;rw[<-hM];have y8:=an hM;have Hz:=an ((show W5.heap[wr.heap.size]? =w5.heap[wr.heap.size]? from by rw[hM,aF _ _ _ _ (by show wr.heap.size≠wr.heap.size+1; omega)]).trans HW);have Ha:=jf (k:=4) hZ (.slice none 0 0);simp only[ag,ai,ah]at Ha
         rw[<-hM]at Ha;have HC:=an Ha;have hl:=an (show vi w (w.heap.size+1) w1.heap.size base eb v (.slice (some ⟨b,o,none⟩) m cap1) l W5 v2 acc2 from hA.o.below (by rw[hM]; exact cC (H1.o.trans (hX.mono H1.o.size)) (by show wr.heap.size<=wr.heap.size+1; omega) _) Hw.o);have hE:=an (show base<=W5.heap.size from aB h3.o (by rw[hM]; have:=hX.size; simpa [World.setCell]using this))
         clear hM HW hZ Ha d4' f4' HX HY hX;have HX:=Hz;have HY:=HC;clear Hz HC;have Hx:=an (bN W5 base 5 1);have e4:(x != 0)=true:=by simp[hx]
         have h7:=an (Al (cs:=cs) (rec:=iz cs n) (r:=l.drop (k+1)) Hu.o h8.o h4.o H2.o H4.o hx);clear hx;obtain⟨ys,Hj,hz,hG⟩:=hl.o.box.2;obtain⟨av,cv2,HN,Yc,Yb⟩:=aI hz;have hD:=an hl.o.box.1;have hs:=an hz;have hp:=an hG
         have Hc:=an Hj;subst HN;clear Hj hz hG
         obtain⟨W6,hV⟩: ∃W6:World,W6=(W5).drew:=⟨_,rfl⟩;have hj:Below (W5).heap.size (W5) W6:=by rw[hV]; exact(ay _ _).drew
         have yp:=an hj;have Hb:=an (dV hj HX.o);have hT:=an (dV hj HY.o);have hf:=an (dV hj hD.o);have hg:=an (cU hs.o hj);have hF:=an (fun y hy=>cU (hp.o y hy) hj);have hQ:=an (cU (Hx).out hj);have hR:=an (hl.o.below hj hE.o);have hY:=aB hE.o hj.size;have hP:=an hY;clear hj HX HY hl hD hs hp
         have hN:=aA (k:=0) hf.o;obtain⟨d0,d1,d2,d3,d4,d5,_⟩:=aT hT.o;have f1:=dy (k:=0) hf.o;simp only[ak,aj]at hN;refine ey (fun w'=>w'.cell? ⟨eb,0,none⟩=some (.slice av ys.length cv2)/\w'.cell? ⟨wr.heap.size+1,0,none⟩=some (.string (pt))/\w'.cell? ⟨wr.heap.size+1,1,none⟩=some (.int .i64 it.kind)/\w'.cell? ⟨wr.heap.size+1,2,none⟩=some (.int .i64 it.mode)/\w'.cell? ⟨wr.heap.size+1,3,none⟩=some (.int .i64 it.time)/\w'.cell? ⟨wr.heap.size+1,4,none⟩=some (.slice none 0 0)/\w'.cell? ⟨wr.heap.size+1,5,none⟩=some (.string it.link)) (by kernel_rfl) (by kernel_rfl) ?_
         simp only[bw,bz,aG,bo,Nat.reduceAdd,Nat.reduceSub];rw[<-hV];clear hV
         iterate 5 (refine cF rfl (by kernel_rfl) (fun _ _ _ h=>h) rfl ⟨hN,d0,d1,d2,d3,d4,d5⟩ (by rintro w' ⟨HP,HQ,HR,HS,HT,HU,HV⟩; go_simp; rfl) ?_; simp only[Act.put,ag,ai,ah])
         have hH:eb<W6.heap.size:=az hf.o;have hb:wr.heap.size+1<W6.heap.size:=az hT.o;have hu:=an ((ay W6.heap.size W6).alloc (au _) (.cells #[.string (pt), .int .i64 it.kind, .int .i64 it.mode, .int .i64 it.time, .slice none 0 0, .string it.link] 79));have Hd:=aD ((hu.o.cell (p:=⟨eb,0,none⟩) hH).trans hN) (aD ((hu.o.cell (p:=⟨wr.heap.size+1,0,none⟩) hb).trans d0) (aD ((hu.o.cell (p:=⟨wr.heap.size+1,1,none⟩) hb).trans d1) (aD ((hu.o.cell (p:=⟨wr.heap.size+1,2,none⟩) hb).trans d2) (aD ((hu.o.cell (p:=⟨wr.heap.size+1,3,none⟩) hb).trans d3) (aD ((hu.o.cell (p:=⟨wr.heap.size+1,4,none⟩) hb).trans d4) ((hu.o.cell (p:=⟨wr.heap.size+1,5,none⟩) hb).trans d5))))))
         have Hy:=an Hd;clear Hd;refine cy 5 rfl (fun K hK=> ?_);go_wp2_with fail
         (first | (refine⟨Hy.o, ?_⟩) | skip)
         refine cy 6 rfl (fun K hK=> ?_);have Yd:ys.length<4096:=by have h1:=h4.o; rw[<-Hc.o,aE]at h1; exact h1
         go_wp2_with (at_builtin; go_must (refine bR Tryz.appEnts rfl _ _ rfl base (.slice av ys.length cv2) ys.length (iw ys) rfl W6 [.string (pt), .int .i64 it.kind, .int .i64 it.mode, .int .i64 it.time, .slice none 0 0, .string it.link] _ rfl rfl (kU (e:=⟨pt,it.kind,it.mode,it.time,[],it.link⟩)) hg.o (by omega) (by omega) ?_); intro v' wc hh ha _ Hg; obtain⟨ae,ce,rfl,-,-⟩:=aI hh)
         have hI:(Value.slice av ys.length cv2).ownBlock≠some eb:=fun e=>by
          obtain⟨cs,hc⟩:=bL hg.o e;exact absurd (bV hf.o hc) (by decide)
         have hw: ∀i,(Value.slice av ys.length cv2).ownBlock=some i->i<wr.heap.size:=fun i e=>by
          obtain⟨_,ys',_,HL,_⟩:=hA.o.box;exact(HL.lt _ e).2
         have hL:(Value.slice av ys.length cv2).ownBlock≠some (wr.heap.size+1):=fun e=>by have:=hw _ e; omega
         have hJ:(Value.slice av ys.length cv2).ownBlock≠some wr.heap.size:=fun e=>by have:=hw _ e; omega
         have hv:=(ha.block eb hH (fun e=>hI e.symm)).trans hf.o;have h0:=(ha.block (wr.heap.size+1) hb (fun e=>hL e.symm)).trans hT.o;have Hi:=(ha.block wr.heap.size (az Hb.o) (fun e=>hJ e.symm)).trans Hb.o;have he:=lm.push (e:=⟨pt,it.kind,it.mode,it.time,[],it.link⟩) hf.o hg.o hF.o hQ.o hh ha Hg H3 hP.o;rw[Hc.o]at he
         have ho:=an (hR.o.step he.1 he.2);have hS:=an ((aF wc ⟨eb,0,none⟩ (.slice ae (ys.length+1) ce) wr.heap.size (by show wr.heap.size≠eb; have:=hA.o.lo; have:=hA.o.ord; omega)).trans Hi);have hU:=an ((aF wc ⟨eb,0,none⟩ (.slice ae (ys.length+1) ce) (wr.heap.size+1) (by show wr.heap.size+1≠eb; have:=hA.o.lo; have:=hA.o.ord; omega)).trans h0)
         have c0':=aA (k:=0) hv;have f0':=dy (k:=0) hv;obtain⟨y0,y1,y2,y3,y4,y5,_⟩:=aT h0;simp only[ak,aj]at c0';clear hh ha Hg he hI hL hJ hw hN d0 d1 d2 d3 d4 d5 f1 hv h0 Hi;refine⟨⟨c0',y0,y1,y2,y3,y4,y5⟩, ?_⟩;refine cF rfl (by kernel_rfl) (fun _ _ _ h=>h) rfl ⟨c0',y0,y1,y2,y3,y4,y5⟩ (by rintro w' ⟨HP,HQ,HR,HS,HT,HU,HV⟩; go_simp; rfl) ?_
         simp only[Act.put,ag,ai,ah];refine cH (by kernel_rfl) ?_;refine eJ rfl rfl (fun K hK=> ?_)
         go_upto_region 16 with(fail)
         obtain⟨W8,He⟩: ∃W8:World,W8=wc.setCell ⟨eb,0,none⟩ (.slice ae (ys.length+1) ce):=⟨_,rfl⟩;rw[<-He]at ho hS hU ⊢;clear He c0' f0' y0 y1 y2 y3 y4 y5;have HX:=hS;have HY:=hU;clear hS hU;obtain⟨c0,c1,_⟩:=aT HX.o;have c6:=aA (k:=6) HX.o;have c7:=aA (k:=7) HX.o;have c8:=aA (k:=8) HX.o;have c9:=aA (k:=9) HX.o;obtain⟨d0,d1,d2,d3,d4,d5,_⟩:=aT HY.o
         simp only[ak,am,aj]at c6 c7 c8 c9;go_wp2_with fail;go_ret;rw[<-Hn.o,Hs.o,h7.o];exact⟨rfl,_,ho.o.box,ho.o.kp⟩
        | ok bs=>
         rw[Hv]at Hp;have Hk:=an Hp;have H4:=an Hv;clear Hp Hv;go_wp2_with fail;refine Hk.o.mono ?_;rintro e w5 ⟨hX,v5,rfl,H9⟩;obtain⟨a5,c5,rfl,-,-⟩:=aI H9;have y7:=an H9;clear H9;have HW:=dV hX HX.o;have hZ:=dV hX HY.o;have HB:=an hZ;have d4':=aA (k:=4) hZ;have f4':=dy (k:=4) hZ;simp only[ak,am,aj]at d4'
         clear e0 c0 c1 c6 c7 c8 c9 d0 d1 d2 d3 d4 d5;go_wp2_with fail;obtain⟨W5,hM⟩: ∃W5:World,W5=w5.setCell ⟨wr.heap.size+1,4,none⟩ (.slice a5 bs.length c5):=⟨_,rfl⟩;rw[<-hM];have y8:=an hM;have Hz:=an ((show W5.heap[wr.heap.size]? =w5.heap[wr.heap.size]? from by rw[hM,aF _ _ _ _ (by show wr.heap.size≠wr.heap.size+1; omega)]).trans HW);have Ha:=jf (k:=4) hZ (.slice a5 bs.length c5)
         simp only[ag,ai,ah]at Ha;rw[<-hM]at Ha;have HC:=an Ha;have hl:=an (show vi w (w.heap.size+1) w1.heap.size base eb v (.slice (some ⟨b,o,none⟩) m cap1) l W5 v2 acc2 from hA.o.below (by rw[hM]; exact cC (H1.o.trans (hX.mono H1.o.size)) (by show wr.heap.size<=wr.heap.size+1; omega) _) Hw.o)
         have hE:=an (show base<=W5.heap.size from aB h3.o (by rw[hM]; have:=hX.size; simpa [World.setCell]using this));clear hM HW hZ Ha d4' f4' HX HY hX;have HX:=Hz;have HY:=HC;clear Hz HC;have Hx:=an (show W5.ownsRow base 5 1 (.slice a5 bs.length c5) bs.length (bs.map aY)from by
          rw[y8.o];refine(fT y7.o h3.o).kept (cJ w5 _ _ _) (.inr (fun e=> ?_));obtain⟨cs2,Yl⟩:=bL y7.o e;exact absurd (bV HB.o Yl) (by decide))
         have h7:=an (sx (cs:=cs) (rec:=iz cs n) (r:=l.drop (k+1)) Hu.o h8.o h4.o H2.o H4.o);obtain⟨ys,Hj,hz,hG⟩:=hl.o.box.2;obtain⟨av,cv2,HN,Yc,Yb⟩:=aI hz;have hD:=an hl.o.box.1;have hs:=an hz;have hp:=an hG
         have Hc:=an Hj;subst HN;clear Hj hz hG
         obtain⟨W6,hV⟩: ∃W6:World,W6=(W5).drew:=⟨_,rfl⟩;have hj:Below (W5).heap.size (W5) W6:=by rw[hV]; exact(ay _ _).drew
         have yp:=an hj;have Hb:=an (dV hj HX.o);have hT:=an (dV hj HY.o);have hf:=an (dV hj hD.o);have hg:=an (cU hs.o hj);have hF:=an (fun y hy=>cU (hp.o y hy) hj);have hQ:=an (cU (Hx).out hj);have hR:=an (hl.o.below hj hE.o);have hY:=aB hE.o hj.size;have hP:=an hY;clear hj HX HY hl hD hs hp
         have hN:=aA (k:=0) hf.o;obtain⟨d0,d1,d2,d3,d4,d5,_⟩:=aT hT.o;have f1:=dy (k:=0) hf.o;simp only[ak,aj]at hN;refine ey (fun w'=>w'.cell? ⟨eb,0,none⟩=some (.slice av ys.length cv2)/\w'.cell? ⟨wr.heap.size+1,0,none⟩=some (.string (pt))/\w'.cell? ⟨wr.heap.size+1,1,none⟩=some (.int .i64 it.kind)/\w'.cell? ⟨wr.heap.size+1,2,none⟩=some (.int .i64 it.mode)/\w'.cell? ⟨wr.heap.size+1,3,none⟩=some (.int .i64 it.time)/\w'.cell? ⟨wr.heap.size+1,4,none⟩=some (.slice a5 bs.length c5)/\w'.cell? ⟨wr.heap.size+1,5,none⟩=some (.string it.link)) (by kernel_rfl) (by kernel_rfl) ?_
         simp only[bw,bz,aG,bo,Nat.reduceAdd,Nat.reduceSub];rw[<-hV];clear hV
         iterate 5 (refine cF rfl (by kernel_rfl) (fun _ _ _ h=>h) rfl ⟨hN,d0,d1,d2,d3,d4,d5⟩ (by rintro w' ⟨HP,HQ,HR,HS,HT,HU,HV⟩; go_simp; rfl) ?_; simp only[Act.put,ag,ai,ah])
         have hH:eb<W6.heap.size:=az hf.o;have hb:wr.heap.size+1<W6.heap.size:=az hT.o;have hu:=an ((ay W6.heap.size W6).alloc (au _) (.cells #[.string (pt), .int .i64 it.kind, .int .i64 it.mode, .int .i64 it.time, .slice a5 bs.length c5, .string it.link] 79));have Hd:=aD ((hu.o.cell (p:=⟨eb,0,none⟩) hH).trans hN) (aD ((hu.o.cell (p:=⟨wr.heap.size+1,0,none⟩) hb).trans d0) (aD ((hu.o.cell (p:=⟨wr.heap.size+1,1,none⟩) hb).trans d1) (aD ((hu.o.cell (p:=⟨wr.heap.size+1,2,none⟩) hb).trans d2) (aD ((hu.o.cell (p:=⟨wr.heap.size+1,3,none⟩) hb).trans d3) (aD ((hu.o.cell (p:=⟨wr.heap.size+1,4,none⟩) hb).trans d4) ((hu.o.cell (p:=⟨wr.heap.size+1,5,none⟩) hb).trans d5))))))
         have Hy:=an Hd;clear Hd;refine cy 5 rfl (fun K hK=> ?_);go_wp2_with fail
         (first | (refine⟨Hy.o, ?_⟩) | skip)
         refine cy 6 rfl (fun K hK=> ?_);have Yd:ys.length<4096:=by have h1:=h4.o; rw[<-Hc.o,aE]at h1; exact h1
         go_wp2_with (at_builtin; go_must (refine bR Tryz.appEnts rfl _ _ rfl base (.slice av ys.length cv2) ys.length (iw ys) rfl W6 [.string (pt), .int .i64 it.kind, .int .i64 it.mode, .int .i64 it.time, .slice a5 bs.length c5, .string it.link] _ rfl rfl (kU (e:=⟨pt,it.kind,it.mode,it.time,bs,it.link⟩)) hg.o (by omega) (by omega) ?_); intro v' wc hh ha _ Hg; obtain⟨ae,ce,rfl,-,-⟩:=aI hh)
         have hI:(Value.slice av ys.length cv2).ownBlock≠some eb:=fun e=>by
          obtain⟨cs,hc⟩:=bL hg.o e;exact absurd (bV hf.o hc) (by decide)
         have hw: ∀i,(Value.slice av ys.length cv2).ownBlock=some i->i<wr.heap.size:=fun i e=>by
          obtain⟨_,ys',_,HL,_⟩:=hA.o.box;exact(HL.lt _ e).2
         have hL:(Value.slice av ys.length cv2).ownBlock≠some (wr.heap.size+1):=fun e=>by have:=hw _ e; omega
         have hJ:(Value.slice av ys.length cv2).ownBlock≠some wr.heap.size:=fun e=>by have:=hw _ e; omega
         have hv:=(ha.block eb hH (fun e=>hI e.symm)).trans hf.o;have h0:=(ha.block (wr.heap.size+1) hb (fun e=>hL e.symm)).trans hT.o;have Hi:=(ha.block wr.heap.size (az Hb.o) (fun e=>hJ e.symm)).trans Hb.o;have he:=lm.push (e:=⟨pt,it.kind,it.mode,it.time,bs,it.link⟩) hf.o hg.o hF.o hQ.o hh ha Hg H3 hP.o;rw[Hc.o]at he
         have ho:=an (hR.o.step he.1 he.2);have hS:=an ((aF wc ⟨eb,0,none⟩ (.slice ae (ys.length+1) ce) wr.heap.size (by show wr.heap.size≠eb; have:=hA.o.lo; have:=hA.o.ord; omega)).trans Hi);have hU:=an ((aF wc ⟨eb,0,none⟩ (.slice ae (ys.length+1) ce) (wr.heap.size+1) (by show wr.heap.size+1≠eb; have:=hA.o.lo; have:=hA.o.ord; omega)).trans h0)
         have c0':=aA (k:=0) hv;have f0':=dy (k:=0) hv;obtain⟨y0,y1,y2,y3,y4,y5,_⟩:=aT h0;simp only[ak,aj]at c0';clear hh ha Hg he hI hL hJ hw hN d0 d1 d2 d3 d4 d5 f1 hv h0 Hi;refine⟨⟨c0',y0,y1,y2,y3,y4,y5⟩, ?_⟩;refine cF rfl (by kernel_rfl) (fun _ _ _ h=>h) rfl ⟨c0',y0,y1,y2,y3,y4,y5⟩ (by rintro w' ⟨HP,HQ,HR,HS,HT,HU,HV⟩; go_simp; rfl) ?_
         simp only[Act.put,ag,ai,ah];refine cH (by kernel_rfl) ?_;refine eJ rfl rfl (fun K hK=> ?_)
         go_upto_region 16 with(fail)
         obtain⟨W8,He⟩: ∃W8:World,W8=wc.setCell ⟨eb,0,none⟩ (.slice ae (ys.length+1) ce):=⟨_,rfl⟩;rw[<-He]at ho hS hU ⊢;clear He c0' f0' y0 y1 y2 y3 y4 y5;have HX:=hS;have HY:=hU;clear hS hU;obtain⟨c0,c1,_⟩:=aT HX.o;have c6:=aA (k:=6) HX.o;have c7:=aA (k:=7) HX.o;have c8:=aA (k:=8) HX.o;have c9:=aA (k:=9) HX.o;obtain⟨d0,d1,d2,d3,d4,d5,_⟩:=aT HY.o
         simp only[ak,am,aj]at c6 c7 c8 c9;go_wp2_with fail;clear c0 c1 c6 c7 c8 c9 d0 d1 d2 d3 d4 d5
         go_roundw
         case rel=>exact⟨k+1,_,_,by omega,by go_num,by rw[<-Hn.o,Hs.o,h7.o],ho.o⟩
         case measure=>simp[intOf]; omega
       ·have e1:(it.kind == 1)=false:=by simp[Hf]
        have H2:=an Hf;clear Hf;have hl:=hC;have hE:=h3;have Hx:=an (bN w2 base 5 1);go_wp2_with fail;clear e0 c0 c1 c6 c7 c8 c9 d0 d1 d2 d3 d4 d5;obtain⟨ys,Hj,hz,hG⟩:=hl.o.box.2;obtain⟨av,cv2,HN,Yc,Yb⟩:=aI hz;have hD:=an hl.o.box.1;have hs:=an hz;have hp:=an hG
        have Hc:=an Hj;subst HN;clear Hj hz hG
        obtain⟨W6,hV⟩: ∃W6:World,W6=(w2).drew:=⟨_,rfl⟩;have hj:Below (w2).heap.size (w2) W6:=by rw[hV]; exact(ay _ _).drew
        have yp:=an hj;have Hb:=an (dV hj HX.o);have hT:=an (dV hj HY.o);have hf:=an (dV hj hD.o);have hg:=an (cU hs.o hj);have hF:=an (fun y hy=>cU (hp.o y hy) hj);have hQ:=an (cU (Hx).out hj);have hR:=an (hl.o.below hj hE.o);have hY:=aB hE.o hj.size;have hP:=an hY;clear hj HX HY hl hD hs hp
        have hN:=aA (k:=0) hf.o;obtain⟨d0,d1,d2,d3,d4,d5,_⟩:=aT hT.o;have f1:=dy (k:=0) hf.o;simp only[ak,aj]at hN;refine ey (fun w'=>w'.cell? ⟨eb,0,none⟩=some (.slice av ys.length cv2)/\w'.cell? ⟨wr.heap.size+1,0,none⟩=some (.string (pt))/\w'.cell? ⟨wr.heap.size+1,1,none⟩=some (.int .i64 it.kind)/\w'.cell? ⟨wr.heap.size+1,2,none⟩=some (.int .i64 it.mode)/\w'.cell? ⟨wr.heap.size+1,3,none⟩=some (.int .i64 it.time)/\w'.cell? ⟨wr.heap.size+1,4,none⟩=some (.slice none 0 0)/\w'.cell? ⟨wr.heap.size+1,5,none⟩=some (.string it.link)) (by kernel_rfl) (by kernel_rfl) ?_
        simp only[bw,bz,aG,bo,Nat.reduceAdd,Nat.reduceSub];rw[<-hV];clear hV
        iterate 5 (refine cF rfl (by kernel_rfl) (fun _ _ _ h=>h) rfl ⟨hN,d0,d1,d2,d3,d4,d5⟩ (by rintro w' ⟨HP,HQ,HR,HS,HT,HU,HV⟩; go_simp; rfl) ?_; simp only[Act.put,ag,ai,ah])
        have hH:eb<W6.heap.size:=az hf.o;have hb:wr.heap.size+1<W6.heap.size:=az hT.o;have hu:=an ((ay W6.heap.size W6).alloc (au _) (.cells #[.string (pt), .int .i64 it.kind, .int .i64 it.mode, .int .i64 it.time, .slice none 0 0, .string it.link] 79));have Hd:=aD ((hu.o.cell (p:=⟨eb,0,none⟩) hH).trans hN) (aD ((hu.o.cell (p:=⟨wr.heap.size+1,0,none⟩) hb).trans d0) (aD ((hu.o.cell (p:=⟨wr.heap.size+1,1,none⟩) hb).trans d1) (aD ((hu.o.cell (p:=⟨wr.heap.size+1,2,none⟩) hb).trans d2) (aD ((hu.o.cell (p:=⟨wr.heap.size+1,3,none⟩) hb).trans d3) (aD ((hu.o.cell (p:=⟨wr.heap.size+1,4,none⟩) hb).trans d4) ((hu.o.cell (p:=⟨wr.heap.size+1,5,none⟩) hb).trans d5))))))
        have Hy:=an Hd;clear Hd;refine cy 5 rfl (fun K hK=> ?_);go_wp2_with fail
        (first | (refine⟨Hy.o, ?_⟩) | skip)
        refine cy 6 rfl (fun K hK=> ?_);have Yd:ys.length<4096:=by have h1:=h4.o; rw[<-Hc.o,aE]at h1; exact h1
        go_wp2_with (at_builtin; go_must (refine bR Tryz.appEnts rfl _ _ rfl base (.slice av ys.length cv2) ys.length (iw ys) rfl W6 [.string (pt), .int .i64 it.kind, .int .i64 it.mode, .int .i64 it.time, .slice none 0 0, .string it.link] _ rfl rfl (kU (e:=⟨pt,it.kind,it.mode,it.time,[],it.link⟩)) hg.o (by omega) (by omega) ?_); intro v' wc hh ha _ Hg; obtain⟨ae,ce,rfl,-,-⟩:=aI hh)
        have hI:(Value.slice av ys.length cv2).ownBlock≠some eb:=fun e=>by
         obtain⟨cs,hc⟩:=bL hg.o e;exact absurd (bV hf.o hc) (by decide)
        have hw: ∀i,(Value.slice av ys.length cv2).ownBlock=some i->i<wr.heap.size:=fun i e=>by
         obtain⟨_,ys',_,HL,_⟩:=hA.o.box;exact(HL.lt _ e).2
        have hL:(Value.slice av ys.length cv2).ownBlock≠some (wr.heap.size+1):=fun e=>by have:=hw _ e; omega
        have hJ:(Value.slice av ys.length cv2).ownBlock≠some wr.heap.size:=fun e=>by have:=hw _ e; omega
        have hv:=(ha.block eb hH (fun e=>hI e.symm)).trans hf.o;have h0:=(ha.block (wr.heap.size+1) hb (fun e=>hL e.symm)).trans hT.o;have Hi:=(ha.block wr.heap.size (az Hb.o) (fun e=>hJ e.symm)).trans Hb.o;have he:=lm.push (e:=⟨pt,it.kind,it.mode,it.time,[],it.link⟩) hf.o hg.o hF.o hQ.o hh ha Hg H3 hP.o;rw[Hc.o]at he
        have ho:=an (hR.o.step he.1 he.2);have hS:=an ((aF wc ⟨eb,0,none⟩ (.slice ae (ys.length+1) ce) wr.heap.size (by show wr.heap.size≠eb; have:=hA.o.lo; have:=hA.o.ord; omega)).trans Hi);have hU:=an ((aF wc ⟨eb,0,none⟩ (.slice ae (ys.length+1) ce) (wr.heap.size+1) (by show wr.heap.size+1≠eb; have:=hA.o.lo; have:=hA.o.ord; omega)).trans h0)
        have c0':=aA (k:=0) hv;have f0':=dy (k:=0) hv;obtain⟨y0,y1,y2,y3,y4,y5,_⟩:=aT h0;simp only[ak,aj]at c0';clear hh ha Hg he hI hL hJ hw hN d0 d1 d2 d3 d4 d5 f1 hv h0 Hi;refine⟨⟨c0',y0,y1,y2,y3,y4,y5⟩, ?_⟩;refine cF rfl (by kernel_rfl) (fun _ _ _ h=>h) rfl ⟨c0',y0,y1,y2,y3,y4,y5⟩ (by rintro w' ⟨HP,HQ,HR,HS,HT,HU,HV⟩; go_simp; rfl) ?_
        simp only[Act.put,ag,ai,ah];refine cH (by kernel_rfl) ?_;refine eJ rfl rfl (fun K hK=> ?_)
        go_upto_region 16 with(fail)
        obtain⟨W8,He⟩: ∃W8:World,W8=wc.setCell ⟨eb,0,none⟩ (.slice ae (ys.length+1) ce):=⟨_,rfl⟩;rw[<-He]at ho hS hU ⊢;clear He c0' f0' y0 y1 y2 y3 y4 y5;have HX:=hS;have HY:=hU;clear hS hU;obtain⟨c0,c1,_⟩:=aT HX.o;have c6:=aA (k:=6) HX.o;have c7:=aA (k:=7) HX.o;have c8:=aA (k:=8) HX.o;have c9:=aA (k:=9) HX.o;obtain⟨d0,d1,d2,d3,d4,d5,_⟩:=aT HY.o
        simp only[ak,am,aj]at c6 c7 c8 c9
        by_cases Hq:it.kind=2
        ·have e2:(it.kind == 2)=true:=by simp[Hq]
         have Hr:=Yq.o (pt) it.node (acc2++[⟨pt,it.kind,it.mode,it.time,[],it.link⟩]) base eb _ W8 (by have h1:=uV dir it.name H0; rw[Hu.o]at h1; omega) (.inr h8.o) ho.o.box HO.o.nd (HI.o.keepL ho.o.kp.below hB) hB H3 (aB Ht ho.o.kp.below.size);have h7:=an (ul (cs:=cs) (rec:=iz cs n) (r:=l.drop (k+1)) Hu.o h8.o h4.o Hq);obtain⟨q,hq⟩: ∃q,q=iz cs n (pt) it.node (acc2++[⟨pt,it.kind,it.mode,it.time,[],it.link⟩]):=⟨_,rfl⟩
         rw[<-hq]at Hr h7;have H6:=an Hr;clear Hr hq Hq;go_wp2_with fail;refine H6.o.mono ?_;rintro e w9 ⟨rfl,v9,HG,HJ⟩;have Hm:=an (ho.o.step HG HJ);clear HG HJ c0 c1 c6 c7 c8 c9 d0 d1 d2 d3 d4 d5
         by_cases hx:q.1=0
         ·have e3:(q.1 != 0)=false:=by simp[hx]
          have H5:=an hx;clear hx;go_wp2_with fail
          go_roundw
          case rel=>exact⟨k+1,v9,q.2,by omega,by go_num,by rw[<-Hn.o,Hs.o,h7.o,if_pos H5.o],Hm.o⟩
          case measure=>simp[intOf]; omega
         ·have e3:(q.1 != 0)=true:=by simp[hx]
          have H5:=an hx;clear hx;go_wp2_with fail;go_ret;rw[<-Hn.o,Hs.o,h7.o,if_neg H5.o];exact⟨rfl,v9,Hm.o.box,Hm.o.kp⟩
        ·have e2:(it.kind == 2)=false:=by simp[Hq]
         have h7:=an (xF (cs:=cs) (rec:=iz cs n) (r:=l.drop (k+1)) Hu.o h8.o h4.o Hq H2.o);clear Hq;go_wp2_with fail;clear c0 c1 c6 c7 c8 c9 d0 d1 d2 d3 d4 d5
         go_roundw
         case rel=>exact⟨k+1,_,_,by omega,by go_num,by rw[<-Hn.o,Hs.o,h7.o],ho.o⟩
         case measure=>simp[intOf]; omega
      ·have Ym: ¬(acc2.length:Int)<4096:=by omega
       have h4:=an hO;clear hO;go_wp2_with fail;go_ret;have h1:=Hn.o;rw[Hs.o,jz,if_neg (fun h=>h4.o h.2)]at h1;rw[<-h1];exact⟨rfl,v2,hC.o.box,hC.o.kp⟩
   ·have Hq:k=m:=by omega
    subst Hq;go_wp2_with fail;go_ret;have h1:=Hn.o;rw[HM.o,iW,jz]at h1;rw[<-h1];exact⟨rfl,v2,hA.o.box,hA.o.kp⟩
theorem CS (cs:List (ByteArray×List UInt8)) (cv:Value) (B:Nat): ∀n,FZ cs cv B n
 | 0=>Jg cs cv B
 | n+1=>Jf cs cv B n (CS cs cv B n)
def vu (B:Nat) (w:World) (v:Value) (acc:List dj):Prop:= ∃ys:List oV,ys.map Prod.snd=acc/\w.ownsRow B 79 6 v ys.length (iw ys)/\ ∀y∈ys,w.ownsRow B 5 1 y.1 y.2.data.length (y.2.data.map aY)
def AA (cs:List (ByteArray×List UInt8)) (root:cX) (w:World) (e:Ending) (w':World):Prop:=Below w.heap.size w w'/\match oz cs root with
 | .error x=>e= .returned (.tuple #[.slice none 0 0, .int .i64 x])/\x≠0
 | .ok l=> ∃v,e= .returned (.tuple #[v, .int .i64 0])/\vu w.heap.size w' v l
theorem uT (S:Nat->Prop) (cv:Value) (cs:List (ByteArray×List UInt8)) (root:cX) (w:World) (hc:fU S w cv cs) (henv:og w) (hr:eC root):Calls Tryz.prog 25 #[fa root,cv] w (AA cs root w):=by
 have hh:=an ((ay w.heap.size w).alloc (au _) (.cells #[.string root.name, .int .i64 root.gen, .int .i64 root.size] 26));have hw:=an (dY w (.cells #[.string root.name, .int .i64 root.gen, .int .i64 root.size] 26));have HI:=an (lE.start (hc.below hh.o) (henv.below hh.o));have HR:=an hr;unfold fa;clear hc henv hr
 cases hv:ld root
 ·have hl:=an hv;have HM:=an (show oz cs root= .error 1 by unfold oz; rw[if_neg (by rw[hv]; simp)]);clear hv
  go_enter Tryz.func25,Tryz.ntmps25
  go_wp2_with fail;refine(jp root false _ HR.o hl.o).mono ?_;rintro e w1 ⟨rfl,ha⟩;have hb:=an (aw hh.o ha);clear ha;go_wp2_with fail
  go_ret2
  exact⟨hb.o,by rw[HM.o]; exact⟨rfl,by decide⟩⟩
 ·have hl:=an hv;obtain⟨q,hq⟩: ∃q,q=iz cs 514 ⟨#[]⟩ root []:=⟨_,rfl⟩;have HM:=an (show oz cs root=if q.1=0 then .ok q.2 else .error q.1 by unfold oz; rw[if_pos hv,hq]);have HQ:=an hq;clear hv hq
  go_enter Tryz.func25,Tryz.ntmps25
  go_wp2_with fail;refine(jp root true _ HR.o hl.o).mono ?_;rintro e w1 ⟨rfl,ha⟩;have hb:=an (aw hh.o ha);have hk:=dV ha hw.o;have hz:=an hk;have hA:=az hk;have hp:=lE.keepL (base:=w1.heap.size) (HI.o.keepL ha (au _)) ((ay w1.heap.size w1).alloc (au _) (.cells #[.slice none 0 0] 46)) ha.size;have hm:=CS cs cv _ 514 ⟨#[]⟩ root [] w1.heap.size w1.heap.size (.slice none 0 0) (w1.alloc (.cells #[.slice none 0 0] 46)) (by simp) (.inl rfl)
   ⟨dY w1 _,[],rfl,bN _ _ _ _,by simp⟩ HR.o hp ha.size (au _) (by simp)
  rw[<-HQ.o]at hm;have ho:=an hm;unfold fa at ho;obtain⟨c0,c1,c2,_⟩:=aT hk;clear ha hk hm hp;go_wp2_with fail;refine ho.o.mono ?_;rintro e w2 ⟨rfl,v2,hd,hg⟩;obtain⟨ys,hs,he,hf⟩:=hd.2;obtain⟨a2,c2',rfl,-,-⟩:=aI he;have e0:=aA (k:=0) hd.1;simp only[ak,aj]at e0;have hn:=an (show Below w.heap.size w w2 from(hb.o.alloc hb.o.size (.cells #[.slice none 0 0] 46)).trans (hg.below.mono hb.o.size))
  have hu:=an (show vu w.heap.size w2 (.slice a2 ys.length c2') q.2 from⟨ys,hs,fT he hb.o.size,fun y hy=>fT (hf y hy) hb.o.size⟩);clear hd hg hs he hf c0 c1 c2
  by_cases hx:q.1=0
  ·have e1:(q.1 != 0)=false:=by simp[hx]
   have hj:=an hx;clear hx;go_wp2_with fail
   go_ret2
   exact⟨hn.o,by rw[HM.o,if_pos hj.o]; exact⟨_,rfl,hu.o⟩⟩
  ·have e1:(q.1 != 0)=true:=by simp[hx]
   have hj:=an hx;clear hx;go_wp2_with fail
   go_ret2
   exact⟨hn.o,by rw[HM.o,if_neg hj.o]; exact⟨rfl,hj.o⟩⟩
open Go Go.RowKit Go.Maps
structure rx (w : World) : Prop where
 env:og w
 envh:Az w
 deb:BC w
theorem rx.keep {B:Nat} {w w':World} (h:rx w) (hb:Below B w w') (h7:7<=B):rx w':=
 ⟨h.env.belowB hb (by omega) (by omega) (by omega),⟨fun j x hj=>(hb.cell (p:=⟨2,j,none⟩) (show 2<B by omega)).trans (h.envh.init j x hj),fun j x hj=>(hb.cell (p:=⟨5,j,none⟩) (show 5<B by omega)).trans (h.envh.kons j x hj),⟨(hb.cell (p:=⟨0,0,none⟩) (show 0<B by omega)).trans h.envh.pads.1,(hb.cell (p:=⟨0,1,none⟩) (show 0<B by omega)).trans h.envh.pads.2⟩,
  aR h.envh.ilt hb.size,aR h.envh.klt hb.size,aR h.envh.plt hb.size⟩,h.deb.block (hb.block _ (show 6<B by omega)) hb.size⟩
theorem rx.seven {w:World} (h:rx w):7<=w.heap.size:=by
 have:=h.deb.lt;omega
theorem rx.below {w w':World} (h:rx w) (hb:Below w.heap.size w w'):rx w':=h.keep hb h.seven
theorem Nt {a:Act} {w:World} {b:Nat} {x0 x1 x2 e5:Value} (h:w.heap[b]? =some (.cells #[x0,x1,x2] 26 (0,0)))
  (h4:a.tmps[4]? =some (.pointer (some ⟨b,0,none⟩))) (h5:a.tmps[5]? =some e5):(results Tryz.f123 a.tmps).run Tryz.prog w= .ok (.tuple #[.agg #[x0,x1,x2],e5]) w:=by
 obtain⟨m0,m1,m2,_⟩:=aT h;simp[results,Tryz.results123,go_sem,h4,h5,m0,m1,m2]
theorem vz {a:Act} {w:World} {b:Nat} {a0 a1 a2 x0 x1 x2 e5:Value} {Q:Ending->World->Prop} (h:w.heap[b]? =some (.cells #[a0,a1,a2] 26 (0,0)))
  (h4:a.tmps[4]? =some (.pointer (some ⟨b,0,none⟩))) (h5:a.tmps[5]? =some e5) (hd:a.defers=[])
  (hQ:Q (.returned (.tuple #[.agg #[x0,x1,x2],e5])) (((w.setCell ⟨b,0,none⟩ x0).setCell ⟨b,1,none⟩ x1).setCell ⟨b,2,none⟩ x2)):
  bodyPost Tryz.prog Tryz.f123 Q Exit.ret a (((w.setCell ⟨b,0,none⟩ x0).setCell ⟨b,1,none⟩ x1).setCell ⟨b,2,none⟩ x2):=cN (Nt (ve h) h4 h5) hd hQ
theorem jl.ofGrown {base bb kb:Nat} {v:Value} {w w':World} (h:w.grownBy w' (some kb)) (hb:base<=w.heap.size) (hk:base<=kb):jl base bb kb v v w w':=
 ⟨(ay base w).grown h hb (fun i e=>by cases e; exact hk),fun i h1 _ h3 _=>h.block i h1 (fun e=>h3 (bK e)),fun _ e=> .inl e⟩
theorem jl.setNew {base bb kb b j:Nat} {v v' u:Value} {w w':World} (h:jl base bb kb v v' w w') (hb:w.heap.size<=b) (hbz:base<=w.heap.size):jl base bb kb v v' w (w'.setCell ⟨b,j,none⟩ u):=
 ⟨cC h.below (show base<=b by omega) u,fun i h1 h2 h3 h4=>(aF _ _ _ _ (show i≠b by omega)).trans (h.same i h1 h2 h3 h4),h.place⟩
theorem kD.other {w w':World} {base bb im kb b:Nat} {k:dm} {c:fL} {gv v:Value} {bs:List dq} {cs:Array Value} {t:TypeId} {z:Nat×Nat} (h:kD w base bb k c gv im kb v bs) (hb:w.heap[b]? =some (.cells cs t z)) (h1:t≠122) (h2:t≠53) (h3:t≠5) (hs: ∀i,i≠b->i<w.heap.size->w'.heap[i]? =w.heap[i]?):kD w' base bb k c gv im kb v bs:=by
 obtain⟨zs,hz,hr,hd⟩:=h.own;refine⟨(hs bb (fun e=> ?_) (az h.box)).trans h.box,⟨zs,hz,eV hr (fun i hi hu=>hs i (fun e=> ?_) hi),fun y hy=>eV (hd y hy) (fun i hi hu=>hs i (fun e=> ?_) hi)⟩,h.known.same (hs kb (fun e=>h.known.cells (by rw[e]; exact hb)) h.known.map.lt)⟩
 ·subst e; exact h1 (bV hb h.box)
 ·subst e;obtain⟨cs2,ha⟩:=bL hr hu;exact h2 (bV hb ha)
 ·subst e;obtain⟨cs2,ha⟩:=bL (hd y hy) hu;exact h3 (bV hb ha)
theorem zX (gs:List (ByteArray×Int)) (hgs: ∀p∈gs,0<=p.2/\p.2<=1099511627776) (n:ByteArray):0<=mH gs n/\mH gs n<=1099511627776:=by
 unfold mH
 cases hf:gs.find? (fun p=>decide (p.1=n))with
 | none=>exact⟨by decide,by decide⟩
 | some p=>exact hgs p (dL hf)
theorem uC {S:Nat->Prop} {w:World} {v:Value} {bs:List UInt8} {kb:Nat} {l:List cX} (h:bG S w v bs) (hk:jO w kb l):bG (fun i=>i≠kb/\i<w.heap.size) w v bs:=by
 obtain⟨h1,a,cap,rfl,h2,h3,h4⟩:=h;refine⟨h1,a,cap,rfl,h2,h3, ?_⟩
 rcases h4 with h4 | ⟨b,o,rfl,hS,hc⟩
 ·exact .inl h4
 ·cases bs with
  | nil=>exact .inl rfl
  | cons y ys=>
   have q:=hc 0 (aY y) rfl;refine .inr ⟨b,o,rfl,⟨fun e=> ?_,bS q⟩,hc⟩;subst e;obtain⟨es,clock,hb,_⟩:=hk.map;simp[World.cell?,hb]at q
def Eb (base bb kb:Nat) (k:dm) (c:fL) (gs:List (ByteArray×Int)) (gv:Value) (im:Nat) (v:Value) (bs:List dq) (x:List UInt8) (w:World) (e:Ending) (w':World):Prop:=
 e= .returned (.tuple #[fa (bD k gs x), .int .i64 0])/\ ∃v',kD w' base bb k c gv im kb v' (kz k gs bs x)/\jl base bb kb v v' w w'
theorem Ge (S:Nat->Prop) (base bb kb im:Nat) (k:dm) (c:fL) (gs:List (ByteArray×Int)) (gv v cv:Value) (bs:List dq) (x:List UInt8) (w:World) (h:kD w base bb k c gv im kb v bs) (hk:jA k=true) (hg:kR (· <base) w gv gs) (hgs: ∀p∈gs,0<=p.2/\p.2<=1099511627776)
  (hx:bG S w cv x) (hl:x.length<=32768) (hE:rx w) (hbb:base<=bb) (hkb:base<=kb) (hbz:base<=w.heap.size) (_h7:7<=base) (hn:bs.length<1000000000000):
  Calls Tryz.prog 123 #[.pointer (some ⟨bb,0,none⟩),cv] w (Eb base bb kb k c gs gv im v bs x w):=by
 obtain⟨_,a,cap,rfl,H2,Yi,-⟩:=id hx;have HX:=an hx;obtain⟨xl,ya⟩: ∃xl,xl=x.length:=⟨_,rfl⟩;rw[<-ya]at hl H2 ⊢;have hG:=an ya;obtain⟨W0,Hj⟩: ∃W0,W0=(w.alloc (.cells #[.string ⟨#[]⟩, .int .i64 0, .int .i64 0] 26)).alloc (.cells #[.string ⟨#[]⟩, .int .i64 0, .int .i64 (xl:Int)] 26):=⟨_,rfl⟩;have HB:Below w.heap.size w W0:=by rw[Hj]; exact(eN).alloc (by simp) _
 have yb:=an HB;have Ye:=an (show W0.heap[w.heap.size]? =some (.cells #[.string ⟨#[]⟩, .int .i64 0, .int .i64 0] 26 (0,0)) by rw[Hj]; exact mT (dY w _) _);have HO:=an (show W0.heap[w.heap.size+1]? =some (.cells #[.string ⟨#[]⟩, .int .i64 0, .int .i64 (xl:Int)] 26 (0,0)) by rw[Hj]; exact pL w _ _);have Ya:=an (h.below HB);have HH:=an h;have HK:=an hk;have HG:=an hg
 have Yc:=an hgs;have HE:=an (hE.below HB);have yl:=an hE;have y6:bb<w.heap.size:=az h.box;have hs:=an Ya.o.box;have k0:=aA (k:=0) hs.o;have k1:=aA (k:=1) hs.o;have k2:=aA (k:=2) hs.o;have k3:=aA (k:=3) hs.o;have k4:=aA (k:=4) hs.o;have k10:=aA (k:=10) hs.o;have k12:=aA (k:=12) hs.o;have k13:=aA (k:=13) hs.o
 simp only[nr,eI,fR,aM,aL,ak,am,aj]at k0 k1 k2 k3 k4 k10 k12 k13;clear h hk hg hgs hx hE HB ya Yi
 go_enter Tryz.func123,Tryz.ntmps123
 go_upto_region 3 with(fail)
 rw[<-Hj];clear Hj;have Yg:bG S W0 (.slice a xl cap) x:=by have h1:=HX.o; rw[<-hG.o]at h1; exact cE.below h1 (by omega) yb.o
 have hZ:=tB S k 0 x (.slice a xl cap) W0 HK.o (by omega) Yg (by rw[<-hG.o]; exact hl) HE.o.envh;unfold kt at hZ;have Yd:=an hZ;have f0:=aA (k:=0) HO.o;have fz0:=dy (k:=0) HO.o;simp only[ak,aj]at f0;clear hZ;go_wp2_with fail;refine Yd.o.mono ?_;rintro e w1 ⟨rfl,HC⟩;obtain⟨n0,HJ⟩: ∃n0,n0=lW k 0 x:=⟨_,rfl⟩
 rw[<-HJ];have Ym:n0.size=32:=by rw[HJ]; exact lp _ _ _
 have HF:=dV HC HO.o;have y7:=dV HC Ye.o;have f0':=aA (k:=0) HF;have fz0':=dy (k:=0) HF;simp only[ak,aj]at f0';have HS:=an HJ;clear HJ k0 k1 k2 k3 k4 k10 k12 k13 f0 fz0;go_wp2_with fail;obtain⟨W2,Hk⟩: ∃W2:World,W2=(w1.setCell ⟨w.heap.size+1,0,none⟩ (.string n0)).drew:=⟨_,rfl⟩;have Hn:Below w.heap.size w W2:=by rw[Hk]; exact(cC (aw yb.o HC) (show w.heap.size<=w.heap.size+1 by omega) _).drew
 have yc:=an Hn;have H3:=jf (k:=0) HF (.string n0);simp only[ag,ah]at H3;have Hd:=an (show W2.heap[w.heap.size+1]? =some (.cells #[.string n0, .int .i64 0, .int .i64 (xl:Int)] 26 (0,0)) by rw[Hk]; exact H3);have yp:=an (show W2.heap[w.heap.size]? =some (.cells #[.string ⟨#[]⟩, .int .i64 0, .int .i64 0] 26 (0,0)) by rw[Hk]; exact(aF _ _ _ _ (by show w.heap.size≠w.heap.size+1; omega)).trans y7)
 have HM:=an (HH.o.below Hn);have hu:=an HM.o.box;have Yk:=Cu (HG.o.keep (w':=W2) (fun i h1 h2=>Hn.block i h2)) (n:=n0) (by rw[Ym]; unfold maxLen; omega);have Yo:=an (yl.o.below Hn);obtain⟨g,hg⟩: ∃g,g=mH gs n0:=⟨_,rfl⟩;have y5:=zX gs Yc.o n0;rw[<-hg]at Yk y5;have yn:=an hg;have k0:=aA (k:=0) hu.o;have k1:=aA (k:=1) hu.o
 have k2:=aA (k:=2) hu.o;have k3:=aA (k:=3) hu.o;have k4:=aA (k:=4) hu.o;have k10:=aA (k:=10) hu.o;have k12:=aA (k:=12) hu.o;have k13:=aA (k:=13) hu.o;simp only[nr,eI,fR,aM,aL,ak,am,aj]at k0 k1 k2 k3 k4 k10 k12 k13;have f0:=aA (k:=0) Hd.o
 simp only[ak,aj]at f0;clear HF y7 f0' fz0' Hn H3 hg HC;refine bP [some 8] (by kernel_rfl) (by kernel_rfl) (by kernel_rfl) ?_;simp only[dQ,aV,aZ];rw[<-Hk];clear Hk
 repeat (first | (refine cB rfl ?_; simp only[Act.put,ag,ai,ah]) | (refine cR rfl (fun K hK=> ?_); go_simp; refine hK _ ?_; clear hK K))
 refine cQ ?_;obtain⟨r,hr⟩: ∃r,r=bD k gs x:=⟨_,rfl⟩;have hY:=an hr;have H8:r.size=(xl:Int):=by rw[hr,hG.o]; rfl
 have H6:r.gen=g:=by rw[hr,yn.o,HS.o]; rfl
 have H7:r.name=lW k g.toNat x:=by rw[hr,yn.o,HS.o]; rfl
 have HA:=an (show eC r from⟨by rw[H7,lp]; unfold maxLen; omega,by rw[H6]; exact WalkArith.wf_i64 ⟨by omega,by omega⟩,by rw[H8]; exact WalkArith.wf_i64 ⟨by omega,by omega⟩⟩);have y3:=an H7;have yv:=an H6;have y4:=an H8;clear hr H7 H6 H8 k0 k1 k2 k3 k4 k10 k12 k13
 by_cases Yj:g=0
 ·go_wp2_with fail;have HP:=an (show W2.heap[w.heap.size+1]? =some (.cells #[.string r.name, .int .i64 r.gen, .int .i64 r.size] 26 (0,0)) by rw[y3.o,yv.o,y4.o,Yj,Int.toNat_zero,<-HS.o]; exact Hd.o);have HL:=yc;have HW:=yp;clear f0;obtain⟨W6,hI⟩: ∃W6:World,W6=(W2).drew:=⟨_,rfl⟩;have hJ:Below (W2).heap.size (W2) W6:=by rw[hI]; exact(ay _ _).drew
  have hA:=an (aw HL.o hJ);have He:=an (dV hJ HP.o);have hF:=an (dV hJ HW.o);have he:=an (HH.o.below hA.o);have hc:=an he.o.box;have k0:=aA (k:=0) hc.o;have k1:=aA (k:=1) hc.o;have k2:=aA (k:=2) hc.o;have k3:=aA (k:=3) hc.o;have k4:=aA (k:=4) hc.o;have k10:=aA (k:=10) hc.o;have k12:=aA (k:=12) hc.o
  have k13:=aA (k:=13) hc.o;simp only[nr,eI,fR,aM,aL,ak,am,aj]at k0 k1 k2 k3 k4 k10 k12 k13;obtain⟨f0,f1,f2,_⟩:=aT He.o;have hV:=he.o.known.look HA.o;unfold fa at hV
  by_cases hy:r∈bs.map dq.ref
  ·have e1:decide (r∈bs.map dq.ref)=true:=by simp[hy]
   rw[e1]at hV;have h7:=an (show kz k gs bs x=bs by unfold kz; rw[<-hY.o,if_pos hy]);clear hJ hy e1;refine bP [some 7] (by kernel_rfl) (by kernel_rfl) (by kernel_rfl) ?_;simp only[dQ,aV,aZ];rw[<-hI];clear hI
   repeat (first | (refine cB rfl ?_; simp only[Act.put,ag,ai,ah]) | (refine cR rfl (fun K hK=> ?_); go_simp; refine hK _ ?_; clear hK K))
   refine cQ ?_;obtain⟨z0,z1,z2,_⟩:=aT hF.o;obtain⟨y0,y1,y2,_⟩:=gu hF.o;go_wp2_with fail;refine vz hF.o rfl rfl rfl ?_;refine⟨by rw[<-hY.o]; rfl,v, ?_, ?_⟩
   ·rw[h7.o];exact he.o.other hF.o (by decide) (by decide) (by decide) (fun i hi _=>eh hi)
   ·exact((((jl.ofBelow hA.o hbz).setNew (au _) hbz).setNew (au _) hbz).setNew (au _) hbz)
  ·have e1:decide (r∈bs.map dq.ref)=false:=by simp[hy]
   rw[e1]at hV;have h7:=an (show kz k gs bs x=bs++[⟨r,x⟩] by unfold kz; rw[<-hY.o,if_neg hy]);have HT:=an hy;clear hJ hy e1;refine bP [some 7] (by kernel_rfl) (by kernel_rfl) (by kernel_rfl) ?_;simp only[dQ,aV,aZ];rw[<-hI];clear hI
   repeat (first | (refine cB rfl ?_; simp only[Act.put,ag,ai,ah]) | (refine cR rfl (fun K hK=> ?_); go_simp; refine hK _ ?_; clear hK K))
   refine cQ ?_;go_wp2_with fail;refine bP [some 5,none] (by kernel_rfl) (by kernel_rfl) (by kernel_rfl) ?_;simp only[dQ,aV,aZ,bB,bT]
   repeat (first | (refine cB rfl ?_; simp only[Act.put,ag,ai,ah]) | (refine cR rfl (fun K hK=> ?_); go_simp; refine hK _ ?_; clear hK K))
   refine cQ ?_;refine ei rfl (fun K hK=> ?_);have HR:=an (he.o.known.same (w':=W6.drew) rfl);go_wp2_with (at_mapUpdate; go_must (refine mC rfl _ _ _ rfl kb (bs.map dq.ref) HR.o rfl r HA.o rfl rfl HT.o ?_); intro w7 hP Hq);obtain⟨W8,hT⟩: ∃W8:World,W8=w7.drew:=⟨_,rfl⟩;have hp:W6.grownBy W8 (some kb):=by rw[hT]; exact ci (b:=W6.drew) ⟨rfl,rfl,rfl,au _,fun _ _ _=>rfl⟩ (ci Hq ⟨rfl,rfl,rfl,au _,fun _ _ _=>rfl⟩)
   have h9:=an (show jO W8 kb ((bs++[(⟨r,x⟩:dq)]).map dq.ref) by rw[hT,aO]; exact hP.same rfl);have Yl:kb<w.heap.size:=HH.o.known.map.lt;have Hc:bb≠kb:=fun e=>he.o.known.cells (e▸hc.o)
   have hL:=ng hp hc.o Hc;have hd:=an hL;have Hp:=ng hp He.o (by omega);have Hs:=ng hp hF.o (by omega);have Hf:=an Hp;have HY:=an Hs;obtain⟨zs,Hz,hB⟩:=he.o.own;have Hh:=an Hz;have hC:=an (show ig W8 base v zs from⟨hB.row.kept hp (.inr (fun e=>by obtain⟨cs2,hN⟩:=bL hB.row e; exact he.o.known.cells hN)),fun z hz=>(hB.dat z hz).kept hp (.inr (fun e=>by obtain⟨cs2,hN⟩:=bL (hB.dat z hz) e; exact he.o.known.cells hN))⟩)
   obtain⟨av,cv8,H9,-,-⟩:=aI hB.row;subst H9;have h0:=an ((jl.ofBelow hA.o hbz).trans (jl.ofGrown (bb:=bb) (v:= .slice av zs.length cv8) hp (aB hbz hA.o.size) hkb));have Ha:=an (aB hA.o.size hp.size);have H0:=an (show cE (fun _=>True) W8 1 (.slice a xl cap) xl (x.map aY)from by
    have h1:=HX.o;rw[<-hG.o]at h1;have h2:bG S W6 (.slice a xl cap) x:=cE.below h1 (by omega) hA.o;have h3:=cE.same (w':=W8) (uC h2 he.o.known) (fun i hi=>hp.block i hi.2 (fun e=>hi.1 (bK e)));have h4:=cE.weak (T:=fun _=>True) h3 (fun _ _=>trivial);rw[<-hG.o]at h4;exact h4)
   clear hP Hq hp hL Hp Hs Hz hB f0 f1 f2 k0 k1 k2 k3 k4 k10 k12 k13 hV;obtain⟨f0,f1,f2,_⟩:=aT Hf.o;have k0:=aA (k:=0) hd.o;have k1:=aA (k:=1) hd.o;have k2:=aA (k:=2) hd.o;have k3:=aA (k:=3) hd.o;have k4:=aA (k:=4) hd.o;have k10:=aA (k:=10) hd.o;have k12:=aA (k:=12) hd.o;have k13:=aA (k:=13) hd.o;simp only[nr,eI,fR,aM,aL,ak,am,aj]at k0 k1 k2 k3 k4 k10 k12 k13
   refine ey (fun w'=>w'.cell? ⟨bb,12,none⟩=some (.slice av zs.length cv8)/\w'.cell? ⟨w.heap.size+1,0,none⟩=some (.string r.name)/\w'.cell? ⟨w.heap.size+1,1,none⟩=some (.int .i64 r.gen)/\w'.cell? ⟨w.heap.size+1,2,none⟩=some (.int .i64 r.size)) (by kernel_rfl) (by kernel_rfl) ?_;simp only[bw,bz,aG,bo,Nat.reduceAdd,Nat.reduceSub]
   rw[<-hT];clear hT
   iterate 7 (refine cF rfl (by kernel_rfl) (fun _ _ _ h=>h) rfl ⟨k12,f0,f1,f2⟩ (by rintro w' ⟨Hu,Hv,Hw,Hx⟩; go_simp; rfl) ?_; simp only[Act.put,ag,ai,ah])
   refine cy 7 rfl (fun K hK=> ?_);have Hy:0+xl<1099511627775:=by omega
   go_wp2_with (at_builtin; go_must (refine el Tryz.appBytes rfl _ _ rfl W8.heap.size (.slice none 0 0) 0 [] rfl (bN _ _ _ _) (.slice a xl cap) xl (x.map aY) rfl H0.o (fo x) Hy (au _) ?_); intro v9 w9 hh hm; rw[bX,aL]at hh; obtain⟨a9,c9,rfl,-,-⟩:=aI hh);have hU:Below W8.heap.size W8 w9:=jt hm
   have hR:=an hU;have HV:=an (show w9.ownsRow base 5 1 (.slice a9 xl c9) x.length (x.map aY) by rw[<-hG.o]; exact fT hh (aB hbz Ha.o));have ha:=an (dV hU hd.o);have hS:=an (dV hU Hf.o);clear hh hm hU Hy k0 k1 k2 k3 k4 k10 k12 k13 f0 f1 f2;obtain⟨f0,f1,f2,_⟩:=aT hS.o;have k0:=aA (k:=0) ha.o;have k1:=aA (k:=1) ha.o
   have k2:=aA (k:=2) ha.o;have k3:=aA (k:=3) ha.o;have k4:=aA (k:=4) ha.o;have k10:=aA (k:=10) ha.o;have k12:=aA (k:=12) ha.o;have k13:=aA (k:=13) ha.o;simp only[nr,eI,fR,aM,aL,ak,am,aj]at k0 k1 k2 k3 k4 k10 k12 k13;refine⟨⟨k12,f0,f1,f2⟩, ?_⟩
   refine cF rfl (by kernel_rfl) (fun _ _ _ h=>h) rfl ⟨k12,f0,f1,f2⟩ (by rintro w' ⟨Hu,Hv,Hw,Hx⟩; go_simp; rfl) ?_;simp only[Act.put,ag,ai,ah];have hO:bb<w9.heap.size:=az ha.o;have hq:w.heap.size+1<w9.heap.size:=az hS.o;have hQ:=an ((ay w9.heap.size w9).alloc (au _) (.cells #[.string r.name, .int .i64 r.gen, .int .i64 r.size, .slice a9 xl c9] 53))
   have HZ:=an (aD ((hQ.o.cell (p:=⟨bb,12,none⟩) hO).trans k12) (aD ((hQ.o.cell (p:=⟨w.heap.size+1,0,none⟩) hq).trans f0) (aD ((hQ.o.cell (p:=⟨w.heap.size+1,1,none⟩) hq).trans f1) ((hQ.o.cell (p:=⟨w.heap.size+1,2,none⟩) hq).trans f2))));refine cy 9 rfl (fun K hK=> ?_);go_wp2_with fail
   (first | (refine⟨HZ.o, ?_⟩) | skip)
   refine cy 10 rfl (fun K hK=> ?_);have Yn:zs.length<1000000000000:=by have h1:=hn; rw[<-Hh.o,aE]at h1; exact h1
   have Hg:=an (hC.o.below hR.o);go_wp2_with (at_builtin; go_must (refine bR Tryz.appBlobs rfl _ _ rfl base (.slice av zs.length cv8) zs.length (kh zs) rfl w9 [.string r.name, .int .i64 r.gen, .int .i64 r.size, .slice a9 xl c9] _ rfl rfl (tN (b:=⟨r,x⟩)) Hg.o.row (by omega) (by have:=Ha.o; have:=hR.o.size; omega) ?_); intro v' wc ho hb _ Hr; obtain⟨ae,ce,rfl,-,-⟩:=aI ho)
   have hW: ∀i cs t z,w9.heap[i]? =some (.cells cs t z)->t≠53->(Value.slice av zs.length cv8).ownBlock≠some i:=fun i cs t z hi ht e=>by
    obtain⟨cs2,hN⟩:=bL Hg.o.row e;exact ht (bV hi hN)
   have hX:=dV hR.o HY.o;have hM:=(hb.block bb hO (fun e=>hW _ _ _ _ ha.o (by decide) e.symm)).trans ha.o;have Hb:=(hb.block (w.heap.size+1) hq (fun e=>hW _ _ _ _ hS.o (by decide) e.symm)).trans hS.o;have Ht:=(hb.block w.heap.size (az hX) (fun e=>hW _ _ _ _ hX (by decide) e.symm)).trans hX;have hf:=an hM;have HQ:=an Hb;have hw:=kD.push (b:=⟨r,x⟩) Hh.o hC.o hd.o h9.o hR.o HV.o ho hb Hr hbb (aB hbz Ha.o)
   have h8:=an hw;have H1:=y6;have hD:=an ((aF wc ⟨bb,12,none⟩ (.slice ae (zs.length+1) ce) (w.heap.size+1) (by show w.heap.size+1≠bb; omega)).trans Hb);have hj:=an ((aF wc ⟨bb,12,none⟩ (.slice ae (zs.length+1) ce) w.heap.size (by show w.heap.size≠bb; omega)).trans Ht);clear ho hb Hr hw hW hX hM Hb Ht k0 k1 k2 k3 k4 k10 k12 k13 f0 f1 f2
   obtain⟨f0,f1,f2,_⟩:=aT HQ.o;have k0:=aA (k:=0) hf.o;have k1:=aA (k:=1) hf.o;have k2:=aA (k:=2) hf.o;have k3:=aA (k:=3) hf.o;have k4:=aA (k:=4) hf.o;have k10:=aA (k:=10) hf.o;have k12:=aA (k:=12) hf.o;have k13:=aA (k:=13) hf.o;simp only[nr,eI,fR,aM,aL,ak,am,aj]at k0 k1 k2 k3 k4 k10 k12 k13
   have kz12:=dy (k:=12) hf.o;refine⟨⟨k12,f0,f1,f2⟩, ?_⟩
   iterate 2 (refine cF rfl (by kernel_rfl) (fun _ _ _ h=>h) rfl ⟨k12,f0,f1,f2⟩ (by rintro w' ⟨Hu,Hv,Hw,Hx⟩; go_simp; rfl) ?_; simp only[Act.put,ag,ai,ah])
   refine cH (by kernel_rfl) ?_;refine eJ rfl rfl (fun K hK=> ?_)
   go_upto_region 13 with(fail)
   obtain⟨Hi,hH⟩: ∃Hi:World,Hi=wc.setCell ⟨bb,12,none⟩ (.slice ae (zs.length+1) ce):=⟨_,rfl⟩;rw[<-hH]at h8 hD hj ⊢;clear hH k0 k1 k2 k3 k4 k10 k12 k13 f0 f1 f2 kz12;obtain⟨f0,f1,f2,_⟩:=aT hD.o;obtain⟨z0,z1,z2,_⟩:=aT hj.o;obtain⟨y0,y1,y2,_⟩:=gu hj.o;go_wp2_with fail;refine vz hj.o rfl rfl rfl ?_;refine⟨by rw[<-hY.o]; rfl, .slice ae (zs.length+1) ce,And.symm ⟨?_, ?_⟩⟩
   ·exact(((h0.o.trans h8.o.2).setNew (au _) hbz).setNew (au _) hbz).setNew (au _) hbz
   ·rw[h7.o];exact h8.o.1.other hj.o (by decide) (by decide) (by decide) (fun i hi _=>eh hi)
 ·have f1:=aA (k:=1) Hd.o;have fz1:=dy (k:=1) Hd.o;simp only[ak,am,aj]at f1
  go_upto_region 7 with(fail)
  obtain⟨W3,Hl⟩: ∃W3:World,W3=W2.setCell ⟨w.heap.size+1,1,none⟩ (.int .i64 g):=⟨_,rfl⟩;rw[<-Hl];have Ho:Below w.heap.size w W3:=by rw[Hl]; exact cC yc.o (show w.heap.size<=w.heap.size+1 by omega) _
  have y9:=an Ho;have H4:=jf (k:=1) Hd.o (.int .i64 g);simp only[ag,ai,ah]at H4;have Yb:=an (show W3.heap[w.heap.size+1]? =some (.cells #[.string n0, .int .i64 g, .int .i64 (xl:Int)] 26 (0,0)) by rw[Hl]; exact H4);have Yf:=an (show W3.heap[w.heap.size]? =some (.cells #[.string ⟨#[]⟩, .int .i64 0, .int .i64 0] 26 (0,0)) by rw[Hl]; exact(aF _ _ _ _ (by show w.heap.size≠w.heap.size+1; omega)).trans yp.o)
  have HN:=an (HH.o.below Ho);have hv:=an HN.o.box;have Yh:bG S W3 (.slice a xl cap) x:=by have h1:=HX.o; rw[<-hG.o]at h1; exact cE.below h1 (by omega) Ho
  have hZ:=tB S k g.toNat x (.slice a xl cap) W3 HK.o (by omega) Yh (by rw[<-hG.o]; exact hl) (yl.o.below Ho).envh;rw[Int.toNat_of_nonneg y5.1,<-y3.o]at hZ;unfold kt at hZ;have HU:=an hZ;have k0:=aA (k:=0) hv.o;have k1:=aA (k:=1) hv.o;have k2:=aA (k:=2) hv.o;have k3:=aA (k:=3) hv.o;have k4:=aA (k:=4) hv.o;have k10:=aA (k:=10) hv.o
  have k12:=aA (k:=12) hv.o;have k13:=aA (k:=13) hv.o;simp only[nr,eI,fR,aM,aL,ak,am,aj]at k0 k1 k2 k3 k4 k10 k12 k13;clear Hl Ho H4 hZ f0 f1 fz1;go_wp2_with fail;refine HU.o.mono ?_;rintro e w4 ⟨rfl,HD⟩;have HI:=dV HD Yb.o;have y8:=dV HD Yf.o;have f0:=aA (k:=0) HI
  have fz0:=dy (k:=0) HI;simp only[ak,aj]at f0;clear k0 k1 k2 k3 k4 k10 k12 k13;go_wp2_with fail;obtain⟨W5,Hm⟩: ∃W5:World,W5=w4.setCell ⟨w.heap.size+1,0,none⟩ (.string r.name):=⟨_,rfl⟩;rw[<-Hm];have HL:=an (show Below w.heap.size w W5 by rw[Hm]; exact cC (aw y9.o HD) (show w.heap.size<=w.heap.size+1 by omega) _)
  have H5:=jf (k:=0) HI (.string r.name);simp only[ag,ah]at H5;have HP:=an (show W5.heap[w.heap.size+1]? =some (.cells #[.string r.name, .int .i64 r.gen, .int .i64 r.size] 26 (0,0)) by rw[Hm,yv.o,y4.o]; exact H5);have HW:=an (show W5.heap[w.heap.size]? =some (.cells #[.string ⟨#[]⟩, .int .i64 0, .int .i64 0] 26 (0,0)) by rw[Hm]; exact(aF _ _ _ _ (by show w.heap.size≠w.heap.size+1; omega)).trans y8)
  clear Hm HI y8 f0 fz0 HD H5;obtain⟨W6,hI⟩: ∃W6:World,W6=(W5).drew:=⟨_,rfl⟩;have hJ:Below (W5).heap.size (W5) W6:=by rw[hI]; exact(ay _ _).drew
  have hA:=an (aw HL.o hJ);have He:=an (dV hJ HP.o);have hF:=an (dV hJ HW.o);have he:=an (HH.o.below hA.o);have hc:=an he.o.box;have k0:=aA (k:=0) hc.o;have k1:=aA (k:=1) hc.o;have k2:=aA (k:=2) hc.o;have k3:=aA (k:=3) hc.o;have k4:=aA (k:=4) hc.o;have k10:=aA (k:=10) hc.o;have k12:=aA (k:=12) hc.o
  have k13:=aA (k:=13) hc.o;simp only[nr,eI,fR,aM,aL,ak,am,aj]at k0 k1 k2 k3 k4 k10 k12 k13;obtain⟨f0,f1,f2,_⟩:=aT He.o;have hV:=he.o.known.look HA.o;unfold fa at hV
  by_cases hy:r∈bs.map dq.ref
  ·have e1:decide (r∈bs.map dq.ref)=true:=by simp[hy]
   rw[e1]at hV;have h7:=an (show kz k gs bs x=bs by unfold kz; rw[<-hY.o,if_pos hy]);clear hJ hy e1;refine bP [some 7] (by kernel_rfl) (by kernel_rfl) (by kernel_rfl) ?_;simp only[dQ,aV,aZ];rw[<-hI];clear hI
   repeat (first | (refine cB rfl ?_; simp only[Act.put,ag,ai,ah]) | (refine cR rfl (fun K hK=> ?_); go_simp; refine hK _ ?_; clear hK K))
   refine cQ ?_;obtain⟨z0,z1,z2,_⟩:=aT hF.o;obtain⟨y0,y1,y2,_⟩:=gu hF.o;go_wp2_with fail;refine vz hF.o rfl rfl rfl ?_;refine⟨by rw[<-hY.o]; rfl,v, ?_, ?_⟩
   ·rw[h7.o];exact he.o.other hF.o (by decide) (by decide) (by decide) (fun i hi _=>eh hi)
   ·exact((((jl.ofBelow hA.o hbz).setNew (au _) hbz).setNew (au _) hbz).setNew (au _) hbz)
  ·have e1:decide (r∈bs.map dq.ref)=false:=by simp[hy]
   rw[e1]at hV;have h7:=an (show kz k gs bs x=bs++[⟨r,x⟩] by unfold kz; rw[<-hY.o,if_neg hy]);have HT:=an hy;clear hJ hy e1;refine bP [some 7] (by kernel_rfl) (by kernel_rfl) (by kernel_rfl) ?_;simp only[dQ,aV,aZ];rw[<-hI];clear hI
   repeat (first | (refine cB rfl ?_; simp only[Act.put,ag,ai,ah]) | (refine cR rfl (fun K hK=> ?_); go_simp; refine hK _ ?_; clear hK K))
   refine cQ ?_;go_wp2_with fail;refine bP [some 5,none] (by kernel_rfl) (by kernel_rfl) (by kernel_rfl) ?_;simp only[dQ,aV,aZ,bB,bT]
   repeat (first | (refine cB rfl ?_; simp only[Act.put,ag,ai,ah]) | (refine cR rfl (fun K hK=> ?_); go_simp; refine hK _ ?_; clear hK K))
   refine cQ ?_;refine ei rfl (fun K hK=> ?_);have HR:=an (he.o.known.same (w':=W6.drew) rfl);go_wp2_with (at_mapUpdate; go_must (refine mC rfl _ _ _ rfl kb (bs.map dq.ref) HR.o rfl r HA.o rfl rfl HT.o ?_); intro w7 hP Hq);obtain⟨W8,hT⟩: ∃W8:World,W8=w7.drew:=⟨_,rfl⟩;have hp:W6.grownBy W8 (some kb):=by rw[hT]; exact ci (b:=W6.drew) ⟨rfl,rfl,rfl,au _,fun _ _ _=>rfl⟩ (ci Hq ⟨rfl,rfl,rfl,au _,fun _ _ _=>rfl⟩)
   have h9:=an (show jO W8 kb ((bs++[(⟨r,x⟩:dq)]).map dq.ref) by rw[hT,aO]; exact hP.same rfl);have Yl:kb<w.heap.size:=HH.o.known.map.lt;have Hc:bb≠kb:=fun e=>he.o.known.cells (e▸hc.o)
   have hL:=ng hp hc.o Hc;have hd:=an hL;have Hp:=ng hp He.o (by omega);have Hs:=ng hp hF.o (by omega);have Hf:=an Hp;have HY:=an Hs;obtain⟨zs,Hz,hB⟩:=he.o.own;have Hh:=an Hz;have hC:=an (show ig W8 base v zs from⟨hB.row.kept hp (.inr (fun e=>by obtain⟨cs2,hN⟩:=bL hB.row e; exact he.o.known.cells hN)),fun z hz=>(hB.dat z hz).kept hp (.inr (fun e=>by obtain⟨cs2,hN⟩:=bL (hB.dat z hz) e; exact he.o.known.cells hN))⟩)
   obtain⟨av,cv8,H9,-,-⟩:=aI hB.row;subst H9;have h0:=an ((jl.ofBelow hA.o hbz).trans (jl.ofGrown (bb:=bb) (v:= .slice av zs.length cv8) hp (aB hbz hA.o.size) hkb));have Ha:=an (aB hA.o.size hp.size);have H0:=an (show cE (fun _=>True) W8 1 (.slice a xl cap) xl (x.map aY)from by
    have h1:=HX.o;rw[<-hG.o]at h1;have h2:bG S W6 (.slice a xl cap) x:=cE.below h1 (by omega) hA.o;have h3:=cE.same (w':=W8) (uC h2 he.o.known) (fun i hi=>hp.block i hi.2 (fun e=>hi.1 (bK e)));have h4:=cE.weak (T:=fun _=>True) h3 (fun _ _=>trivial);rw[<-hG.o]at h4;exact h4)
   clear hP Hq hp hL Hp Hs Hz hB f0 f1 f2 k0 k1 k2 k3 k4 k10 k12 k13 hV;obtain⟨f0,f1,f2,_⟩:=aT Hf.o;have k0:=aA (k:=0) hd.o;have k1:=aA (k:=1) hd.o;have k2:=aA (k:=2) hd.o;have k3:=aA (k:=3) hd.o;have k4:=aA (k:=4) hd.o;have k10:=aA (k:=10) hd.o;have k12:=aA (k:=12) hd.o;have k13:=aA (k:=13) hd.o;simp only[nr,eI,fR,aM,aL,ak,am,aj]at k0 k1 k2 k3 k4 k10 k12 k13
   refine ey (fun w'=>w'.cell? ⟨bb,12,none⟩=some (.slice av zs.length cv8)/\w'.cell? ⟨w.heap.size+1,0,none⟩=some (.string r.name)/\w'.cell? ⟨w.heap.size+1,1,none⟩=some (.int .i64 r.gen)/\w'.cell? ⟨w.heap.size+1,2,none⟩=some (.int .i64 r.size)) (by kernel_rfl) (by kernel_rfl) ?_;simp only[bw,bz,aG,bo,Nat.reduceAdd,Nat.reduceSub]
   rw[<-hT];clear hT
   iterate 7 (refine cF rfl (by kernel_rfl) (fun _ _ _ h=>h) rfl ⟨k12,f0,f1,f2⟩ (by rintro w' ⟨Hu,Hv,Hw,Hx⟩; go_simp; rfl) ?_; simp only[Act.put,ag,ai,ah])
   refine cy 7 rfl (fun K hK=> ?_);have Hy:0+xl<1099511627775:=by omega
   go_wp2_with (at_builtin; go_must (refine el Tryz.appBytes rfl _ _ rfl W8.heap.size (.slice none 0 0) 0 [] rfl (bN _ _ _ _) (.slice a xl cap) xl (x.map aY) rfl H0.o (fo x) Hy (au _) ?_); intro v9 w9 hh hm; rw[bX,aL]at hh; obtain⟨a9,c9,rfl,-,-⟩:=aI hh);have hU:Below W8.heap.size W8 w9:=jt hm
   have hR:=an hU;have HV:=an (show w9.ownsRow base 5 1 (.slice a9 xl c9) x.length (x.map aY) by rw[<-hG.o]; exact fT hh (aB hbz Ha.o));have ha:=an (dV hU hd.o);have hS:=an (dV hU Hf.o);clear hh hm hU Hy k0 k1 k2 k3 k4 k10 k12 k13 f0 f1 f2;obtain⟨f0,f1,f2,_⟩:=aT hS.o;have k0:=aA (k:=0) ha.o;have k1:=aA (k:=1) ha.o
   have k2:=aA (k:=2) ha.o;have k3:=aA (k:=3) ha.o;have k4:=aA (k:=4) ha.o;have k10:=aA (k:=10) ha.o;have k12:=aA (k:=12) ha.o;have k13:=aA (k:=13) ha.o;simp only[nr,eI,fR,aM,aL,ak,am,aj]at k0 k1 k2 k3 k4 k10 k12 k13;refine⟨⟨k12,f0,f1,f2⟩, ?_⟩
   refine cF rfl (by kernel_rfl) (fun _ _ _ h=>h) rfl ⟨k12,f0,f1,f2⟩ (by rintro w' ⟨Hu,Hv,Hw,Hx⟩; go_simp; rfl) ?_;simp only[Act.put,ag,ai,ah];have hO:bb<w9.heap.size:=az ha.o;have hq:w.heap.size+1<w9.heap.size:=az hS.o;have hQ:=an ((ay w9.heap.size w9).alloc (au _) (.cells #[.string r.name, .int .i64 r.gen, .int .i64 r.size, .slice a9 xl c9] 53))
   have HZ:=an (aD ((hQ.o.cell (p:=⟨bb,12,none⟩) hO).trans k12) (aD ((hQ.o.cell (p:=⟨w.heap.size+1,0,none⟩) hq).trans f0) (aD ((hQ.o.cell (p:=⟨w.heap.size+1,1,none⟩) hq).trans f1) ((hQ.o.cell (p:=⟨w.heap.size+1,2,none⟩) hq).trans f2))));refine cy 9 rfl (fun K hK=> ?_);go_wp2_with fail
   (first | (refine⟨HZ.o, ?_⟩) | skip)
   refine cy 10 rfl (fun K hK=> ?_);have Yn:zs.length<1000000000000:=by have h1:=hn; rw[<-Hh.o,aE]at h1; exact h1
   have Hg:=an (hC.o.below hR.o);go_wp2_with (at_builtin; go_must (refine bR Tryz.appBlobs rfl _ _ rfl base (.slice av zs.length cv8) zs.length (kh zs) rfl w9 [.string r.name, .int .i64 r.gen, .int .i64 r.size, .slice a9 xl c9] _ rfl rfl (tN (b:=⟨r,x⟩)) Hg.o.row (by omega) (by have:=Ha.o; have:=hR.o.size; omega) ?_); intro v' wc ho hb _ Hr; obtain⟨ae,ce,rfl,-,-⟩:=aI ho)
   have hW: ∀i cs t z,w9.heap[i]? =some (.cells cs t z)->t≠53->(Value.slice av zs.length cv8).ownBlock≠some i:=fun i cs t z hi ht e=>by
    obtain⟨cs2,hN⟩:=bL Hg.o.row e;exact ht (bV hi hN)
   have hX:=dV hR.o HY.o;have hM:=(hb.block bb hO (fun e=>hW _ _ _ _ ha.o (by decide) e.symm)).trans ha.o;have Hb:=(hb.block (w.heap.size+1) hq (fun e=>hW _ _ _ _ hS.o (by decide) e.symm)).trans hS.o;have Ht:=(hb.block w.heap.size (az hX) (fun e=>hW _ _ _ _ hX (by decide) e.symm)).trans hX;have hf:=an hM;have HQ:=an Hb;have hw:=kD.push (b:=⟨r,x⟩) Hh.o hC.o hd.o h9.o hR.o HV.o ho hb Hr hbb (aB hbz Ha.o)
   have h8:=an hw;have H1:=y6;have hD:=an ((aF wc ⟨bb,12,none⟩ (.slice ae (zs.length+1) ce) (w.heap.size+1) (by show w.heap.size+1≠bb; omega)).trans Hb);have hj:=an ((aF wc ⟨bb,12,none⟩ (.slice ae (zs.length+1) ce) w.heap.size (by show w.heap.size≠bb; omega)).trans Ht);clear ho hb Hr hw hW hX hM Hb Ht k0 k1 k2 k3 k4 k10 k12 k13 f0 f1 f2
   obtain⟨f0,f1,f2,_⟩:=aT HQ.o;have k0:=aA (k:=0) hf.o;have k1:=aA (k:=1) hf.o;have k2:=aA (k:=2) hf.o;have k3:=aA (k:=3) hf.o;have k4:=aA (k:=4) hf.o;have k10:=aA (k:=10) hf.o;have k12:=aA (k:=12) hf.o;have k13:=aA (k:=13) hf.o;simp only[nr,eI,fR,aM,aL,ak,am,aj]at k0 k1 k2 k3 k4 k10 k12 k13
   have kz12:=dy (k:=12) hf.o;refine⟨⟨k12,f0,f1,f2⟩, ?_⟩
   iterate 2 (refine cF rfl (by kernel_rfl) (fun _ _ _ h=>h) rfl ⟨k12,f0,f1,f2⟩ (by rintro w' ⟨Hu,Hv,Hw,Hx⟩; go_simp; rfl) ?_; simp only[Act.put,ag,ai,ah])
   refine cH (by kernel_rfl) ?_;refine eJ rfl rfl (fun K hK=> ?_)
   go_upto_region 13 with(fail)
   obtain⟨Hi,hH⟩: ∃Hi:World,Hi=wc.setCell ⟨bb,12,none⟩ (.slice ae (zs.length+1) ce):=⟨_,rfl⟩;rw[<-hH]at h8 hD hj ⊢;clear hH k0 k1 k2 k3 k4 k10 k12 k13 f0 f1 f2 kz12;obtain⟨f0,f1,f2,_⟩:=aT hD.o;obtain⟨z0,z1,z2,_⟩:=aT hj.o;obtain⟨y0,y1,y2,_⟩:=gu hj.o;go_wp2_with fail;refine vz hj.o rfl rfl rfl ?_;refine⟨by rw[<-hY.o]; rfl, .slice ae (zs.length+1) ce,And.symm ⟨?_, ?_⟩⟩
   ·exact(((h0.o.trans h8.o.2).setNew (au _) hbz).setNew (au _) hbz).setNew (au _) hbz
   ·rw[h7.o];exact h8.o.1.other hj.o (by decide) (by decide) (by decide) (fun i hi _=>eh hi)
theorem gI {w w':World} {B B' sz sz' n n':Nat} {t t':TypeId} {u r:Value} {xs xs':List Value} (h:w.ownsRow B t sz u n xs) (ho:w.ownsRow B' t' sz' r n' xs') (hg:w.grownBy w' r.ownBlock) (ht:t≠t'):w'.ownsRow B t sz u n xs:=
 eV h (fun k hk hu=>hg.block k hk (fun e=>by
  obtain⟨cs,hc⟩:=bL h hu;obtain⟨cs2,hc2⟩:=bL ho e.symm;exact ht (bV hc hc2)))
theorem jl.row {w w':World} {base bb im kb B sz n:Nat} {k:dm} {c:fL} {gv v v' u:Value} {bs:List dq} {t:TypeId} {xs:List Value} (h:kD w base bb k c gv im kb v bs) (hk:jl base bb kb v v' w w') (hr:w.ownsRow B t sz u n xs) (h1:t≠122) (h2:t≠53):w'.ownsRow B t sz u n xs:=
 eV hr (fun i hi hu=>by
  obtain⟨cs,hc⟩:=bL hr hu;refine hk.same i hi (fun e=> ?_) (fun e=> ?_) (fun e=> ?_)
  ·subst e; exact h1 (bV hc h.box)
  ·subst e; exact h.known.cells hc
  ·obtain⟨zs,_,ho,_⟩:=h.own;obtain⟨cs2,hc2⟩:=bL ho e;exact h2 (bV hc hc2))
theorem kD.otherRow {w w':World} {base bb im kb B sz n:Nat} {k:dm} {c:fL} {gv v r:Value} {bs:List dq} {t:TypeId} {xs:List Value} (h:kD w base bb k c gv im kb v bs) (hr:w.ownsRow B t sz r n xs) (hg:w.grownBy w' r.ownBlock) (h1:t≠122) (h2:t≠53) (h3:t≠5):kD w' base bb k c gv im kb v bs:=by
 obtain⟨zs,hz,ho,hd⟩:=h.own;refine⟨(hg.block bb (az h.box) (fun e=> ?_)).trans h.box,⟨zs,hz,gI ho hr hg (fun e=>h2 e.symm),fun z hz=>gI (hd z hz) hr hg (fun e=>h3 e.symm)⟩,h.known.same (hg.block kb h.known.map.lt (fun e=> ?_))⟩
 ·obtain⟨cs,hc⟩:=bL hr e.symm;exact h1 (bV hc h.box)
 ·obtain⟨cs,hc⟩:=bL hr e.symm;exact h.known.cells hc
theorem jl.otherRow {w0 w w':World} {base bb kb B sz n:Nat} {v v' r:Value} {t:TypeId} {xs:List Value} (h:jl base bb kb v v' w0 w) (hr:w.ownsRow B t sz r n xs) (hg:w.grownBy w' r.ownBlock) (hB:w0.heap.size<=B) (hbz:base<=w0.heap.size):jl base bb kb v v' w0 w':=
 ⟨h.below.grown hg (aB hbz h.below.size) (fun i hi=>aB (aB hbz hB) (hr.lt i hi).1),fun i h1 h2 h3 h4=>(hg.block i (aR h1 h.below.size) (fun e=>by have:=(hr.lt i e.symm).1; omega)).trans (h.same i h1 h2 h3 h4),h.place⟩
theorem Jp (d p:ByteArray):Lib.trimPrefix (p.extract d.size p.size).data.toList [47]=lV (bl d) (bl p):=by
 have e:(p.extract d.size p.size).data.toList=(bl p).drop (bl d).length:=by
  rw[Lib.extract_data,<-bi];exact bC (by rw[bA,bi]; exact au _)
 rw[e];unfold lV Lib.trimPrefix Lib.hasPrefix
 cases hd:(bl p).drop (bl d).length with
 | nil=>simp
 | cons y ys=>
  by_cases hy:y=47
  ·subst hy; simp
  ·simp[hy];intro h; exact absurd h.symm hy
theorem Db (d p:ByteArray) (w:World) (h:d.size<=p.size):Calls Tryz.prog 121 #[.string d, .string p] w fun e w'=>e= .returned (.string ⟨(lV (bl d) (bl p)).toArray⟩)/\w=w':=by
 go_enter Tryz.func121,Tryz.ntmps121
 go_wp2_with fail;refine(Tryz.strings_TrimPrefix _ _ w).mono ?_;rintro e w' ⟨rfl,rfl⟩;rw[Jp d p];obtain⟨q,hq⟩: ∃q,q=lV (bl d) (bl p):=⟨_,rfl⟩;rw[<-hq];have HQ:=an hq;clear hq;go_wp2_with fail;go_ret;obtain rfl:=HQ.o;exact⟨rfl,rfl⟩
structure KC (w : World) (base bb im kb B : Nat) (k : dm) (c : fL) (gv v pv : Value) (ys : List (Value × List UInt8)) (wr : World) (v2 rv : Value) (bs2 : List dq) (rs : List cX) : Prop where
 bd:kD wr base bb k c gv im kb v2 bs2
 kp:jl base bb kb v v2 w wr
 row:wr.ownsRow w.heap.size 26 3 rv rs.length (rs.flatMap ji)
 pcs:wr.ownsRow B 29 1 pv ys.length (ys.map Prod.fst)/\ ∀y∈ys,wr.ownsRow B 5 1 y.1 y.2.length (y.2.map aY)
section
variable {w wr w' : World} {base bb im kb B : Nat} {k : dm} {c : fL} {gv v pv v2 v3 rv : Value} {ys : List (Value × List UInt8)} {bs2 bs3 : List dq} {rs : List cX}
theorem KC.step (h:KC w base bb im kb B k c gv v pv ys wr v2 rv bs2 rs) (h1:kD w' base bb k c gv im kb v3 bs3) (h2:jl base bb kb v2 v3 wr w'):KC w base bb im kb B k c gv v pv ys w' v3 rv bs3 rs:=
 ⟨h1,h.kp.trans h2,h2.row h.bd h.row (by decide) (by decide),h2.row h.bd h.pcs.1 (by decide) (by decide),fun y hy=>h2.row h.bd (h.pcs.2 y hy) (by decide) (by decide)⟩
theorem KC.below (h:KC w base bb im kb B k c gv v pv ys wr v2 rv bs2 rs) (hb:Below wr.heap.size wr w') (hbz:base<=wr.heap.size):KC w base bb im kb B k c gv v pv ys w' v2 rv bs2 rs:=
 h.step (h.bd.below hb) (jl.ofBelow hb hbz)
theorem KC.push {rv':Value} {r:cX} (h:KC w base bb im kb B k c gv v pv ys wr v2 rv bs2 rs) (hown:w'.ownsRow w.heap.size 26 3 rv' (rs.length+1) (rs.flatMap ji++ji r)) (hg:wr.grownBy w' rv.ownBlock) (hbz:base<=w.heap.size):KC w base bb im kb B k c gv v pv ys w' v2 rv' bs2 (rs++[r]):=
 ⟨h.bd.otherRow h.row hg (by decide) (by decide) (by decide),h.kp.otherRow h.row hg (au _) hbz,by rw[ar,bW]; simpa using hown,gI h.pcs.1 h.row hg (by decide),fun y hy=>gI (h.pcs.2 y hy) h.row hg (by decide)⟩
end
def Pr (base bb im kb:Nat) (k:dm) (c:fL) (gs:List (ByteArray×Int)) (gv v:Value) (bs:List dq) (x:List UInt8) (w:World) (e:Ending) (w':World):Prop:=
 ∃rv v',e= .returned (.tuple #[rv, .int .i64 0])/\w'.ownsRow w.heap.size 26 3 rv ((fS c x).map (bD k gs)).length (((fS c x).map (bD k gs)).flatMap ji)/\kD w' base bb k c gv im kb v' (et k gs (fS c x) bs)/\jl base bb kb v v' w w'
theorem Oa (k:dm) (gs:List (ByteArray×Int)) (bs:List dq) (x:List UInt8):(kz k gs bs x).length<=bs.length+1:=by
 unfold kz
 split
 ·omega
 ·simp
theorem qW (k:dm) (gs:List (ByteArray×Int)): ∀(cs:List (List UInt8)) (bs:List dq),(et k gs cs bs).length<=bs.length+cs.length
 | [],bs=>au _
 | x::cs,bs=>by
  have h1:=qW k gs cs (kz k gs bs x);have h2:=Oa k gs bs x
  show(et k gs cs (kz k gs bs x)).length<=_
  rw[aG]; omega
theorem BL {k:dm} {gs:List (ByteArray×Int)} {cs:List (List UInt8)} {bs:List dq} {j:Nat} {x:List UInt8} (h:cs[j]? =some x):et k gs (cs.take (j+1)) bs=kz k gs (et k gs (cs.take j) bs) x:=by
 rw[dZ h,ju]; rfl
theorem AV {c:fL} (hc:jJ c=true) (x:List UInt8): ∀y∈fS c x,1<=y.length/\y.length<=32768:=by
 have hv:=lM.1 hc;intro y hy;have:=zU (mx:=c.mx.toNat) (by omega) (pd) y hy;omega
theorem Im (S:Nat->Prop) (base bb kb im:Nat) (k:dm) (c:fL) (gs:List (ByteArray×Int)) (gv v cv:Value) (bs:List dq) (x:List UInt8) (w:World) (h:kD w base bb k c gv im kb v bs) (hk:jA k=true) (hc:jJ c=true) (hsd:c.seed<18446744073709551616) (hg:kR (· <base) w gv gs) (hgs: ∀p∈gs,0<=p.2/\p.2<=1099511627776)
  (hx:bG S w cv x) (hl:x.length<=1048576) (hE:rx w) (hbb:base<=bb) (hkb:base<=kb) (hbz:base<=w.heap.size) (h7:7<=base) (hn:bs.length+(fS c x).length<1000000000000):
  Calls Tryz.prog 122 #[.pointer (some ⟨bb,0,none⟩),cv] w (Pr base bb im kb k c gs gv v bs x w):=by
 have HH:=an h;have HK:=an hk;have HG:=an hg;have hW:=an hgs;have HE:=an hE;have hV:=an (AV hc x);have hF:=vZ S c x cv w hc hsd hx hl hE.deb;obtain⟨L,hL⟩: ∃L,L=fS c x:=⟨_,rfl⟩;have HL:=an hL;rw[<-hL]at hn;unfold fS at hL;rw[<-hL]at hF;unfold ko at hF;have hZ:=an hF;have ha:=an h.box;have k5:=aA (k:=5) ha.o;have k6:=aA (k:=6) ha.o
 have k7:=aA (k:=7) ha.o;have k8:=aA (k:=8) ha.o;have k9:=aA (k:=9) ha.o;simp only[nr,eI,fR,aM,aL,ak,am,aj]at k5 k6 k7 k8 k9;clear h hk hg hgs hx hE hL hF
 go_enter Tryz.func122,Tryz.ntmps122
 go_wp2_with fail;refine hZ.o.mono ?_;rintro e w1 ⟨pv,rfl,⟨ys,hM,hq,hw⟩,hC⟩;have Hi:=an hC;obtain⟨pa,pc,rfl,Hb,Hd⟩:=aI hq;unfold maxLen at Hd;have h0:=an hM;have hN:=an (show KC w base bb im kb w.heap.size k c gv v (.slice pa ys.length pc) ys w1 v (.slice none 0 0) bs []from⟨HH.o.below hC,jl.ofBelow hC hbz,bN _ _ _ _,hq,hw⟩)
 obtain⟨m,hm⟩: ∃m,m=ys.length:=⟨_,rfl⟩;rw[<-hm]at hN Hb ⊢;have HM:=an hm;have hO:=an (show m=L.length by rw[hm,<-hM,aE]);clear hC hq hw hM hm k5 k6 k7 k8 k9;go_wp2_with fail
 go_loopw [8,27] (fun rv i wr=> ∃(j:Nat) (v2:Value),j<=m/\i= .int .i64 (j:Int)/\KC w base bb im kb w.heap.size k c gv v (.slice pa m pc) ys wr v2 rv (et k gs (L.take j) bs) ((L.take j).map (bD k gs))) (fun _ i _=>m-(intOf i).toNat)
 case atStart=>exact⟨0,v,aX _,rfl,hN.o⟩
 case round=>
  obtain⟨j,v2,hj,rfl,hy⟩:=hrel;have hf:=an hy;obtain⟨rs,hD⟩: ∃rs,rs=(L.take j).map (bD k gs):=⟨_,rfl⟩;rw[<-hD]at hy;obtain⟨ra,rc,Hg,-,-⟩:=aI hy.row;subst Hg;have hf:=an hy;have hP:=an hD;have Hf:rs.length<=j:=by rw[hD,aE,bm]; omega
  clear hy hD
  by_cases Ha:j<m
  ·obtain⟨⟨yv,yb⟩,hG⟩: ∃yp,ys[j]? =some yp:=⟨ys[j]'(by rw[<-HM.o]; exact Ha),by simp⟩;have hA:=an (show L[j]? =some yb by rw[<-h0.o,bn,hG]; rfl);obtain⟨_,pa',pc',Hc,_,_,hR⟩:=cG hf.o.pcs.1
   cases Hc
   obtain⟨pb,po,rfl,-,he⟩:=hR.resolve_left (by omega);have q0:=he j yv (by rw[bn,hG]; rfl);have hp:=hf.o.pcs.2 (yv,yb) (aS hG);obtain⟨ya,yc,hT,-,-⟩:=aI hp;simp only at hT;subst hT;have hS:=hV.o yb (by rw[<-HL.o]; exact aS hA.o);have h8:=qW k gs (L.take j) bs;have hI:(L.take j).length<=L.length:=by rw[bm]; omega
   have hu:=Ge (fun _=>True) base bb kb im k c gs gv v2 (.slice ya yb.length yc) (et k gs (L.take j) bs) yb wr hf.o.bd HK.o (HG.o.keep (fun i h1 _=>hf.o.kp.below.block i h1)) hW.o
    (cE.weak (cG hp) (fun _ _=>trivial)) hS.2 (HE.o.keep hf.o.kp.below h7) hbb hkb (aB hbz hf.o.kp.below.size) h7 (by omega)
   unfold Eb fa at hu;rw[<-BL hA.o]at hu;obtain⟨r,hr⟩: ∃r,r=bD k gs yb:=⟨_,rfl⟩;rw[<-hr]at hu;have hY:=an hr;have hU:=an hu;obtain⟨rn,hJ⟩: ∃rn,rn=rs.length:=⟨_,rfl⟩;rw[<-hJ]at Hf ⊢;have ho:=an hJ;clear hG hR he hp hS h8 hI hu hr hJ;go_wp2_with fail;refine hU.o.mono ?_;rintro e w3 ⟨rfl,v3,hv,hz⟩;have hs:=an (hf.o.step hv hz)
   have h4:=an (show base<=w3.heap.size from aB hbz (hs.o.kp.below.size));obtain⟨W4,hB⟩: ∃W4,W4=w3.alloc (.cells #[.string r.name, .int .i64 r.gen, .int .i64 r.size] 26):=⟨_,rfl⟩;have hh:=an (hs.o.below (w':=W4) (by rw[hB]; exact eN) h4.o);have hQ:W4.heap[w3.heap.size]? =some (.cells #[.string r.name, .int .i64 r.gen, .int .i64 r.size] 26 (0,0)):=by rw[hB]; exact dY w3 _
   obtain⟨f0,f1,f2,_⟩:=aT hQ;have hH:=an (show W4.ownsRow w.heap.size 26 3 (.slice ra rn rc) rn (rs.flatMap ji) by have h1:=hh.o.row; rw[<-ho.o]at h1; exact h1);have Hh:w.heap.size<=W4.heap.size:=hh.o.kp.below.size;have He:rn<1099511627775:=by have:=hO.o; omega
   clear hv hz q0 hQ
   go_upto_region 11 with(fail)
   rw[<-hB];clear hB;go_wp2_with (at_builtin; go_must (refine bR Tryz.appRefs rfl _ _ rfl w.heap.size (.slice ra rn rc) rn (rs.flatMap ji) rfl W4 [.string r.name, .int .i64 r.gen, .int .i64 r.size] _ rfl rfl (qH (r:=r)) hH.o He Hh ?_); intro v' wc hd hb _ _; obtain⟨ae,ce,rfl,-,-⟩:=aI hd; have hX:=an (hh.o.push (r:=r) (by rw[<-ho.o]; exact hd) (by rw[<-ho.o]; exact hb) hbz); clear hd hb)
   go_roundw
   case rel=>
    refine⟨j+1,v3,by omega,by go_num, ?_⟩;have h1:=hX.o;rw[hP.o,hY.o]at h1;rw[dZ hA.o,aO,<-dZ hA.o];exact h1
   case measure=>simp[intOf]; omega
  ·have h9:j=m:=by omega
   subst h9;go_wp2_with fail
   go_ret2
   have h1:=hf.o;have h2:L.take j=L:=by rw[hO.o,dg]
   have h3:rs=L.map (bD k gs):=by rw[hP.o,h2]
   rw[h2]at h1;refine⟨_,v2,rfl, ?_, ?_,h1.kp⟩
   ·rw[<-HL.o,<-h3]; exact h1.row
   ·rw[<-HL.o]; exact h1.bd
structure Bw where
 dir:ByteArray
 val:Value
 ents:List oV
def nP (g:Bw):Value×Value:=(.string g.dir,g.val)
structure ql (w : World) (base im : Nat) (G : List Bw) : Prop where
 map:je Tryz.prog 9 w im (G.map nP)
 own: ∀g∈G,w.ownsRow base 79 6 g.val g.ents.length (iw g.ents)
 dat: ∀g∈G,∀y∈g.ents,dJ (· <base) w y.1 y.2.data/\jE y.2
 apart:G.Pairwise fun a b=> ∀i,a.val.ownBlock=some i->b.val.ownBlock≠some i
 key: ∀g∈G,g.dir.size<=maxLen
def mi (G:List Bw) (d:ByteArray):List dj:=match G.find? (fun g=>decide (g.dir=d))with
 | none=>[]
 | some g=>g.ents.map Prod.snd
def Ee (w:World) (base im:Nat) (tree:List dj):Prop:= ∃G,ql w base im G/\ ∀d,mi G d=gR tree d
theorem pE {B:Nat} {w w':World} {v:Value} {bs:List UInt8} (h:dJ (· <B) w v bs) (hb:Below B w w'):dJ (· <B) w' v bs:=cE.same h (fun k hk=>hb.block k hk)
theorem je.ncells {P:Program} {k:TypeId} {w:World} {b:Nat} {m:List (Value×Value)} (h:je P k w b m) {cs:Array Value} {t:TypeId} {z:Nat×Nat} :w.heap[b]? ≠some (.cells cs t z):=fun e=>by
 obtain⟨es,clock,hb,_⟩:=h;rw[hb]at e; cases e
theorem jl.blk {w w':World} {base bb im kb i:Nat} {k:dm} {c:fL} {gv v v':Value} {bs:List dq} {cs:Array Value} {t:TypeId} {z:Nat×Nat} (h:kD w base bb k c gv im kb v bs) (hk:jl base bb kb v v' w w') (hx:w.heap[i]? =some (.cells cs t z)) (h1:t≠122) (h2:t≠53):w'.heap[i]? =some (.cells cs t z):=by
 refine(hk.same i (az hx) (fun e=> ?_) (fun e=> ?_) (fun e=> ?_)).trans hx
 ·subst e; exact h1 (bV hx h.box)
 ·subst e; exact h.known.cells hx
 ·obtain⟨zs,_,ho,_⟩:=h.own;obtain⟨cs2,ha⟩:=bL ho e;exact h2 (bV hx ha)
theorem ql.keep {w w':World} {base bb im kb:Nat} {k:dm} {c:fL} {gv v v':Value} {bs:List dq} {G:List Bw} (hg:ql w base im G) (h:kD w base bb k c gv im kb v bs) (hk:jl base bb kb v v' w w') (hne:im≠kb):ql w' base im G:=by
 refine⟨hg.map.same (hk.same im hg.map.lt (fun e=> ?_) hne (fun e=> ?_)),fun g hm=>hk.row h (hg.own g hm) (by decide) (by decide),fun g hm y hy=>⟨pE (hg.dat g hm y hy).1 hk.below,(hg.dat g hm y hy).2⟩,hg.apart,hg.key⟩
 ·exact hg.map.ncells (by rw[e]; exact h.box)
 ·obtain⟨zs,_,ho,_⟩:=h.own;obtain⟨cs2,ha⟩:=bL ho e;exact hg.map.ncells ha
theorem Ee.keep {w w':World} {base bb im kb:Nat} {k:dm} {c:fL} {gv v v':Value} {bs:List dq} {tree:List dj} (hg:Ee w base im tree) (h:kD w base bb k c gv im kb v bs) (hk:jl base bb kb v v' w w') (hne:im≠kb):Ee w' base im tree:=by
 obtain⟨G,h1,h2⟩:=hg;exact⟨G,h1.keep h hk hne,h2⟩
theorem Ly {w:World} {base im:Nat} {tree:List dj} (hg:Ee w base im tree) {d:ByteArray} (hd:d.size<=maxLen):
  ∃(v:Value) (ys:List oV),(Instr.lookup 119 (.map (some im)) (.string d) false).run Tryz.prog w= .ok v w/\ys.map Prod.snd=gR tree d/\w.ownsRow base 79 6 v ys.length (iw ys)/\ ∀y∈ys,dJ (· <base) w y.1 y.2.data/\jE y.2:=by
 obtain⟨G,h1,h2⟩:=hg;have ht:Tryz.prog.underlying 119=some (.map 9 46):=Tryz.underlying119;have hz:(zeroValue 46).run Tryz.prog w= .ok (.slice none 0 0) w:=by kernel_rfl
 have h3:=h2 d;unfold mi at h3
 cases hf:G.find? (fun g=>decide (g.dir=d))with
 | none=>
  rw[hf]at h3;refine⟨.slice none 0 0,[], ?_,h3,bN _ _ _ _,by simp⟩;have:=h1.map.is.miss fX ht hz (iy hd) (fun q hq e=>by
   obtain⟨x,hx,rfl⟩:=aW.1 hq;simp only[nP,eq]at e;have:=eS.1 hf x hx;simp[e]at this) false
  simpa using this
 | some g=>
  rw[hf]at h3;have h4:=dL hf;have h5:=jq hf;simp only[aK]at h5;refine⟨g.val,g.ents, ?_,h3,h1.own g h4,h1.dat g h4⟩;have:=h1.map.is.hit fX ht (iy hd) (val:=g.val) (aW.2 ⟨g,h4,by rw[<-h5]; rfl⟩) false
  simpa using this
abbrev uz :=Value×cr
def pI (zs:List uz):List Value:=zs.flatMap fun z=>fh z.1 z.2
theorem zC (zs:List uz) (z:uz):pI (zs++[z])=pI zs++fh z.1 z.2:=by simp[pI]
structure lC (w : World) (B : Nat) (iv : Value) (its : List cr) : Prop where
 row: ∃zs:List uz,zs.map Prod.snd=its/\w.ownsRow B 28 10 iv zs.length (pI zs)/\ ∀z∈zs,w.ownsRow B 26 3 z.1 z.2.chunks.length (z.2.chunks.flatMap ji)/\ii z.2/\ ∀r∈z.2.chunks,eC r
theorem zB {S:Nat->Prop} {w:World} : ∀ {zs:List uz},(∀z∈zs,dA S w z.1 z.2.chunks/\ii z.2)->eQ (lr S w) (pI zs) (zs.map Prod.snd)
 | [],_=>rfl
 | z::zs,h=>⟨fh z.1 z.2,pI zs,by simp[pI],⟨z.1,rfl,(h z (by simp)).1,(h z (by simp)).2⟩,zB (fun y hy=>h y (by simp[hy]))⟩
theorem lC.at {w:World} {B:Nat} {iv:Value} {its:List cr} (h:lC w B iv its):eD (fun _=>True) w iv its:=by
 obtain⟨zs,rfl,h1,h2⟩:=h.row;refine⟨pI zs, ?_,zB (fun z hz=>⟨dA.same (pT (h2 z hz).1 (h2 z hz).2.2) (fun _ _ _=>⟨trivial,rfl⟩),(h2 z hz).2.1⟩)⟩;rw[aE];exact cE.weak (cG h1) (fun _ _=>trivial)
theorem lC.nil (w:World) (B:Nat):lC w B (.slice none 0 0) []:=⟨[],rfl,bN _ _ _ _,by simp⟩
structure Ec (w : World) (base bb im kb : Nat) (k : dm) (c : fL) (gv v ev : Value) (ys : List oV) (wr : World) (v2 iv : Value) (bs2 : List dq) (its : List cr) : Prop where
 bd:kD wr base bb k c gv im kb v2 bs2
 kp:jl base bb kb v v2 w wr
 its:lC wr w.heap.size iv its
 ents:wr.ownsRow base 79 6 ev ys.length (iw ys)
 res:wr.heap[w.heap.size]? =some (.cells #[.string ⟨#[]⟩, .int .i64 0, .int .i64 0] 26 (0,0))
theorem lC.keep {w w':World} {base bb im kb B:Nat} {k:dm} {c:fL} {gv v v' iv:Value} {bs:List dq} {its:List cr} (hi:lC w B iv its) (h:kD w base bb k c gv im kb v bs) (hk:jl base bb kb v v' w w'):lC w' B iv its:=by
 obtain⟨zs,h1,h2,h3⟩:=hi.row;exact⟨zs,h1,hk.row h h2 (by decide) (by decide),fun z hz=>⟨hk.row h (h3 z hz).1 (by decide) (by decide),(h3 z hz).2⟩⟩
section
variable {w wr w' : World} {base bb im kb : Nat} {k : dm} {c : fL} {gv v ev v2 v3 iv : Value} {ys : List oV} {bs2 bs3 : List dq} {its : List cr}
theorem Ec.step (h:Ec w base bb im kb k c gv v ev ys wr v2 iv bs2 its) (h1:kD w' base bb k c gv im kb v3 bs3) (h2:jl base bb kb v2 v3 wr w'):Ec w base bb im kb k c gv v ev ys w' v3 iv bs3 its:=
 ⟨h1,h.kp.trans h2,h.its.keep h.bd h2,h2.row h.bd h.ents (by decide) (by decide),h2.blk h.bd h.res (by decide) (by decide)⟩
theorem Ec.below (h:Ec w base bb im kb k c gv v ev ys wr v2 iv bs2 its) (hb:Below wr.heap.size wr w') (hbz:base<=wr.heap.size):Ec w base bb im kb k c gv v ev ys w' v2 iv bs2 its:=
 h.step (h.bd.below hb) (jl.ofBelow hb hbz)
theorem Ec.push {iv' rv:Value} {it:cr} {zs:List uz} (h:Ec w base bb im kb k c gv v ev ys wr v2 iv bs2 its) (hz:zs.map Prod.snd=its) (hrow:wr.ownsRow w.heap.size 28 10 iv zs.length (pI zs)) (hdat: ∀z∈zs,wr.ownsRow w.heap.size 26 3 z.1 z.2.chunks.length (z.2.chunks.flatMap ji)/\ii z.2/\ ∀r∈z.2.chunks,eC r)
  (hown:w'.ownsRow w.heap.size 28 10 iv' (zs.length+1) (pI zs++fh rv it)) (hg:wr.grownBy w' iv.ownBlock) (hrv:wr.ownsRow w.heap.size 26 3 rv it.chunks.length (it.chunks.flatMap ji)) (hok:ii it) (hrs: ∀r∈it.chunks,eC r) (hbz:base<=w.heap.size):
  Ec w base bb im kb k c gv v ev ys w' v2 iv' bs2 (its++[it]):=by
 refine⟨h.bd.otherRow hrow hg (by decide) (by decide) (by decide),h.kp.otherRow hrow hg (au _) hbz,⟨zs++[(rv,it)],by simp[hz],by rw[ar,bQ,zC]; exact hown,fun z hm=> ?_⟩,gI h.ents hrow hg (by decide), ?_⟩
 ·rcases aU.1 hm with hm | hm
  ·exact⟨gI (hdat z hm).1 hrow hg (by decide),(hdat z hm).2⟩
  ·rw[aQ]at hm;subst hm;exact⟨gI hrv hrow hg (by decide),hok,hrs⟩
 ·refine(hg.block _ (az h.res) (fun e=> ?_)).trans h.res;obtain⟨cs2,ha⟩:=bL hrow e.symm;exact absurd (bV h.res ha) (by decide)
theorem Ec.otherSet {i q:Nat} {u:Value} {cs:Array Value} {t:TypeId} {z:Nat×Nat} (h:Ec w base bb im kb k c gv v ev ys wr v2 iv bs2 its) (hx:wr.heap[i]? =some (.cells cs t z)) (h1:t≠122) (h2:t≠53) (h3:t≠5) (h4:t≠26) (h5:t≠79) (h6:iv.ownBlock≠some i) (hi:w.heap.size<=i) (hbz:base<=w.heap.size):Ec w base bb im kb k c gv v ev ys (wr.setCell ⟨i,q,none⟩ u) v2 iv bs2 its:=by
 have hs: ∀j,j≠i->(wr.setCell ⟨i,q,none⟩ u).heap[j]? =wr.heap[j]? :=fun j hj=>aF _ _ _ _ hj
 refine⟨h.bd.other hx h1 h2 h3 (fun j hj _=>hs j hj),h.kp.setNew hi hbz, ?_,eV h.ents (fun j hj hu=>hs j (fun e=> ?_)),(hs _ (fun e=> ?_)).trans h.res⟩
 ·obtain⟨zs,hz,hr,hd⟩:=h.its.row;refine⟨zs,hz,eV hr (fun j hj hu=>hs j (fun e=>h6 (e▸hu))),fun y hy=>⟨eV (hd y hy).1 (fun j hj hu=>hs j (fun e=> ?_)),(hd y hy).2⟩⟩;obtain⟨cs2,ha⟩:=bL (hd y hy).1 hu;exact h4 (bV hx (e▸ha))
 ·obtain⟨cs2,ha⟩:=bL h.ents hu;exact h5 (bV hx (e▸ha))
 ·exact h4 (bV hx (e▸h.res))
end
theorem NF {a:Act} {w:World} {b:Nat} {x0 x1 x2 e5:Value} (h:w.heap[b]? =some (.cells #[x0,x1,x2] 26 (0,0)))
  (h4:a.tmps[4]? =some (.pointer (some ⟨b,0,none⟩))) (h5:a.tmps[5]? =some e5):(results Tryz.f73 a.tmps).run Tryz.prog w= .ok (.tuple #[.agg #[x0,x1,x2],e5]) w:=by
 obtain⟨m0,m1,m2,_⟩:=aT h;simp[results,Tryz.results73,go_sem,h4,h5,m0,m1,m2]
theorem vF {a:Act} {w:World} {b:Nat} {a0 a1 a2 x0 x1 x2 e5:Value} {Q:Ending->World->Prop} (h:w.heap[b]? =some (.cells #[a0,a1,a2] 26 (0,0)))
  (h4:a.tmps[4]? =some (.pointer (some ⟨b,0,none⟩))) (h5:a.tmps[5]? =some e5) (hd:a.defers=[])
  (hQ:Q (.returned (.tuple #[.agg #[x0,x1,x2],e5])) (((w.setCell ⟨b,0,none⟩ x0).setCell ⟨b,1,none⟩ x1).setCell ⟨b,2,none⟩ x2)):
  bodyPost Tryz.prog Tryz.f73 Q Exit.ret a (((w.setCell ⟨b,0,none⟩ x0).setCell ⟨b,1,none⟩ x1).setCell ⟨b,2,none⟩ x2):=cN (NF (ve h) h4 h5) hd hQ
structure KA (base bb kb im : Nat) (k : dm) (c : fL) (gs : List (ByteArray × Int)) (tree : List dj) (UR : List cX) : Prop where
 keys:jA k=true
 cut:jJ c=true
 seed:c.seed<18446744073709551616
 gens: ∀p∈gs,0<=p.2/\p.2<=1099511627776
 bbb:base<=bb
 bkb:base<=kb
 seven:7<=base
 ikb:im≠kb
 val: ∀e∈tree,gX e=true
 len:tree.length<=4096
 usz:UR.length<=100000000000
 u1: ∀e∈tree,∀y∈fS c e.data,bD k gs y∈UR
 u2: ∀(n:Nat) (d:ByteArray) (p:List UInt8×List (List UInt8)),n<=514->(d.size=0\/ ∃e∈tree,e.path=d)->gQ k gs c tree n d= .ok p->bD k gs p.1∈UR
def FX (UR:List cX) (bs:List dq):Prop:= ∀b∈bs,b.ref∈UR
theorem FX.put {UR:List cX} {bs:List dq} {k:dm} {gs:List (ByteArray×Int)} {x:List UInt8} (h:FX UR bs) (hx:bD k gs x∈UR):FX UR (kz k gs bs x):=by
 unfold kz
 split
 ·exact h
 ·intro b hb
  rcases aU.1 hb with hb | hb
  ·exact h b hb
  ·rw[aQ]at hb; subst hb; exact hx
theorem FX.puts {UR:List cX} {k:dm} {gs:List (ByteArray×Int)} : ∀ {cs:List (List UInt8)} {bs:List dq},FX UR bs->(∀x∈cs,bD k gs x∈UR)->FX UR (et k gs cs bs)
 | [],_,h,_=>h
 | x::cs,bs,h,hx=>FX.puts (cs:=cs) (bs:=kz k gs bs x) (h.put (hx x (by simp))) (fun y hy=>hx y (by simp[hy]))
theorem FX.len {UR:List cX} {bs:List dq} {w:World} {base bb im kb:Nat} {k:dm} {c:fL} {gv v:Value} (h:FX UR bs) (hb:kD w base bb k c gv im kb v bs):bs.length<=UR.length:=by
 have h1:=tj (l:=bs.map dq.ref) (U:=UR) hb.known.nodup (fun x hx=>by
  obtain⟨b,ha,rfl⟩:=aW.1 hx;exact h b ha)
 rwa [aE]at h1
def Ay (base bb kb im:Nat) (k:dm) (c:fL) (gs:List (ByteArray×Int)) (gv v:Value) (bs:List dq) (UR:List cX) (res:Except Int (List UInt8×List (List UInt8))) (w:World) (e:Ending) (w':World):Prop:=match res with
 | .error x=>e= .returned (.tuple #[.agg #[.string ⟨#[]⟩, .int .i64 0, .int .i64 0], .int .i64 x])/\x≠0/\ ∃v' bs',kD w' base bb k c gv im kb v' bs'/\jl base bb kb v v' w w'
 | .ok p=>e= .returned (.tuple #[fa (bD k gs p.1), .int .i64 0])/\FX UR (et k gs p.2 bs)/\ ∃v',kD w' base bb k c gv im kb v' (et k gs p.2 bs)/\jl base bb kb v v' w w'
def Nh (base bb kb im:Nat) (k:dm) (c:fL) (gs:List (ByteArray×Int)) (tree:List dj) (gv:Value) (UR:List cX) (n:Nat):Prop:= ∀(path:ByteArray) (v:Value) (bs:List dq) (w:World),
 514<=path.size+n->(path.size=0\/ ∃e∈tree,e.path=path)->kD w base bb k c gv im kb v bs->kR (· <base) w gv gs->Ee w base im tree->FX UR bs->rx w->base<=w.heap.size->
 Calls Tryz.prog 73 #[.pointer (some ⟨bb,0,none⟩), .string path] w (Ay base bb kb im k c gs gv v bs UR (gQ k gs c tree n path) w)
theorem Ll {base bb kb im:Nat} {k:dm} {c:fL} {gs:List (ByteArray×Int)} {tree:List dj} {gv:Value} {UR:List cX} (hX:KA base bb kb im k c gs tree UR):Nh base bb kb im k c gs tree gv UR 0:=by
 intro path v bs w hn hp
 exfalso
 rcases hp with h | ⟨e,he,rfl⟩
 ·omega
 ·have:=ms (cY (hX.val e he));rw[<-bi]at this;omega
theorem pP {l:List UInt8} (h:l≠[]):(cu l).length<l.length:=by
 by_cases hp:cu l=[]
 ·rw[hp];exact List.length_pos_iff.2 h
 ·obtain⟨t,ht⟩:=qE hp;have:=congrArg List.length ht;rw[ar,aG]at this;omega
theorem AU {c:fL} (hc:jJ c=true) (x:List UInt8):(fS c x).length<=x.length:=by
 have h1:(fS c x).flatten=x:=xo;have h2: ∀(l:List (List UInt8)),(∀y∈l,1<=y.length)->l.length<=l.flatten.length:=by
  intro l
  induction l with
  | nil=>simp
  | cons y l ih=>
   intro h;have:=ih (fun z hz=>h z (by simp[hz]));have:=h y (by simp);simp only[aG,iC,ar];omega
 have h3:=h2 (fS c x) (fun y hy=>(AV hc x y hy).1)
 rwa [h1]at h3
section
variable {P : Program} {ops : Array Oper} {Q : Exit → Act → World → Prop} {S : World → Prop}
theorem sS {dst dst2:Option Tmp} {op op2:Op} {ty ty2:TypeId} {pos pos2:String} {aft aft2:Array Edge} {g g2:Option (Nat×Bool)} {fuel:Nat} {listed:Array Bool} {a:Act} {w:World} (i j:Nat) (hi:ops[i]? =some ⟨dst,op,ty,pos,aft,g⟩) (hj:ops[j]? =some ⟨dst2,op2,ty2,pos2,aft2,g2⟩) (hr:Region.ready .any ops listed=[i,j])
  (hw:Region.wanted ⟨dst,op,ty,pos,aft,g⟩ (yielded ops a.tmps)=true) (hw2:Region.wanted ⟨dst2,op2,ty2,pos2,aft2,g2⟩ (yielded ops a.tmps)=true)
  (h: ∀K:Act->World->Prop,(∀a w,S w/\qk P ops Q S fuel (listed.setIfInBounds i true) a w->K a w)->wpList P #[] (Exit.then K Q) [⟨dst,op,ty,pos, #[],none⟩] a w)
  (h2: ∀K:Act->World->Prop,(∀a w,S w/\qk P ops Q S fuel (listed.setIfInBounds j true) a w->K a w)->wpList P #[] (Exit.then K Q) [⟨dst2,op2,ty2,pos2, #[],none⟩] a w):qk P ops Q S (fuel+1) listed a w:=by
 refine qk.of (wpAnyH_all hr (by simp) fun m hm=> ?_);have ha:m=i\/m=j:=by simpa using hm
 rcases ha with rfl | rfl
 ·have hb:xW P ops (fun a' w'=>S w'/\wpAnyH P .any ops Q S fuel (listed.setIfInBounds m true) a' w') Q [⟨dst,op,ty,pos,aft,g⟩] a w:=
   ei hw (fun K hK=>h K (fun a w hh=>hK a w ⟨hh.1,hh.2.out⟩))
  unfold wpOp;simp only[hi];exact xW.out hb
 ·have hb:xW P ops (fun a' w'=>S w'/\wpAnyH P .any ops Q S fuel (listed.setIfInBounds m true) a' w') Q [⟨dst2,op2,ty2,pos2,aft2,g2⟩] a w:=
   ei hw2 (fun K hK=>h2 K (fun a w hh=>hK a w ⟨hh.1,hh.2.out⟩))
  unfold wpOp;simp only[hj];exact xW.out hb
end
structure Ef (it : cr) : Prop where
 nm:it.name.size<=512
 lk:it.link.size<=512
 ch:it.chunks.length<=1048576
 rs: ∀r∈it.chunks,r.name.size<=32
 nd:it.node.name.size<=32
 tm:it.time<9223372036854775808
theorem zf {r:cX} (h:r.name.size<=32):(fw r).length<=60:=by
 unfold fw;have h1:=dw r.gen.toNat
 have h2:=dw r.size.toNat
 rw[ar,ar,<-bi];omega
theorem Eu {it:cr} (h:Ef it):(gp it).length<=70000000:=by
 have h1:=dw it.name.size;have h2:=dw it.kind.toNat
 have h3:=dw it.mode.toNat
 have h4:=dw it.time.toNat
 have h5:=dw it.chunks.length;have h6:=dw it.link.size;have h7:=mG fw 60 it.chunks (fun r hr=>zf (h.rs r hr));have h8:=zf h.nd;have hn:=h.nm;have hl:=h.lk;have hc:=h.ch;unfold gp lj;simp only[ar,<-bi]
 split
 ·simp only[ar];omega
 ·split
  ·omega
  ·simp only[ar,<-bi];omega
theorem LV {l:List cr} (h: ∀it∈l,Ef it) (hl:l.length<=4096):(fY l).length<1000000000000:=by
 have h1:=mG gp 70000000 l (fun it ha=>Eu (h it ha));have h2:=dw l.length;unfold fY;rw[ar];have h3:l.length*70000000<=4096*70000000:=dl _ hl;omega
theorem CN (d p:List UInt8):(lV d p).length<=p.length:=by
 unfold lV
 split
 ·rw[List.length_tail,bA]; omega
 ·rw[bA]; omega
theorem mh {e:dj} (h:gX e=true):e.path.size<=512/\e.link.size<=512/\e.data.length<=1048576:=by
 have h1:=ms (cY h);rw[<-bi]at h1;unfold gX kZ at h;rw[aJ]at h;refine⟨h1, ?_⟩;have h2:=h.2
 split at h2
 ·simp only[aJ,aK]at h2;omega
 ·split at h2
  ·simp only[aJ,aK]at h2;omega
  ·split at h2
   ·simp only[aJ,aK,oT]at h2;have:=h2.2.1.2;rw[<-bi]at this;omega
   ·cases h2
theorem qJ (k:dm) (gs:List (ByteArray×Int)) (x:List UInt8):(bD k gs x).name.size=32:=lp _ _ _
theorem pH {k:dm} {gs:List (ByteArray×Int)} {c:fL} {dir:ByteArray} {e:dj} {nd:cX} (hc:jJ c=true) (h:gX e=true) (hok:jE e) (hn:nd.name.size<=32):Ef (cM k gs c dir e nd):=by
 obtain⟨h1,h2,h3⟩:=mh h;have h4:=CN (bl dir) (bl e.path);rw[<-bi e.path]at h4;refine⟨?_,h2, ?_, ?_, ?_, ?_⟩
 ·show ByteArray.size ⟨_⟩<=_
  simp only[ByteArray.size,bU];omega
 ·show(if e.kind=1 then(fS c e.data).map (bD k gs)else []).length<=_
  split
  ·rw[aE];have:=AU hc e.data;omega
  ·simp
 ·show ∀r∈(if e.kind=1 then(fS c e.data).map (bD k gs)else []),_
  intro r hr
  split at hr
  ·obtain⟨x,_,rfl⟩:=aW.1 hr;rw[qJ]; omega
  ·simp at hr
 ·show(if e.kind=2 then nd else ef).name.size<=32
  split
  ·exact hn
  ·decide
 ·have:=hok.tim;simp[Lit.wf,IntKind.min,IntKind.max,IntKind.signed,IntKind.bits]at this
  show e.time<_
  omega
theorem jo {k:dm} {gs:List (ByteArray×Int)} (hgs: ∀p∈gs,0<=p.2/\p.2<=1099511627776) {x:List UInt8} (hx:x.length<=1048576):eC (bD k gs x):=by
 have h1:=zX gs hgs (lW k 0 x);refine⟨by rw[qJ]; unfold maxLen; omega,WalkArith.wf_i64 ?_,WalkArith.wf_i64 ?_⟩
 ·show _<=mH gs _/\mH gs _<=_
  omega
 ·show -9223372036854775808<=(x.length:Int)/\(x.length:Int)<=_
  omega
theorem Lj {k:dm} {gs:List (ByteArray×Int)} {c:fL} {tree:List dj} : ∀ {n:Nat} {d:ByteArray} {p:List UInt8×List (List UInt8)},gQ k gs c tree n d= .ok p->p.1.length<=32768
 | 0,_,_,h=>by simp[gQ]at h
 | n+1,d,p,h=>by
  rw[gQ]at h
  split at h
  ·cases h
  ·split at h
   ·split at h
    ·simp only[dr]at h;subst h
     assumption
    ·cases h
   ·cases h
theorem zD {k:dm} {gs:List (ByteArray×Int)} {c:fL} {rec:ByteArray->Except Int (List UInt8×List (List UInt8))} {dir:ByteArray} {e:dj} {r:List dj} {its:List cr} {cs:List (List UInt8)} (h:e.kind=1):gT k gs c rec dir (e::r) its cs=gT k gs c rec dir r (its++[cM k gs c dir e ef]) (cs++fS c e.data):=by rw[gT,if_pos h]
theorem wU {k:dm} {gs:List (ByteArray×Int)} {c:fL} {rec:ByteArray->Except Int (List UInt8×List (List UInt8))} {dir:ByteArray} {e:dj} {r:List dj} {its:List cr} {cs:List (List UInt8)} (h:e.kind=2):gT k gs c rec dir (e::r) its cs=match rec e.path with
  | .error x=> .error x
  | .ok p=>gT k gs c rec dir r (its++[cM k gs c dir e (bD k gs p.1)]) (cs++p.2):=by
 rw[gT,if_neg (by omega),if_pos h]
 cases rec e.path<;> rfl
theorem Jc {k:dm} {gs:List (ByteArray×Int)} {c:fL} {rec:ByteArray->Except Int (List UInt8×List (List UInt8))} {dir:ByteArray} {e:dj} {r:List dj} {its:List cr} {cs:List (List UInt8)} (h1:e.kind≠1) (h:e.kind≠2):gT k gs c rec dir (e::r) its cs=gT k gs c rec dir r (its++[cM k gs c dir e ef]) cs:=by rw[gT,if_neg h1,if_neg h]
theorem Lk {base bb kb im:Nat} {k:dm} {c:fL} {gs:List (ByteArray×Int)} {tree:List dj} {gv:Value} {UR:List cX} (n:Nat) (hX:KA base bb kb im k c gs tree UR) (hn514:n+1<=514) (IH:Nh base bb kb im k c gs tree gv UR n):Nh base bb kb im k c gs tree gv UR (n+1):=by
 intro path v bs w hn hp h hg y6 hu hE hd;have hf:=an hX;have YG:=an IH;have YI:=an hp;have HH:=an h;have HG:=an hg;have YF:=an y6;have HU:=an hu;have HE:=an hE;have Y9:path.size<=512:=by
  rcases hp with h | ⟨e,he,rfl⟩
  ·omega
  ·have:=ms (cY (hX.val e he));rw[<-bi]at this;exact this
 obtain⟨W0,HW⟩: ∃W0,W0=w.alloc (.cells #[.string ⟨#[]⟩, .int .i64 0, .int .i64 0] 26):=⟨_,rfl⟩;have H1:Below w.heap.size w W0:=by rw[HW]; exact eN
 have Hk:=jl.ofBelow (bb:=bb) (kb:=kb) (v:=v) H1 hd;obtain⟨ev,ys,YT,Yd,Hm,Hj⟩:=Ly (y6.keep h Hk hX.ikb) (d:=path) (by unfold maxLen; omega);obtain⟨ea,ec,YR,YQ,YP⟩:=aI Hm;subst YR;unfold maxLen at YP;obtain⟨m,hm⟩: ∃m,m=ys.length:=⟨_,rfl⟩;have Hg:=an (show Ec w base bb im kb k c gv v (.slice ea m ec) ys W0 v (.slice none 0 0) bs []from⟨h.below H1,Hk,lC.nil _ _,by rw[hm]; exact Hm,by rw[HW]; exact dY w _⟩)
 rw[<-hm]at YT YQ;have HM:=an hm;have Yo:=an Yd;have H6:=an (show ∀y∈ys,dJ (· <base) w y.1 y.2.data/\jE y.2 from fun y hy=>⟨cE.same (Hj y hy).1 (fun i hi=>(H1.block i (aR hi hd)).symm),(Hj y hy).2⟩);have hw:=an Hg.o.bd.box;have Y7:m<=4096:=by
  rw[hm,<-aE (f:=Prod.snd),Yd];exact aB (dF _ _) hX.len
 have k0:=aA (k:=0) hw.o;have k1:=aA (k:=1) hw.o;have k2:=aA (k:=2) hw.o;have k3:=aA (k:=3) hw.o;have k4:=aA (k:=4) hw.o;have k10:=aA (k:=10) hw.o;have k11:=aA (k:=11) hw.o;have k12:=aA (k:=12) hw.o;have k13:=aA (k:=13) hw.o;simp only[nr,eI,fR,aM,aL,ak,am,aj]at k0 k1 k2 k3 k4 k10 k11 k12 k13
 clear hX IH hp h hg y6 hu hE Hm Hj Yd hm H1 Hk
 go_enter Tryz.func73,Tryz.ntmps73
 go_upto_region 2 with(fail)
 rw[<-HW];clear HW;go_wp2_with fail
 go_loopw [6,20] (fun iv i wr=> ∃(j:Nat) (v2:Value) (its:List cr) (cs2:List (List UInt8)),j<=m/\i= .int .i64 (j:Int)/\its.length=j/\gT k gs c (gQ k gs c tree n) path ((gR tree path).drop j) its cs2=gT k gs c (gQ k gs c tree n) path (gR tree path) [] []/\FX UR (et k gs cs2 bs)/\(∀it∈its,Ef it)/\Ec w base bb im kb k c gv v (.slice ea m ec) ys wr v2 iv (et k gs cs2 bs) its) (fun _ i _=>m-(intOf i).toNat)
 case atStart=>exact⟨0,v,[],[],aX _,rfl,rfl,rfl,HU.o,by simp,Hg.o⟩
 case round=>
  obtain⟨j,v2,its,cs2,hj,rfl,y8,Yv,Yu,Yy,y7⟩:=hrel;have Hi:=an y8;have Hq:=an Yv;have Ho:=an Yu;have HA:=an Yy;have hD:=an y7;obtain⟨zs,Yg,Yf,YB⟩:=y7.its.row;obtain⟨ia,ic,YS,-,-⟩:=aI Yf;subst YS;have Ye:zs.length=j:=by rw[<-y8,<-Yg,aE]
  have Y1:=an Yg;have HT:=an Yf;have YZ:=an YB;rw[Ye]at hD HT ⊢;have Y0:=an Ye;clear y8 Yv Yu Yy y7 Yg Yf YB Ye Hg hw
  by_cases YU:j<m
  ·obtain⟨⟨dv,e⟩,hy⟩: ∃y,ys[j]? =some y:=⟨ys[j]'(by rw[<-HM.o]; exact YU),by simp⟩;have y4:=H6.o (dv,e) (aS hy);obtain⟨da,dc,Ys,Y5,Y4⟩:=dJ.slice y4.1;simp only at Ys;subst Ys;obtain⟨b,rfl,Y2,Y3,-,p0,p1,p2,p3,p4,p5⟩:=NX hD.o.ents hy;simp only at p0 p1 p2 p3 p4 p5;have HV:(gR tree path)[j]? =some e:=by rw[<-Yo.o,bn,hy]; rfl
   have Hl:=fj.1 (aS HV);have y5:e∈tree:=Hl.1;have HL:cu (bl e.path)=bl path:=by have:=Hl.2; simpa using this
   have Hn:=hf.o.val e y5;have H2:=cY Hn;have Y6:e.path.size<=512:=by have:=ms H2; rw[<-bi]at this; exact this
   have Y8:path.size<e.path.size:=by
    have h1:=pP (l:=bl e.path) (fun h=>by have:=pY H2; rw[h]at this; simp at this);rw[HL,<-bi,<-bi]at h1;exact h1
   have H8:=an y5;have YX:=an H2;have HQ:=an Hn;have HP:=an y4;have YY:=an HV;have HO:=an (zb HV);have Yj:=an (aB hd hD.o.kp.below.size);clear y4 hy HV Hl y5 HL Hn H2
   go_upto_region 5 with(fail)
   obtain⟨W1,HB⟩: ∃W1:World,W1=(wr.alloc (.cells #[.string e.path, .int .i64 e.kind, .int .i64 e.mode, .int .i64 e.time, .slice da e.data.length dc, .string e.link] 79)).drew:=⟨_,rfl⟩;have Yp:Below wr.heap.size wr W1:=by rw[HB]; exact(eN).drew
   have YC:=an Yp;have HR:=an (show W1.heap[wr.heap.size]? =some (.cells #[.string e.path, .int .i64 e.kind, .int .i64 e.mode, .int .i64 e.time, .slice da e.data.length dc, .string e.link] 79 (0,0)) by rw[HB]; exact dY wr _);have YA:W1.heap.size=wr.heap.size+1:=by rw[HB]; simp[World.drew]
   obtain⟨d0,d1,d2,d3,_⟩:=aT HR.o;have d5:=aA (k:=5) HR.o;simp only[ak,am,aj]at d5;clear p0 p1 p2 p3 p4 p5 Yp;refine ey (fun w'=>w'.cell? ⟨wr.heap.size,0,none⟩=some (.string e.path)/\w'.cell? ⟨wr.heap.size,1,none⟩=some (.int .i64 e.kind)/\w'.cell? ⟨wr.heap.size,2,none⟩=some (.int .i64 e.mode)/\w'.cell? ⟨wr.heap.size,3,none⟩=some (.int .i64 e.time)/\w'.cell? ⟨wr.heap.size,5,none⟩=some (.string e.link)) (by kernel_rfl) (by kernel_rfl) ?_
   simp only[bw,bz,aG,bo,Nat.reduceAdd,Nat.reduceSub];rw[<-HB];clear HB
   iterate 3 (refine cF rfl (by kernel_rfl) (fun _ _ _ h=>h) rfl ⟨d0,d1,d2,d3,d5⟩ (by rintro w' ⟨hZ,h0,h2,h3,h4⟩; go_simp; rfl) ?_; simp only[Act.put,ag,ai,ah])
   refine bJ 4 rfl (by kernel_rfl) (by kernel_rfl) (by kernel_rfl) (fun _ _ _ h=>h) rfl ⟨d0,d1,d2,d3,d5⟩ (by rintro w' ⟨hZ,h0,h2,h3,h4⟩; go_simp; rfl) ?_;simp only[Act.put,ag,ai,ah];refine bJ 5 rfl (by kernel_rfl) (by kernel_rfl) (by kernel_rfl) (fun _ _ _ h=>h) rfl ⟨d0,d1,d2,d3,d5⟩ (by rintro w' ⟨hZ,h0,h2,h3,h4⟩; go_simp; rfl) ?_
   simp only[Act.put,ag,ai,ah];refine bJ 6 rfl (by kernel_rfl) (by kernel_rfl) (by kernel_rfl) (fun _ _ _ h=>h) rfl ⟨d0,d1,d2,d3,d5⟩ (by rintro w' ⟨hZ,h0,h2,h3,h4⟩; go_simp; rfl) ?_;simp only[Act.put,ag,ai,ah];refine bJ 7 rfl (by kernel_rfl) (by kernel_rfl) (by kernel_rfl) (fun _ _ _ h=>h) rfl ⟨d0,d1,d2,d3,d5⟩ (by rintro w' ⟨hZ,h0,h2,h3,h4⟩; go_simp; rfl) ?_
   simp only[Act.put,ag,ai,ah];refine bJ 8 rfl (by kernel_rfl) (by kernel_rfl) (by kernel_rfl) (fun _ _ _ h=>h) rfl ⟨d0,d1,d2,d3,d5⟩ (by rintro w' ⟨hZ,h0,h2,h3,h4⟩; go_simp; rfl) ?_;simp only[Act.put,ag,ai,ah];refine bJ 9 rfl (by kernel_rfl) (by kernel_rfl) (by kernel_rfl) (fun _ _ _ h=>h) rfl ⟨d0,d1,d2,d3,d5⟩ (by rintro w' ⟨hZ,h0,h2,h3,h4⟩; go_simp; rfl) ?_
   simp only[Act.put,ag,ai,ah];refine bJ 10 rfl (by kernel_rfl) (by kernel_rfl) (by kernel_rfl) (fun _ _ _ h=>h) rfl ⟨d0,d1,d2,d3,d5⟩ (by rintro w' ⟨hZ,h0,h2,h3,h4⟩; go_simp; rfl) ?_;simp only[Act.put,ag,ai,ah];refine bJ 11 rfl (by kernel_rfl) (by kernel_rfl) (by kernel_rfl) (fun _ _ _ h=>h) rfl ⟨d0,d1,d2,d3,d5⟩ (by rintro w' ⟨hZ,h0,h2,h3,h4⟩; go_simp; rfl) ?_
   simp only[Act.put,ag,ai,ah];obtain⟨W2,HZ⟩: ∃W2:World,W2=W1.alloc (.cells #[.string ⟨#[]⟩, .int .i64 0, .int .i64 0, .int .i64 0, .int .i64 0, .string ⟨#[]⟩, .slice none 0 0, .string ⟨#[]⟩, .int .i64 0, .int .i64 0] 28):=⟨_,rfl⟩;have yn:Below W1.heap.size W1 W2:=by rw[HZ]; exact eN
   have H3:=dV yn HR.o;have Yz:W2.heap[wr.heap.size+1]? =some (.cells #[.string ⟨#[]⟩, .int .i64 0, .int .i64 0, .int .i64 0, .int .i64 0, .string ⟨#[]⟩, .slice none 0 0, .string ⟨#[]⟩, .int .i64 0, .int .i64 0] 28 (0,0)):=by rw[HZ,<-YA]; exact dY W1 _
   have Ym:=an H3;have HS:=an Yz;have YD:=an (aw YC.o yn);have Yl:=an HZ;obtain⟨nm,Yx⟩: ∃nm:ByteArray,nm=⟨(lV (bl path) (bl e.path)).toArray⟩:=⟨_,rfl⟩;have Hu:=an Yx;obtain⟨d0',d1',d2',d3',_⟩:=aT H3;have d5':=aA (k:=5) H3;simp only[ak,am,aj]at d5';clear HZ yn H3 Yz Yx
   refine sS 3 13 rfl rfl (by kernel_rfl) rfl rfl (fun K hK=> ?ca) (fun K hK=> ?al)
   case' ca=>
    go_wp2_with fail;refine(Db path e.path W1 (by omega)).mono ?_;rintro e' w' ⟨rfl,rfl⟩;rw[<-Hu.o];go_wp2_with fail;refine⟨⟨d0,d1,d2,d3,d5⟩, ?_⟩;refine bJ 12 rfl (by kernel_rfl) (by kernel_rfl) (by kernel_rfl) (fun _ _ _ h=>h) rfl ⟨d0,d1,d2,d3,d5⟩ (by rintro w' ⟨hZ,h0,h2,h3,h4⟩; go_simp; rfl) ?_;simp only[Act.put,ag,ai,ah]
    refine cy 13 rfl (fun K hK=> ?_);go_wp2_with fail;rw[<-Yl.o]
    (first | (refine⟨⟨d0',d1',d2',d3',d5'⟩, ?_⟩) | skip)
   case' al=>
    go_wp2_with fail;rw[<-Yl.o]
    (first | (refine⟨⟨d0',d1',d2',d3',d5'⟩, ?_⟩) | skip)
    refine cy 3 rfl (fun K hK=> ?_);go_wp2_with fail;refine(Db path e.path W2 (by omega)).mono ?_;rintro e' w' ⟨rfl,rfl⟩;rw[<-Hu.o];go_wp2_with fail;refine⟨⟨d0',d1',d2',d3',d5'⟩, ?_⟩;refine bJ 12 rfl (by kernel_rfl) (by kernel_rfl) (by kernel_rfl) (fun _ _ _ h=>h) rfl ⟨d0',d1',d2',d3',d5'⟩ (by rintro w' ⟨hZ,h0,h2,h3,h4⟩; go_simp; rfl) ?_;simp only[Act.put,ag,ai,ah]
   all_goals
    refine cH (by kernel_rfl) ?_;clear d0 d1 d2 d3 d5 d0' d1' d2' d3' d5' HR;refine eJ rfl rfl (fun K hK=> ?_);obtain⟨i0,i1,i2,i3,i4,i5,i6,i7,i8,i9,_⟩:=aT HS.o;obtain⟨g0,g1,g2,g3,g4,g5,g6,g7,g8,g9,_⟩:=gu HS.o
    go_upto_region 6 with(fail)
    obtain⟨W3,HC⟩: ∃W3:World,W3=((((((((((W2.setCell ⟨wr.heap.size+1,0,none⟩ (.string nm)).setCell ⟨wr.heap.size+1,1,none⟩ (.int .i64 e.kind)).setCell ⟨wr.heap.size+1,2,none⟩ (.int .i64 e.mode)).setCell ⟨wr.heap.size+1,3,none⟩ (.int .i64 e.time)).setCell ⟨wr.heap.size+1,4,none⟩ (.int .i64 0)).setCell ⟨wr.heap.size+1,5,none⟩ (.string e.link)).setCell ⟨wr.heap.size+1,6,none⟩ (.slice none 0 0)).setCell ⟨wr.heap.size+1,7,none⟩ (.string ⟨#[]⟩)).setCell ⟨wr.heap.size+1,8,none⟩ (.int .i64 0)).setCell ⟨wr.heap.size+1,9,none⟩ (.int .i64 0)):=⟨_,rfl⟩
    rw[<-HC];have Yi:=an (show Below wr.heap.size wr W3 by rw[HC]; exact ij YD.o (by show wr.heap.size<=wr.heap.size+1; omega));have HX:=an (show W3.heap[wr.heap.size]? =some (.cells #[.string e.path, .int .i64 e.kind, .int .i64 e.mode, .int .i64 e.time, .slice da e.data.length dc, .string e.link] 79 (0,0)) by rw[HC]; exact(mj (show wr.heap.size≠wr.heap.size+1 by omega)).trans Ym.o)
    have HY:=an (show W3.heap[wr.heap.size+1]? =some (.cells #[.string nm, .int .i64 e.kind, .int .i64 e.mode, .int .i64 e.time, .int .i64 0, .string e.link, .slice none 0 0, .string ⟨#[]⟩, .int .i64 0, .int .i64 0] 28 (0,0)) by rw[HC]; exact Af HS.o);have hz:=an (hD.o.below Yi.o Yj.o);have za:wr.heap.size+1<W3.heap.size:=az HY.o;clear HC i0 i1 i2 i3 i4 i5 i6 i7 i8 i9 g0 g1 g2 g3 g4 g5 g6 g7 g8 g9 YA Ym HS
    obtain⟨d0,d1,_⟩:=aT HX.o;have d4:=aA (k:=4) HX.o;simp only[ak,am,aj]at d4;obtain⟨i0,i1,i2,i3,i4,i5,i6,i7,i8,i9,_⟩:=aT HY.o;obtain⟨g0,g1,g2,g3,g4,g5,g6,g7,g8,g9,_⟩:=gu HY.o
    by_cases Hp:e.kind=1
    ·have e1:(e.kind == 1)=true:=by simp[Hp]
     have hL:=an Hp;clear Hp
     go_upto_region 10 with(fail)
     obtain⟨W4,HD⟩: ∃W4:World,W4=W3.setCell ⟨wr.heap.size+1,4,none⟩ (.int .i64 (e.data.length:Int)):=⟨_,rfl⟩;rw[<-HD];have Yq:Below wr.heap.size wr W4:=by rw[HD]; exact cC Yi.o (by show wr.heap.size<=wr.heap.size+1; omega) _
     have yc:=an (show W4.heap[wr.heap.size]? =some (.cells #[.string e.path, .int .i64 e.kind, .int .i64 e.mode, .int .i64 e.time, .slice da e.data.length dc, .string e.link] 79 (0,0)) by rw[HD]; exact(aF _ _ _ _ (by show wr.heap.size≠wr.heap.size+1; omega)).trans HX.o);have H4:=jf (k:=4) HY.o (.int .i64 (e.data.length:Int));simp only[ag,ai,ah]at H4
     rw[<-HD]at H4;have YN:=an H4;have hB:=an (hD.o.below Yq Yj.o);have Yr:=(mh HQ.o).2.2;have Yb:=Ho.o.len hD.o.bd;have Yc:=hf.o.usz;have YO:=AU hf.o.cut e.data;have Yt:=Im (· <base) base bb kb im k c gs gv v2 (.slice da e.data.length dc) (et k gs cs2 bs) e.data W4 hB.o.bd hf.o.keys hf.o.cut hf.o.seed (HG.o.keep (fun i h1 _=>hB.o.kp.below.block i h1)) hf.o.gens
      (pE HP.o.1 hB.o.kp.below) Yr (HE.o.keep hB.o.kp.below hf.o.seven) hf.o.bbb hf.o.bkb (aB hd hB.o.kp.below.size) hf.o.seven (by omega)
     have YE:=an Yt;clear HD Yq H4 Yr Yb Yc YO Yt d0 d1 d4 i0 i1 i2 i3 i4 i5 i6 i7 i8 i9 g0 g1 g2 g3 g4 g5 g6 g7 g8 g9;obtain⟨d0,d1,_⟩:=aT yc.o;have d4:=aA (k:=4) yc.o;simp only[ak,am,aj]at d4;go_wp2_with fail;refine YE.o.mono ?_;rintro e' w5 ⟨rv,v5,rfl,h9,hI,hA⟩;obtain⟨ra,rc,rfl,-,-⟩:=aI h9
     have ha:=an (hB.o.step hI hA);have hk:=hA.blk hB.o.bd YN.o (by decide) (by decide);have YV:=hA.blk hB.o.bd yc.o (by decide) (by decide);obtain⟨rn,Ya⟩: ∃rn,rn=((fS c e.data).map (bD k gs)).length:=⟨_,rfl⟩;have YJ:=an Ya;rw[<-Ya]at h9 ⊢;have i6:=aA (k:=6) hk;have g6:=dy (k:=6) hk;simp only[ak,am,aj]at i6
     have Hy:=an h9;have yl:=an hk;clear hI hA YV hk Ya h9 d0 d1 d4
     go_upto_region 15 with(fail)
     obtain⟨W6,hH⟩: ∃W6:World,W6=w5.setCell ⟨wr.heap.size+1,6,none⟩ (.slice ra rn rc):=⟨_,rfl⟩;rw[<-hH];have H5:=jf (k:=6) yl.o (.slice ra rn rc);simp only[ag,ai,ah]at H5;rw[<-hH]at H5;have hF:=an (show Ec w base bb im kb k c gv v (.slice (some ⟨b,0,none⟩) m ec) ys W6 v5 (.slice ia j ic) (et k gs (fS c e.data) (et k gs cs2 bs)) its by
      rw[hH];exact ha.o.otherSet yl.o (by decide) (by decide) (by decide) (by decide) (by decide) (fun e'=>by have:=(HT.o.lt _ e').2; omega) (by have:=hD.o.kp.below.size; omega) hd)
     have Hz:=an (show W6.ownsRow w.heap.size 26 3 (.slice ra rn rc) rn (((fS c e.data).map (bD k gs)).flatMap ji) by
      rw[hH];have y9:=hB.o.kp.below.size;refine(fT Hy.o y9).kept (cJ _ _ _ _) (.inr (fun e'=> ?_));obtain⟨cs2',yp⟩:=bL Hy.o e';exact absurd (bV yl.o yp) (by decide))
     clear i6 g6;obtain⟨it,hs⟩: ∃it,it=cM k gs c path e ef:=⟨_,rfl⟩;have hV:it.chunks=(fS c e.data).map (bD k gs):=by rw[hs]; unfold cM; simp only[if_pos hL.o]
     have Hc:=an (show W6.heap[wr.heap.size+1]? =some (.cells #[.string it.name, .int .i64 it.kind, .int .i64 it.mode, .int .i64 it.time, .int .i64 it.size, .string it.link, .slice ra rn rc, .string it.node.name, .int .i64 it.node.gen, .int .i64 it.node.size] 28 (0,0)) by
      rw[H5,Hu.o,hs];unfold cM;simp only[if_pos hL.o,if_neg (show ¬e.kind=2 by rw[hL.o]; decide)]
      rfl)
     have hO:=an (show W6.ownsRow w.heap.size 26 3 (.slice ra rn rc) it.chunks.length (it.chunks.flatMap ji) by rw[hV,<-YJ.o]; exact Hz.o);have hP:=an (show Ef it by rw[hs]; exact pH hf.o.cut HQ.o HP.o.2 (by decide));have hM:=an (show ii it from⟨by have:=hP.o.nm; unfold maxLen; omega,by have:=hP.o.lk; unfold maxLen; omega,by rw[hs]; unfold cM; simp only[if_neg (show ¬e.kind=2 by rw[hL.o]; decide)]; exact nU⟩)
     have hN:=an (show ∀r∈it.chunks,eC r by
      rw[hV];intro r hr;obtain⟨x,hx,rfl⟩:=aW.1 hr;have:=(AV hf.o.cut e.data x hx).2;exact jo hf.o.gens (by omega))
     have Hr:=an (show gT k gs c (gQ k gs c tree n) path (e::(gR tree path).drop (j+1)) its cs2=gT k gs c (gQ k gs c tree n) path ((gR tree path).drop (j+1)) (its++[it]) (cs2++fS c e.data) by rw[hs]; exact zD hL.o);have hJ:=an (show FX UR (et k gs (cs2++fS c e.data) bs) by rw[ju]; exact Ho.o.puts (hf.o.u1 e H8.o));rw[<-ju]at hF
     clear hs hV HY hH H5;obtain⟨zs4,hq,hh,hG⟩:=hF.o.its.row;have ho:zs4.length=j:=by rw[<-Hi.o,<-hq,aE]
     have hU:=an hq;have hS:=an hh;have hQ:=an hG;have hR:=an ho;have HN:w.heap.size<=(W6).heap.size:=hF.o.kp.below.size;have HJ:j<1099511627775:=by omega
     rw[ho]at hh;have hT:=an hh;clear hq hh hG ho;obtain⟨i0,i1,i2,i3,i4,i5,i6,i7,i8,i9,_⟩:=aT Hc.o;obtain⟨g0,g1,g2,g3,g4,g5,g6,g7,g8,g9,_⟩:=gu Hc.o;go_wp2_with (at_builtin; go_must (refine bR Tryz.appItems rfl _ _ rfl w.heap.size (.slice ia j ic) j (pI zs4) rfl (W6) [.string it.name, .int .i64 it.kind, .int .i64 it.mode, .int .i64 it.time, .int .i64 it.size, .string it.link, .slice ra rn rc, .string it.node.name, .int .i64 it.node.gen, .int .i64 it.node.size] _ rfl rfl (kH (it:=it)) hT.o HJ HN ?_); intro v' wc hc hb _ _; obtain⟨ae,ce,rfl,-,-⟩:=aI hc; have Hv:=an (hF.o.push (it:=it) hU.o hS.o hQ.o (by rw[hR.o]; exact hc) hb hO.o hM.o hN.o hd); clear hc hb)
     clear i0 i1 i2 i3 i4 i5 i6 i7 i8 i9 g0 g1 g2 g3 g4 g5 g6 g7 g8 g9
     go_roundw
     case rel=>exact⟨j+1,_,its++[it],(cs2++fS c e.data),by omega,by go_num,by simp[Hi.o],by rw[<-Hq.o,HO.o,Hr.o],hJ.o,fun y hy=>by
      rcases aU.1 hy with hy | hy
      ·exact HA.o y hy
      ·rw[aQ]at hy; subst hy; exact hP.o,Hv.o⟩
     case measure=>simp[intOf]; omega
    ·have e1:(e.kind == 1)=false:=by simp[Hp]
     have hL:=an Hp;clear Hp
     by_cases hY:e.kind=2
     ·have e2:(e.kind == 2)=true:=by simp[hY]
      have Hb:=an hY;have Hf:=YG.o e.path v2 (et k gs cs2 bs) W3 (by omega) (.inr ⟨e,H8.o,rfl⟩) hz.o.bd (HG.o.keep (fun i h1 _=>hz.o.kp.below.block i h1)) (YF.o.keep HH.o hz.o.kp hf.o.ikb) Ho.o (HE.o.keep hz.o.kp.below hf.o.seven) (aB hd hz.o.kp.below.size);unfold Ay at Hf;clear hY
      cases He:gQ k gs c tree n e.path with
      | error x=>
       rw[He]at Hf;have Hw:=an Hf;have Hx:=an (show gT k gs c (gQ k gs c tree n) path (gR tree path) [] []= .error x by rw[<-Hq.o,HO.o,wU Hb.o,He]);clear Hf He;go_wp2_with fail;refine Hw.o.mono ?_;rintro e' w5 ⟨rfl,hx,v5,bs5,hI,hA⟩;have ha:=an (hz.o.step hI hA);have e4:(x != 0)=true:=by simp[hx]
       have YM:=an hx;clear hx d0 d1 d4 i0 i1 i2 i3 i4 i5 i6 i7 i8 i9 g0 g1 g2 g3 g4 g5 g6 g7 g8 g9;have hk:=hA.blk hz.o.bd HY.o (by decide) (by decide);have h8:(Value.slice ia j ic).ownBlock≠some (wr.heap.size+1):=fun e'=>by have:=(HT.o.lt _ e').2; omega
       have h7:w.heap.size<=wr.heap.size+1:=by have:=hD.o.kp.below.size; omega
       have a1:=ha.o.otherSet (q:=7) (u:= .string ⟨#[]⟩) hk (by decide) (by decide) (by decide) (by decide) (by decide) h8 h7 hd;have y1:=jf (k:=7) hk (.string ⟨#[]⟩);have a2:=a1.otherSet (q:=8) (u:= .int .i64 0) y1 (by decide) (by decide) (by decide) (by decide) (by decide) h8 h7 hd;have y2:=jf (k:=8) y1 (.int .i64 0);have a3:=a2.otherSet (q:=9) (u:= .int .i64 0) y2 (by decide) (by decide) (by decide) (by decide) (by decide) h8 h7 hd
       have y3:=jf (k:=9) y2 (.int .i64 0);simp only[ag,ai,ah]at y3;have i7:=aA (k:=7) hk;have i8:=aA (k:=8) hk;have i9:=aA (k:=9) hk;have g7:=dy (k:=7) hk;have g8:=dy (k:=8) hk;have g9:=dy (k:=9) hk;simp only[ak,am,aj]at i7 i8 i9
       obtain⟨W6,hH⟩: ∃W6:World,W6=((w5.setCell ⟨wr.heap.size+1,7,none⟩ (.string ⟨#[]⟩)).setCell ⟨wr.heap.size+1,8,none⟩ (.int .i64 0)).setCell ⟨wr.heap.size+1,9,none⟩ (.int .i64 0):=⟨_,rfl⟩;rw[<-hH]at a3 y3;have hF:=an a3;have Yn:=an y3;clear a1 y1 a2 y2 a3 y3 hk h8 h7
       go_upto_region 13 with(fail)
       rw[<-hH];clear hH i7 i8 i9 g7 g8 g9;have hC:=an hF.o.res;obtain⟨z0,z1,z2,_⟩:=aT hC.o;obtain⟨y0,y1,y2,_⟩:=gu hC.o;go_wp2_with fail;refine vF hC.o rfl rfl rfl ?_;have Ha:=an (show gQ k gs c tree (n+1) path= .error x by rw[gQ,Hx.o]);rw[Ha.o];exact⟨rfl,YM.o,v5,bs5,hF.o.bd.other hC.o (by decide) (by decide) (by decide) (fun i hi _=>eh hi),((hF.o.kp.setNew (au _) hd).setNew (au _) hd).setNew (au _) hd⟩
      | ok p=>
       rw[He]at Hf
       dsimp only at Hf
       have Hw:=an Hf;have Hs:=an (show gT k gs c (gQ k gs c tree n) path (e::(gR tree path).drop (j+1)) its cs2=gT k gs c (gQ k gs c tree n) path ((gR tree path).drop (j+1)) (its++[cM k gs c path e (bD k gs p.1)]) (cs2++p.2) by rw[wU Hb.o,He]);have H7:=an (Lj He);have YW:=an (hf.o.u2 n e.path p (by omega) (.inr ⟨e,H8.o,rfl⟩) He)
       obtain⟨r,hr⟩: ∃r,r=bD k gs p.1:=⟨_,rfl⟩;have Yk:=an hr;have YK:=an (show eC r by rw[hr]; exact jo hf.o.gens (by have:=H7.o; omega));have yb:=an (show r.name.size=32 by rw[hr]; exact qJ _ _ _);rw[<-hr]at Hw Hs;unfold fa at Hw;clear Hf He hr;go_wp2_with fail;refine Hw.o.mono ?_;rintro e' w5 ⟨rfl,HI,v5,hI,hA⟩;have H9:=an HI
       have ha:=an (hz.o.step hI hA);clear HI d0 d1 d4 i0 i1 i2 i3 i4 i5 i6 i7 i8 i9 g0 g1 g2 g3 g4 g5 g6 g7 g8 g9;have hk:=hA.blk hz.o.bd HY.o (by decide) (by decide);have h8:(Value.slice ia j ic).ownBlock≠some (wr.heap.size+1):=fun e'=>by have:=(HT.o.lt _ e').2; omega
       have h7:w.heap.size<=wr.heap.size+1:=by have:=hD.o.kp.below.size; omega
       have a1:=ha.o.otherSet (q:=7) (u:= .string r.name) hk (by decide) (by decide) (by decide) (by decide) (by decide) h8 h7 hd;have y1:=jf (k:=7) hk (.string r.name);have a2:=a1.otherSet (q:=8) (u:= .int .i64 r.gen) y1 (by decide) (by decide) (by decide) (by decide) (by decide) h8 h7 hd;have y2:=jf (k:=8) y1 (.int .i64 r.gen);have a3:=a2.otherSet (q:=9) (u:= .int .i64 r.size) y2 (by decide) (by decide) (by decide) (by decide) (by decide) h8 h7 hd
       have y3:=jf (k:=9) y2 (.int .i64 r.size);simp only[ag,ai,ah]at y3;have i7:=aA (k:=7) hk;have i8:=aA (k:=8) hk;have i9:=aA (k:=9) hk;have g7:=dy (k:=7) hk;have g8:=dy (k:=8) hk;have g9:=dy (k:=9) hk;simp only[ak,am,aj]at i7 i8 i9
       obtain⟨W6,hH⟩: ∃W6:World,W6=((w5.setCell ⟨wr.heap.size+1,7,none⟩ (.string r.name)).setCell ⟨wr.heap.size+1,8,none⟩ (.int .i64 r.gen)).setCell ⟨wr.heap.size+1,9,none⟩ (.int .i64 r.size):=⟨_,rfl⟩;rw[<-hH]at a3 y3;have hF:=an a3;have Yn:=an y3;clear a1 y1 a2 y2 a3 y3 hk h8 h7
       go_upto_region 13 with(fail)
       rw[<-hH];clear hH i7 i8 i9 g7 g8 g9
       go_upto_region 15 with(fail)
       obtain⟨it,hs⟩: ∃it,it=cM k gs c path e r:=⟨_,rfl⟩;have hV:it.chunks=[]:=by rw[hs]; unfold cM; simp only[if_neg hL.o]
       have Hc:=an (show W6.heap[wr.heap.size+1]? =some (.cells #[.string it.name, .int .i64 it.kind, .int .i64 it.mode, .int .i64 it.time, .int .i64 it.size, .string it.link, .slice none 0 0, .string it.node.name, .int .i64 it.node.gen, .int .i64 it.node.size] 28 (0,0)) by
        rw[Yn.o,Hu.o,hs];unfold cM;simp only[if_neg hL.o,if_pos Hb.o])
       have hO:=an (show W6.ownsRow w.heap.size 26 3 (.slice none 0 0) it.chunks.length (it.chunks.flatMap ji) by rw[hV]; exact bN _ _ _ _);have hP:=an (show Ef it by rw[hs]; exact pH hf.o.cut HQ.o HP.o.2 (by rw[yb.o]; decide));have hM:=an (show ii it from⟨by have:=hP.o.nm; unfold maxLen; omega,by have:=hP.o.lk; unfold maxLen; omega,by rw[hs]; unfold cM; simp only[if_pos Hb.o]; exact YK.o⟩)
       have hN:=an (show ∀r∈it.chunks,eC r by rw[hV]; simp);have Hr:=an (show gT k gs c (gQ k gs c tree n) path (e::(gR tree path).drop (j+1)) its cs2=gT k gs c (gQ k gs c tree n) path ((gR tree path).drop (j+1)) (its++[it]) (cs2++p.2) by rw[hs]; exact Hs.o);have hJ:=an (show FX UR (et k gs (cs2++p.2) bs) by rw[ju]; exact H9.o)
       rw[<-ju]at hF;clear hs hV;obtain⟨zs4,hq,hh,hG⟩:=hF.o.its.row;have ho:zs4.length=j:=by rw[<-Hi.o,<-hq,aE]
       have hU:=an hq;have hS:=an hh;have hQ:=an hG;have hR:=an ho;have HN:w.heap.size<=(W6).heap.size:=hF.o.kp.below.size;have HJ:j<1099511627775:=by omega
       rw[ho]at hh;have hT:=an hh;clear hq hh hG ho;obtain⟨i0,i1,i2,i3,i4,i5,i6,i7,i8,i9,_⟩:=aT Hc.o;obtain⟨g0,g1,g2,g3,g4,g5,g6,g7,g8,g9,_⟩:=gu Hc.o;go_wp2_with (at_builtin; go_must (refine bR Tryz.appItems rfl _ _ rfl w.heap.size (.slice ia j ic) j (pI zs4) rfl (W6) [.string it.name, .int .i64 it.kind, .int .i64 it.mode, .int .i64 it.time, .int .i64 it.size, .string it.link, .slice none 0 0, .string it.node.name, .int .i64 it.node.gen, .int .i64 it.node.size] _ rfl rfl (kH (it:=it)) hT.o HJ HN ?_); intro v' wc hc hb _ _; obtain⟨ae,ce,rfl,-,-⟩:=aI hc; have Hv:=an (hF.o.push (it:=it) hU.o hS.o hQ.o (by rw[hR.o]; exact hc) hb hO.o hM.o hN.o hd); clear hc hb)
       clear i0 i1 i2 i3 i4 i5 i6 i7 i8 i9 g0 g1 g2 g3 g4 g5 g6 g7 g8 g9
       go_roundw
       case rel=>exact⟨j+1,_,its++[it],(cs2++p.2),by omega,by go_num,by simp[Hi.o],by rw[<-Hq.o,HO.o,Hr.o],hJ.o,fun y hy=>by
        rcases aU.1 hy with hy | hy
        ·exact HA.o y hy
        ·rw[aQ]at hy; subst hy; exact hP.o,Hv.o⟩
       case measure=>simp[intOf]; omega
     ·have e2:(e.kind == 2)=false:=by simp[hY]
      have Hb:=an hY;clear hY
      go_upto_region 15 with(fail)
      clear i0 i1 i2 i3 i4 i5 i6 i7 i8 i9 g0 g1 g2 g3 g4 g5 g6 g7 g8 g9 d0 d1 d4;obtain⟨it,hs⟩: ∃it,it=cM k gs c path e ef:=⟨_,rfl⟩;have hF:=hz;have Hc:=an (show W3.heap[wr.heap.size+1]? =some (.cells #[.string it.name, .int .i64 it.kind, .int .i64 it.mode, .int .i64 it.time, .int .i64 it.size, .string it.link, .slice none 0 0, .string it.node.name, .int .i64 it.node.gen, .int .i64 it.node.size] 28 (0,0)) by
       rw[HY.o,Hu.o,hs];unfold cM;simp only[if_neg hL.o,if_neg Hb.o]
       rfl)
      have hV:it.chunks=[]:=by rw[hs]; unfold cM; simp only[if_neg hL.o]
      have hO:=an (show W3.ownsRow w.heap.size 26 3 (.slice none 0 0) it.chunks.length (it.chunks.flatMap ji) by rw[hV]; exact bN _ _ _ _);have hP:=an (show Ef it by rw[hs]; exact pH hf.o.cut HQ.o HP.o.2 (by decide));have hM:=an (show ii it from⟨by have:=hP.o.nm; unfold maxLen; omega,by have:=hP.o.lk; unfold maxLen; omega,by rw[hs]; unfold cM; simp only[if_neg Hb.o]; exact nU⟩)
      have hN:=an (show ∀r∈it.chunks,eC r by rw[hV]; simp);have Hr:=an (show gT k gs c (gQ k gs c tree n) path (e::(gR tree path).drop (j+1)) its cs2=gT k gs c (gQ k gs c tree n) path ((gR tree path).drop (j+1)) (its++[it]) cs2 by rw[hs]; exact Jc hL.o Hb.o);have hJ:=Ho;clear hs hV HY;obtain⟨zs4,hq,hh,hG⟩:=hF.o.its.row;have ho:zs4.length=j:=by rw[<-Hi.o,<-hq,aE]
      have hU:=an hq;have hS:=an hh;have hQ:=an hG;have hR:=an ho;have HN:w.heap.size<=(W3).heap.size:=hF.o.kp.below.size;have HJ:j<1099511627775:=by omega
      rw[ho]at hh;have hT:=an hh;clear hq hh hG ho;obtain⟨i0,i1,i2,i3,i4,i5,i6,i7,i8,i9,_⟩:=aT Hc.o;obtain⟨g0,g1,g2,g3,g4,g5,g6,g7,g8,g9,_⟩:=gu Hc.o;go_wp2_with (at_builtin; go_must (refine bR Tryz.appItems rfl _ _ rfl w.heap.size (.slice ia j ic) j (pI zs4) rfl (W3) [.string it.name, .int .i64 it.kind, .int .i64 it.mode, .int .i64 it.time, .int .i64 it.size, .string it.link, .slice none 0 0, .string it.node.name, .int .i64 it.node.gen, .int .i64 it.node.size] _ rfl rfl (kH (it:=it)) hT.o HJ HN ?_); intro v' wc hc hb _ _; obtain⟨ae,ce,rfl,-,-⟩:=aI hc; have Hv:=an (hF.o.push (it:=it) hU.o hS.o hQ.o (by rw[hR.o]; exact hc) hb hO.o hM.o hN.o hd); clear hc hb)
      clear i0 i1 i2 i3 i4 i5 i6 i7 i8 i9 g0 g1 g2 g3 g4 g5 g6 g7 g8 g9
      go_roundw
      case rel=>exact⟨j+1,_,its++[it],cs2,by omega,by go_num,by simp[Hi.o],by rw[<-Hq.o,HO.o,Hr.o],hJ.o,fun y hy=>by
       rcases aU.1 hy with hy | hy
       ·exact HA.o y hy
       ·rw[aQ]at hy; subst hy; exact hP.o,Hv.o⟩
      case measure=>simp[intOf]; omega
  ·have hY:j=m:=by omega
   have ya:=an (show gT k gs c (gQ k gs c tree n) path (gR tree path) [] []= .ok (its,cs2) by
    rw[<-Hq.o,fZ (by rw[<-Yo.o,aE,<-HM.o]; omega)]; rfl)
   have hW:=CZ (fun _=>True) its (.slice ia j ic) wr hD.o.its.at (HE.o.keep hD.o.kp.below hf.o.seven).env (LV HA.o (by rw[Hi.o]; omega)) (fun it hs=>(HA.o it hs).tm);unfold vM at hW
   by_cases hv:jB its=true
   ·simp only[if_pos hv]at hW
    by_cases hl:(fY its).length<=32768
    ·simp only[if_pos hl]at hW;have Ha:=an (show gQ k gs c tree (n+1) path= .ok (fY its,cs2++[fY its]) by rw[gQ,ya.o]; simp only[if_pos hv,if_pos hl]);have Ht:=an hW;have YL:=an (hf.o.u2 (n+1) path _ hn514 YI.o Ha.o);have YH:=an hl;clear hW hv hl hY;go_wp2_with fail;refine Ht.o.mono ?_;rintro e' w5 ⟨Hd,cv,rfl,yv⟩;obtain⟨ca,cc,rfl,-,-⟩:=aI yv
     have ha:=an (hD.o.below Hd (aB hd hD.o.kp.below.size));have Yb:=Ho.o.len hD.o.bd;have Yc:=hf.o.usz;have H0:=Ge (fun _=>True) base bb kb im k c gs gv v2 _ (et k gs cs2 bs) (fY its) w5 ha.o.bd hf.o.keys (HG.o.keep (fun i h1 _=>ha.o.kp.below.block i h1)) hf.o.gens
      (cE.weak (cG yv) (fun _ _=>trivial)) YH.o (HE.o.keep ha.o.kp.below hf.o.seven) hf.o.bbb hf.o.bkb (aB hd ha.o.kp.below.size) hf.o.seven (by omega)
     unfold Eb fa at H0;obtain⟨r,hr⟩: ∃r,r=bD k gs (fY its):=⟨_,rfl⟩;rw[<-hr]at H0;have Yk:=an hr;have Yh:=an H0;obtain⟨nl,Yw⟩: ∃nl,nl=(fY its).length:=⟨_,rfl⟩;rw[<-Yw]at Yh ⊢;clear Hd yv Yb Yc H0 hr Yw;go_wp2_with fail;refine Yh.o.mono ?_;rintro e' w6 ⟨rfl,v6,HF,HK⟩;have Hh:=an (ha.o.step HF HK);have hC:=an Hh.o.res
     clear HF HK;obtain⟨z0,z1,z2,_⟩:=aT hC.o;obtain⟨y0,y1,y2,_⟩:=gu hC.o;go_wp2_with fail;refine vF hC.o rfl rfl rfl ?_;rw[Ha.o];refine⟨by rw[<-Yk.o]; rfl, ?_,v6, ?_, ?_⟩
     ·rw[ju];exact Ho.o.put YL.o
     ·rw[ju];exact Hh.o.bd.other hC.o (by decide) (by decide) (by decide) (fun i hi _=>eh hi)
     ·exact((Hh.o.kp.setNew (au _) hd).setNew (au _) hd).setNew (au _) hd
    ·simp only[if_neg hl]at hW;have Ha:=an (show gQ k gs c tree (n+1) path= .error 2 by rw[gQ,ya.o]; simp only[if_pos hv,if_neg hl]);have Ht:=an hW;clear hW hv hl hY;go_wp2_with fail;refine Ht.o.mono ?_;rintro e' w5 ⟨Hd,rfl⟩;have ha:=an (hD.o.below Hd (aB hd hD.o.kp.below.size));have hC:=an ha.o.res;clear Hd;obtain⟨z0,z1,z2,_⟩:=aT hC.o
     obtain⟨y0,y1,y2,_⟩:=gu hC.o;go_wp2_with fail;refine vF hC.o rfl rfl rfl ?_;rw[Ha.o];exact⟨rfl,by decide,v2,_,ha.o.bd.other hC.o (by decide) (by decide) (by decide) (fun i hi _=>eh hi),((ha.o.kp.setNew (au _) hd).setNew (au _) hd).setNew (au _) hd⟩
   ·simp only[if_neg hv]at hW;have Ha:=an (show gQ k gs c tree (n+1) path= .error 1 by rw[gQ,ya.o]; simp only[if_neg hv]);have hl:=hv;have Ht:=an hW;clear hW hv hl hY;go_wp2_with fail;refine Ht.o.mono ?_;rintro e' w5 ⟨Hd,rfl⟩;have ha:=an (hD.o.below Hd (aB hd hD.o.kp.below.size));have hC:=an ha.o.res;clear Hd;obtain⟨z0,z1,z2,_⟩:=aT hC.o
    obtain⟨y0,y1,y2,_⟩:=gu hC.o;go_wp2_with fail;refine vF hC.o rfl rfl rfl ?_;rw[Ha.o];exact⟨rfl,by decide,v2,_,ha.o.bd.other hC.o (by decide) (by decide) (by decide) (fun i hi _=>eh hi),((ha.o.kp.setNew (au _) hd).setNew (au _) hd).setNew (au _) hd⟩
theorem AX {base bb kb im:Nat} {k:dm} {c:fL} {gs:List (ByteArray×Int)} {tree:List dj} {gv:Value} {UR:List cX} (hX:KA base bb kb im k c gs tree UR): ∀n,n<=514->Nh base bb kb im k c gs tree gv UR n
 | 0,_=>Ll hX
 | n+1,h=>Lk n hX h (AX hX n (by omega))
theorem fU.hitM {S:Nat->Prop} {w:World} {cv:Value} {cs:List (ByteArray×List UInt8)} (h:fU S w cv cs) {n:ByteArray} {bs:List UInt8} (hn:n.size<=maxLen) (hf:gB cs n=some bs):
  ∃v,(Instr.lookup 55 cv (.string n) true).run Tryz.prog w= .ok (.tuple #[v, .bool true]) w/\bG S w v bs:=by
 rcases h with⟨_,rfl⟩ | ⟨b,m,rfl,_,h2,h3⟩
 ·simp[gB]at hf
 ·obtain⟨v,hv,hb⟩:=h3.hit hf;exact⟨v,h2.hit ua (t:=55) (e:=29) (by kernel_rfl) (tZ hn) hv true,hb⟩
theorem fU.missM {S:Nat->Prop} {w:World} {cv:Value} {cs:List (ByteArray×List UInt8)} (h:fU S w cv cs) {n:ByteArray} (hn:n.size<=maxLen) (hf:gB cs n=none):
  (Instr.lookup 55 cv (.string n) true).run Tryz.prog w= .ok (.tuple #[.slice none 0 0, .bool false]) w:=by
 obtain⟨l,hl⟩:=tZ hn
 rcases h with⟨rfl,_⟩ | ⟨b,m,rfl,_,h2,h3⟩
 ·exact Maps.look_nil true ua (t:=55) (e:=29) (by kernel_rfl) (by kernel_rfl) hl
 ·exact h2.miss ua (t:=55) (e:=29) (by kernel_rfl) (by kernel_rfl) (tZ hn) (h3.miss hf) true
def ly (cs:List (ByteArray×List UInt8)) (r:cX):Except Int (List cr):=match jy cs r with
 | .error x=>if x=10 then .ok []else .error x
 | .ok l=> .ok l
def Nn (cs:List (ByteArray×List UInt8)) (r:cX) (w:World) (e:Ending) (w':World):Prop:=Below w.heap.size w w'/\match ly cs r with
 | .error x=>e= .returned (.tuple #[.slice none 0 0, .int .i64 x])/\x≠0
 | .ok l=> ∃v,e= .returned (.tuple #[v, .int .i64 0])/\eD (w.heap.size<= ·) w' v l
theorem Dn (S:Nat->Prop) (cv:Value) (cs:List (ByteArray×List UInt8)) (r:cX) (w:World) (hc:fU S w cv cs) (hr:eC r) (henv:og w):Calls Tryz.prog 95 #[cv,fa r] w (Nn cs r w):=by
 have HB:=an ((ay w.heap.size w).alloc (au _) (.cells #[.string r.name, .int .i64 r.gen, .int .i64 r.size] 26));have HC:=an (hc.below HB.o);have HR:=an hr;have HE:=an (henv.below HB.o);unfold fa;clear hc hr henv
 go_enter Tryz.func95,Tryz.ntmps95
 go_wp2_with fail;refine(ti S cv cs r _ HC.o HR.o HE.o).mono ?_;rintro e w1 ⟨hf,ha⟩;have he:=an (aw HB.o hf);have hz:=hf.size;simp at hz;clear hf
 cases hb:jy cs r with
 | error x=>
  rw[hb]at ha;obtain⟨rfl,hx⟩:=ha
  by_cases hd:x=10
  ·subst hd;have HN:=an (show ly cs r= .ok [] by unfold ly; rw[hb]; rfl);clear hb hx;go_wp2_with fail
   go_ret2
   exact⟨he.o,by rw[HN.o]; exact⟨_,rfl,cL.nil⟩⟩
  ·have HN:=an (show ly cs r= .error x by unfold ly; rw[hb]; simp only[if_neg hd]);have e1:(x == 10)=false:=by simp[hd]
   have HX:=an hx;clear hb hx hd;go_wp2_with fail
   go_ret2
   exact⟨he.o,by rw[HN.o]; exact⟨rfl,HX.o⟩⟩
 | ok l=>
  rw[hb]at ha;obtain⟨v,rfl,hv⟩:=ha;have HN:=an (show ly cs r= .ok l by unfold ly; rw[hb]);have HV:=an hv;have hh:=an (show eD (w.heap.size<= ·) w1 v l from by
   obtain⟨cells,h1,h2⟩:=hv;have hg:w.heap.size<=(w.alloc (.cells #[.string r.name, .int .i64 r.gen, .int .i64 r.size] 26)).heap.size:=by simp
   exact⟨cells,h1.weak (fun k hk=>aB hg hk),h2.mono (fun c x _ hx=>hx.same (fun k _ hS=>⟨aB hg hS,rfl⟩))⟩)
  obtain⟨a,cap,rfl,-,-,-⟩:=cL.shape hv lr.len;clear hb hv;go_wp2_with fail
  go_ret2
  exact⟨he.o,by rw[HN.o]; exact⟨_,rfl,hh.o⟩⟩
end Go.Proofs.YtpffpjbkbaleiaaGreatDoor
namespace Go.Proofs.YtpffpjbkbaleiaaGreatDoor
open Go.RowKit
theorem Od (l:List UInt8):(Bl l).length<=4*l.length:=by
 have h1:=yB l;have: ∀rs:List Int,(rs.flatMap Lib.encodeRune).length<=4*rs.length:=by
  intro rs
  induction rs with
  | nil=>simp
  | cons r rs ih=>rw[bq,ar,aG]; have:=wA r; omega
 have h2:=this (uk l);unfold Bl; omega
theorem Ci (s:ByteArray) (pos:Nat):Lib.decodeL ((bl s).drop pos)=Utf8.decode s pos:=Lib.decodeL_drop s pos
theorem NG {s:ByteArray} {pos:Nat} (h:pos<s.size):(bl s).drop pos≠[]:=by
 intro e; have:=List.drop_eq_nil_iff.1 e; rw[<-bi]at this; omega
theorem Ko {s o:ByteArray} {pos:Nat} (hp:pos<s.size) (h:bl o++Bl ((bl s).drop pos)=Bl (bl s)):
  bl (o++Utf8.encode ((Utf8.decode s pos).1:Int))++Bl ((bl s).drop (pos+(Utf8.decode s pos).2))=Bl (bl s):=by
 rw[nz,<-h,Dx _ (NG hp),Ci,fI,<-Ey,ND,bp]
theorem Fm (s:ByteArray) (w:World) (hs:s.size<=16777216):
  Calls Tryz.prog 164 #[.string s] w fun e w'=>e= .returned (.bool (Lib.validD (bl s)))/\Below w.heap.size w w':=by
 go_enter Tryz.func164,Tryz.ntmps164
 go_wp2
 go_loopw [3] (fun v wr=> ∃(pos:Nat) (o:ByteArray),v= .string o/\wr=w.iter s pos/\o.size<=67108864/\bl o++Bl ((bl s).drop pos)=Bl (bl s)) (fun _ wr=>s.size-wr.iterPos w.heap.size)
 case atStart=>exact⟨0,⟨#[]⟩,rfl,rfl,by simp[ByteArray.size],by simp[bl]⟩
 case round=>
  obtain⟨pos,o,rfl,rfl,ho,ha⟩:=hrel;have HR:=an ha;clear ha
  by_cases hp:pos<s.size
  ·have hb: ∀ty,(Instr.next (.pointer (some ⟨w.heap.size,0,none⟩)) true ty).run Tryz.prog (w.iter s pos)=_:=fun ty=>run_next_any w s pos ty hp
   obtain⟨r,hr⟩: ∃r,r=(Utf8.decode s pos).1:=⟨_,rfl⟩;obtain⟨E,hE⟩: ∃E,E=Utf8.encode (r:Int):=⟨_,rfl⟩;have he: ∀w',(convert 21 9 (.int .i32 (r:Int))).run Tryz.prog w'= .ok (.string E) w':=fun w'=>by rw[hE]; exact run_convert_int_string w' _ _ .i32 _ (by rw[Tryz.underlying21]; rfl) dR
   have hd:E.size<=4:=by rw[hE]; exact encode_size_le _
   simp only[<-hr]at hb;have HE:=an hE;have hc:=an hr;clear hE hr
   go_wp2
   go_roundw
   case rel=>
    have hn:bl (o++E)++Bl ((bl s).drop (pos+(Utf8.decode s pos).2))=Bl (bl s):=by rw[HE.o,hc.o]; exact Ko hp HR.o
    refine⟨pos+(Utf8.decode s pos).2,o++E,rfl,rfl, ?_,hn⟩;have h1:=congrArg List.length hn;have h2:=Od (bl s);rw[ar,<-bi]at h1;rw[<-bi]at h2;omega
   case measure=>
    rw[World.iterPos_iter,World.iterPos_iter];have:=Lib.width_pos s pos;omega
  ·have hb: ∀ty,(Instr.next (.pointer (some ⟨w.heap.size,0,none⟩)) true ty).run Tryz.prog (w.iter s pos)=_:=fun ty=>run_next_end w s pos ty hp
   go_wp2
   go_ret;refine⟨bY ?_,eN⟩;have h1:bl o=Bl (bl s):=by
    rw[<-HR.o,dM (by rw[<-bi]; omega),Bm,cj]
   rw[eB,eB,h1];exact JG (bl s)
theorem CV {s:ByteArray} {j:Nat} (hj:j<s.size) (h:(s[j].toNat:Int)<32):rg (bl s)=false:=by
 refine CX hj ?_;rw[rU s j hj,<-kE s j hj]; omega
theorem Dt (s:ByteArray) (w:World) (hs:s.size<=16777216):
  Calls Tryz.prog 138 #[.string s] w fun e w'=>e= .returned (.bool (xJ (bl s)))/\Below w.heap.size w w':=by
 go_enter Tryz.func138,Tryz.ntmps138
 go_wp2
 go_loop [3] (fun i=> ∃k:Nat,k<=s.size/\i= .int .i64 k/\ ∀j,j<k->j<s.size->32<=(s.get! j).toNat) (fun i=>s.size-(intOf i).toNat)
 case atStart=>exact⟨0,aX _,rfl,fun j hj=>by omega⟩
 case round=>
  obtain⟨k,hk,rfl,ha⟩:=hrel;have HL:=an ha;clear ha
  by_cases hp:k<s.size
  ·go_wp2
   ·have hd:(s[k].toNat:Int)<32:=by assumption
    go_ret;exact⟨bY (by simp[xJ,CV hp hd]),ay _ _⟩
   ·have he:(32:Int)<=(s[k].toNat:Int):=by assumption
    go_round
    case rel=>
     refine⟨k+1,by omega,by go_num,fun j hj hc=> ?_⟩
     rcases dI j k with h | h
     ·exact HL.o j h hc
     ·obtain rfl:j=k:=by omega
      rw[rU s j hp,<-kE s j hp]; omega
    case measure=>simp[intOf]<;> omega
  ·go_wp2_with (go_at_call 164; refine(Fm s _ hs).mono ?_; rintro e w' ⟨rfl,hb⟩);go_ret;refine⟨bY ?_,hb⟩;simp only[xJ,GC (fun j hj=>HL.o j (by omega) hj),gP]
def KB (c:UInt8) (s:ByteArray) (w:World) (e:Ending) (w':World):Prop:=
 ∃v xs,e= .returned v/\xs.map bl=dd c (bl s)/\lF (w.heap.size<= ·) w' v xs/\Below w.heap.size w w'
theorem Cl {s:ByteArray} {c:UInt8} {ys:List ByteArray} {f k:Nat} (hk:k<s.size) (hf:f<=k) (h:dd c (bl s)=ys.map bl++dd c ((bl s).drop f)) (hn: ∀j,f<=j->j<k->(s.get! j)≠c) (hc:s[k]=c):
  dd c (bl s)=(ys++[s.extract f k]).map bl++dd c ((bl s).drop (k+1)):=by
 have ha:k<(bl s).length:=by rw[<-bi]; exact hk
 have e:(bl s).drop f=bl (s.extract f k)++c::(bl s).drop (k+1):=by
  rw[pC,<-hc,kE s k hk,List.getElem_cons_drop,List.drop_take];have h2:=dx (k-f) ((bl s).drop f);rw[fI,show f+(k-f)=k by omega]at h2;exact h2.symm
 have hm:c∉bl (s.extract f k):=by
  intro hm;obtain⟨j,hj,ej⟩:=dT hm;simp only[pC]at hj ej;rw[bA,bm]at hj;rw[List.getElem_drop,List.getElem_take]at ej;exact hn (f+j) (by omega) (by omega) (by rw[rU s _ (by omega)]; exact ej)
 rw[h,e,mB _ _ _ hm]; simp
theorem Ck {s:ByteArray} {c:UInt8} {ys:List ByteArray} {f:Nat} (hf:f<=s.size) (h:dd c (bl s)=ys.map bl++dd c ((bl s).drop f)) (hn: ∀j,f<=j->j<s.size->(s.get! j)≠c):
  dd c (bl s)=(ys++[s.extract f s.size]).map bl:=by
 have e:(bl s).drop f=bl (s.extract f s.size):=by rw[pC,bi,dg]
 have hm:c∉(bl s).drop f:=by
  intro hm;obtain⟨j,hj,ej⟩:=dT hm;rw[bA,<-bi]at hj;rw[List.getElem_drop]at ej;exact hn (f+j) (by omega) (by omega) (by rw[rU s _ (by omega)]; exact ej)
 rw[h,gq _ _ hm,e]; simp
theorem nx (s:ByteArray) (w:World) (hs:s.size<=16777216):Calls Tryz.prog 87 #[.string s] w (KB 47 s w):=by
 go_enter Tryz.func87,Tryz.ntmps87
 go_wp2_with fail
 go_loopw [3,4,5] (fun v fr i wr=> ∃(k f:Nat) (ys:List ByteArray),k<=s.size+1/\f<=k/\ys.length<=k/\i= .int .i64 k/\fr= .int .i64 f/\wr.ownsRow w.heap.size 9 1 v ys.length (ys.map Value.string)/\Below w.heap.size w wr/\
   (k<=s.size->dd 47 (bl s)=ys.map bl++dd 47 ((bl s).drop f)/\ ∀j,f<=j->j<k->(s.get! j)≠47)/\(k=s.size+1->dd 47 (bl s)=ys.map bl)) (fun _ _ i _=>s.size+1-(intOf i).toNat)
 case atStart=>exact⟨0,0,[],aX _,au _,au _,rfl,rfl,bN _ _ _ _,ay _ _,fun _=>⟨by simp,fun j _ hj=>by omega⟩,fun h=>by omega⟩
 case round=>
  obtain⟨k,f,ys,hk,hf,hy,rfl,rfl,hh,hb,hu,hv⟩:=hrel;have HO:=an hh;have HB:=an hb;have he:=an hu;have hw:=an hv;have hl:w.heap.size<=wr.heap.size:=hb.size;clear hh hb hu hv
  by_cases hg:k<=s.size
  ·by_cases hr:k<s.size
   ·have e1:((k:Int) == (s.size:Int))=false:=by rw[gV]; omega
    by_cases hc:s[k]=47
    ·have e2:((s[k].toNat:Int) == (47:UInt8).toNat)=true:=by rw[hc]; rfl
     have e2':((s[k].toNat:Int) == 47)=true:=e2;have ho:=an hc;clear hc e2;go_wp2_with (at_builtin; go_must (refine iN Tryz.appStrings rfl _ _ rfl w.heap.size u3 ys.length (ys.map Value.string) rfl wr [.string (s.extract f k)] _ rfl rfl (by simp; rfl) HO.o (by omega) hl ?_); intro v' w1 hd ha _);have hq:=an hd;have hp:=an ha;clear hd ha;go_wp2_with fail
     go_roundw
     case rel=>
      refine⟨k+1,k+1,ys++[s.extract f k],by omega,au _,by simp; omega,by go_num,by go_num, ?_,cg HB.o HO.o hp.o (au _) hl,fun _=>⟨Cl hr hf (he.o hg).1 (he.o hg).2 ho.o,fun j h1 h2=>by omega⟩,fun h=>by omega⟩;have:=hq.o; simpa using this
     case measure=>simp[intOf]<;> omega
    ·have e2':((s[k].toNat:Int) == 47)=false:=by
      rw[gV]; intro e; apply hc; apply gH.1; have:s[k].toNat=47:=by omega
      rw[this]; rfl
     have ho:=an hc;clear hc;go_wp2_with fail
     go_roundw
     case rel=>
      refine⟨k+1,f,ys,by omega,by omega,by omega,by go_num,rfl,HO.o,HB.o,fun _=>⟨(he.o hg).1,fun j h1 h2=> ?_⟩,fun h=>by omega⟩
      rcases dI j k with h | h
      ·exact(he.o hg).2 j h1 h
      ·obtain rfl:j=k:=by omega
       rw[rU s j hr,<-kE s j hr]; exact ho.o
     case measure=>simp[intOf]<;> omega
   ·obtain rfl:k=s.size:=by omega
    have e1:((s.size:Int) == (s.size:Int))=true:=by simp
    go_wp2_with (at_builtin; go_must (refine iN Tryz.appStrings rfl _ _ rfl w.heap.size u3 ys.length (ys.map Value.string) rfl wr [.string (s.extract f s.size)] _ rfl rfl (by simp; rfl) HO.o (by omega) hl ?_); intro v' w1 hd ha _);have hq:=an hd;have hp:=an ha;clear hd ha;go_wp2_with fail
    go_roundw
    case rel=>
     refine⟨s.size+1,s.size+1,ys++[s.extract f s.size],by omega,au _,by simp; omega,by go_num,by go_num, ?_,cg HB.o HO.o hp.o (au _) hl,fun h=>by omega,fun _=>Ck hf (he.o hg).1 (he.o hg).2⟩;have:=hq.o; simpa using this
    case measure=>simp[intOf]<;> omega
  ·obtain⟨a,cap,rfl,hn,hm⟩:=aI HO.o;go_wp2_with fail;go_ret;exact⟨_,ys,rfl,(hw.o (by omega)).symm,(cG HO.o).weak (fun k hk=>hk.1),HB.o⟩
end Go.Proofs.YtpffpjbkbaleiaaGreatDoor
