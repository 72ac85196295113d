/- Texts of this proof, one after the other: LoadB, BldB, BldC, BldD, BldE, RGet, Pres, RefA. -/
import Derived.Test.YtpffpjbkbaleiaaGreatDoorCBlobsE
set_option maxRecDepth 100000
set_option maxHeartbeats 8000000
namespace Go.Proofs.YtpffpjbkbaleiaaGreatDoor
open Go Go.RowKit
theorem nw {l:List UInt8} (h:dD l=true):l.length<=512:=by
 unfold dD at h;simp only[aI,aL]at h;exact h.1.1
theorem pY {l:List UInt8} (h:dD l=true):1<=l.length:=by
 cases l with
 | nil=>exact absurd h (by decide)
 | cons a l=>simp
theorem ve (d n:ByteArray) (hn:1<=n.size):d.size+1<=(lF d n).size:=by
 unfold lF
 split
 ·omega
 ·simp only[ByteArray.size_append]
  show d.size+1<=d.size+1+n.size
  omega
theorem ux {cs:List (ByteArray×List UInt8)} {rec:ByteArray->cy->List dl->Int×List dl} {dir p:ByteArray} {it:cg} {r:List cg} {acc:List dl} (hp:lF dir it.name=p) (hv:dD (bl p)=true) (hl:acc.length<4096) (hk:it.kind=2):
  kH cs rec dir (it::r) acc=if(rec p it.node (acc++[⟨p,it.kind,it.mode,it.time,[],it.link⟩])).1=0 then kH cs rec dir r (rec p it.node (acc++[⟨p,it.kind,it.mode,it.time,[],it.link⟩])).2 else rec p it.node (acc++[⟨p,it.kind,it.mode,it.time,[],it.link⟩]):=by
 have hf:rJ cs it=([],0):=by unfold rJ; rw[if_neg (by omega)]
 rw[kH,hp,if_pos ⟨hv,hl⟩,hf];simp only[if_pos hk]
theorem xJ {cs:List (ByteArray×List UInt8)} {rec:ByteArray->cy->List dl->Int×List dl} {dir p:ByteArray} {it:cg} {r:List cg} {acc:List dl} (hp:lF dir it.name=p) (hv:dD (bl p)=true) (hl:acc.length<4096) (hk:it.kind≠2) (hk1:it.kind≠1):
  kH cs rec dir (it::r) acc=kH cs rec dir r (acc++[⟨p,it.kind,it.mode,it.time,[],it.link⟩]):=by
 have hf:rJ cs it=([],0):=by unfold rJ; rw[if_neg hk1]
 rw[kH,hp,if_pos ⟨hv,hl⟩,hf];simp only[if_neg hk,if_true]
theorem sC {cs:List (ByteArray×List UInt8)} {rec:ByteArray->cy->List dl->Int×List dl} {dir p:ByteArray} {it:cg} {r:List cg} {acc:List dl} {bs:List UInt8} (hp:lF dir it.name=p) (hv:dD (bl p)=true) (hl:acc.length<4096) (hk1:it.kind=1) (hb:om cs it.chunks []= .ok bs):
  kH cs rec dir (it::r) acc=kH cs rec dir r (acc++[⟨p,it.kind,it.mode,it.time,bs,it.link⟩]):=by
 have hf:rJ cs it=(bs,0):=by unfold rJ; rw[if_pos hk1,hb]
 have hk: ¬it.kind=2:=by omega
 rw[kH,hp,if_pos ⟨hv,hl⟩,hf];simp only[if_neg hk,if_true]
theorem Al {cs:List (ByteArray×List UInt8)} {rec:ByteArray->cy->List dl->Int×List dl} {dir p:ByteArray} {it:cg} {r:List cg} {acc:List dl} {x:Int} (hp:lF dir it.name=p) (hv:dD (bl p)=true) (hl:acc.length<4096) (hk1:it.kind=1) (hb:om cs it.chunks []= .error x) (hx:x≠0):
  kH cs rec dir (it::r) acc=(x,acc++[⟨p,it.kind,it.mode,it.time,[],it.link⟩]):=by
 have hf:rJ cs it=([],x):=by unfold rJ; rw[if_pos hk1,hb]
 have hk: ¬it.kind=2:=by omega
 rw[kH,hp,if_pos ⟨hv,hl⟩,hf];simp only[if_neg hk,if_neg hx]
def Gb (cs:List (ByteArray×List UInt8)) (cv:Value) (B n:Nat):Prop:= ∀(dir:ByteArray) (ref:cy) (acc:List dl) (base eb:Nat) (v:Value) (w:World),
 514<=dir.size+n->(dir.size=0\/dD (bl dir)=true)->lj w base eb v acc->dY ref->kE B cv cs w->B<=base->base<=eb->base<=w.heap.size->
 Calls Tryz.prog 78 #[cv, .string dir,ef ref, .pointer (some ⟨eb,0,none⟩)] w fun e w'=>e= .returned (.int .i64 (jn cs n dir ref acc).1)/\ ∃v',lj w' base eb v' (jn cs n dir ref acc).2/\rO base eb v v' w w'
theorem Jq (cs:List (ByteArray×List UInt8)) (cv:Value) (B:Nat):Gb cs cv B 0:=by
 intro dir ref acc base eb v w hn hd
 exfalso
 rcases hd with h | h
 ·omega
 ·have:=nw h;rw[<-bh]at this;omega
theorem eT.wide {S:Nat->Prop} {w:World} : ∀ {m:List (Value×Value)} {cs:List (ByteArray×List UInt8)},eT S w m cs->eT (fun _=>True) w m cs
 | [],[],_=>trivial
 | [],_::_,h=>h
 | _::_,[],h=>h
 | (_,_)::_,(_,_)::_,h=>⟨h.1,cC.weak h.2.1 (fun _ _=>trivial),eT.wide h.2.2⟩
theorem fW.wide {S:Nat->Prop} {w:World} {cv:Value} {cs:List (ByteArray×List UInt8)} (h:fW S w cv cs):fW (fun _=>True) w cv cs:=by
 rcases h with h | ⟨b,m,h1,_,h2,h3⟩
 ·exact .inl h
 ·exact .inr ⟨b,m,h1,trivial,h2,h3.wide⟩
theorem kE.keepL {B base:Nat} {cv:Value} {cs:List (ByteArray×List UInt8)} {w w':World} (h:kE B cv cs w) (hb:Below base w w') (hB:B<=base):kE B cv cs w':=
 kE.keep w w' h ⟨hb.os,hb.tape,hb.output,hb.size,fun k _ hn=>hb.block k (by omega)⟩
theorem Jp (cs:List (ByteArray×List UInt8)) (cv:Value) (B n:Nat) (IH:Gb cs cv B n):Gb cs cv B (n+1):=by
 intro dir ref acc base eb v w hn hd Yf hr hi hB H3 Ht;have Yq:=am IH;have HD:=am hd;have Yi:=am Yf;have HI:=am hi;have HA:=am ((au w.heap.size w).alloc (ak _) (.cells #[.string ref.name, .int .i64 ref.gen, .int .i64 ref.size] 26));have H8:=tr (· <B) cv cs ref _ (hi.cont.below HA.o) hr (hi.env.below HA.o);have YE:eb<w.heap.size:=aw Yf.1
 unfold ef at *;unfold AE at H8;have Yr:=am (show jn cs (n+1) dir ref acc=match gh cs ref with
  | .error x=>(x,acc)
  | .ok l=>kH cs (jn cs n) dir l acc from rfl)
 cases H0:gh cs ref with
 | error x=>
  rw[H0]at H8;have Yk:=am H8;have HE:=am (show jn cs (n+1) dir ref acc=(x,acc) by rw[Yr.o,H0]);clear H0 H8 IH hd Yf hr hi
  go_enter Tryz.func78,Tryz.ntmps78
  go_wp2_with fail;refine Yk.o.mono ?_;rintro e w1 ⟨yl,rfl,hx⟩;have yn:=am (ar HA.o yl);have e1:(x != 0)=true:=by simp[hx]
  clear yl hx;go_wp2_with fail;go_ret;rw[HE.o];exact⟨rfl,v,Yi.o.below yn.o,rO.ofBelow yn.o Ht⟩
 | ok l=>
  rw[H0]at H8;have Yk:=am H8;have HE:=am (show jn cs (n+1) dir ref acc=kH cs (jn cs n) dir l acc by rw[Yr.o,H0]);have Yj:=am (xh H0);clear H0 H8 IH hd Yf hr hi
  go_enter Tryz.func78,Tryz.ntmps78
  go_wp2_with fail;refine Yk.o.mono ?_;rintro e w1 ⟨yl,v1,rfl,Yo⟩;have yn:=am (ar HA.o yl);obtain⟨a1,cap1,rfl,YA,YB,-⟩:=cP.shape Yo kO.len;unfold maxLen at YB;have y6:=am (show vo w (w.heap.size+1) w1.heap.size base eb v (.slice a1 l.length cap1) l w1 v acc from
   ⟨Yi.o.below yn.o,rO.ofBelow yn.o Ht,fun k hk=> .inl (by obtain⟨_,ys,_,hr,_⟩:=Yi.o; have:=(hr.lt k hk).2; omega),by omega,⟨by omega,by have:=yl.size; simpa using this,ak _⟩,
    by have h:=ew.lt Yo; simpa using h⟩)
  obtain⟨m,hm⟩: ∃m,m=l.length:=⟨_,rfl⟩;rw[<-hm]at y6 YA ⊢;have HM:=am hm;have YF:m<=4096:=by rw[hm]; exact Yj.o.1
  clear yl Yo hm;go_wp2_with fail
  go_loopw [26] (fun i wr=> ∃(k:Nat) (v2:Value) (acc2:List dl),k<=m/\i= .int .i64 (k:Int)/\kH cs (jn cs n) dir (l.drop k) acc2=jn cs (n+1) dir ref acc/\vo w (w.heap.size+1) w1.heap.size base eb v (.slice a1 m cap1) l wr v2 acc2) (fun i _=>m-(intOf i).toNat)
  case atStart=>exact⟨0,v,acc,aW _,rfl,HE.o.symm,y6.o⟩
  case round=>
   obtain⟨k,v2,acc2,hk,rfl,Yz,Yu⟩:=hrel;have Hn:=am Yz;have hA:=am Yu;clear Yz Yu
   by_cases Yv:k<m
   ·obtain⟨it,hr⟩: ∃it,l[k]? =some it:=⟨l[k]'(by rw[<-HM.o]; exact Yv),by simp⟩;obtain⟨b,o,ca,cc,rfl,Yw,Yy,YC,-,HH⟩:=lB hA.o.its (au _ _) hr;have q0:=HH 0 (by omega);have q1:=HH 1 (by omega);have q2:=HH 2 (by omega);have q3:=HH 3 (by omega);have q4:=HH 4 (by omega);have q5:=HH 5 (by omega);have q6:=HH 6 (by omega);have q7:=HH 7 (by omega)
    have q8:=HH 8 (by omega);have q9:=HH 9 (by omega);simp only[eW,ah,aj,cT]at q0 q1 q2 q3 q4 q5 q6 q7 q8 q9;have HO:=am Yw;have Ys:=am Yy;have Hs:=am (show l.drop k=it::l.drop (k+1) by
     rw[cz (by rw[<-HM.o]; exact Yv)]
     congr 1
     exact(aG.1 hr).2)
    have Ya:=(pq Yj.o.2.1).2 it (aQ hr);have Yt:=am Ya;have YD:dir.size<=512:=by
     rcases HD.o with h | h
     ·omega
     ·have:=nw h; rw[<-bh]at this; exact this
    have Yh:=qx.1 (by unfold jo at Ya; rw[aI]at Ya; exact Ya.1);have YG:it.name.size<=64:=by rw[bh]; exact sS Yh.val Yh.nos
    have H0:1<=it.name.size:=by rw[bh]; exact pY Yh.val
    have Ye:=am (Yj.o.2.2 it (aQ hr));clear hr Yw Yy HH Ya Yh;have Hw:=am (show base<=wr.heap.size by have:=hA.o.ord; omega)
    by_cases Yg:dir.size=0
    ·have e2:dir.toList=[]:=by rw[fp]; exact bp (by rw[<-bh]; exact Yg)
     have e3:dir.toList.isEmpty=true:=by rw[e2]; rfl
     have Hu:=am (show lF dir it.name=it.name by unfold lF; rw[if_pos Yg]);go_wp2_with fail;obtain⟨W,hW⟩: ∃W,W=(wr.alloc (.cells #[.string it.name, .int .i64 it.kind, .int .i64 it.mode, .int .i64 it.time, .int .i64 it.size, .string it.link, .slice ca it.chunks.length cc, .string it.node.name, .int .i64 it.node.gen, .int .i64 it.node.size] 28)).alloc (.cells #[.string (it.name), .int .i64 it.kind, .int .i64 it.mode, .int .i64 it.time, .slice none 0 0, .string it.link] 79):=⟨_,rfl⟩
     rw[<-hW];have Ho:=am (show Below wr.heap.size wr W by rw[hW]; exact(eK).alloc (by simp) _);have y9:=am (show W.heap[wr.heap.size]? =some (.cells #[.string it.name, .int .i64 it.kind, .int .i64 it.mode, .int .i64 it.time, .int .i64 it.size, .string it.link, .slice ca it.chunks.length cc, .string it.node.name, .int .i64 it.node.gen, .int .i64 it.node.size] 28 (0,0)) by rw[hW]; exact lW (dZ wr _) _)
     have HB:=am (show W.heap[wr.heap.size+1]? =some (.cells #[.string (it.name), .int .i64 it.kind, .int .i64 it.mode, .int .i64 it.time, .slice none 0 0, .string it.link] 79 (0,0)) by rw[hW]; exact pJ wr _ _);have Hl:=am (hA.o.below Ho.o Hw.o);have yv:=am (show nY W from(HI.o.keepL (Hl.o.kp.below) hB).env);clear hW q0 q1 q2 q3 q4 q5 q6 q7 q8 q9
     cases h9:dD (bl (it.name))with
     | false=>
      have h8:=am h9;clear h9;refine(mG (it.name) false W yv.o h8.o).mono ?_;rintro e w2 ⟨rfl,h2⟩;have hC:=am (Hl.o.below h2 (ay Hw.o Ho.o.size));clear h2;go_wp2_with fail;go_ret;have h1:=Hn.o;rw[Hs.o,kH,if_neg (fun h=>by rw[Hu.o,h8.o]at h; cases h.1)]at h1;rw[<-h1];exact⟨rfl,v2,hC.o.box,hC.o.kp⟩
     | true=>
      have h8:=am h9;clear h9;refine(mG (it.name) true W yv.o h8.o).mono ?_;rintro e w2 ⟨rfl,h2⟩;have hC:=am (Hl.o.below h2 (ay Hw.o Ho.o.size));have HX:=am (dX h2 y9.o);have HY:=am (dX h2 HB.o);have h3:=am (ay (ay Hw.o Ho.o.size) h2.size);have H7:=am (show dy (fun k=>w.heap.size+1<=k/\k<w1.heap.size) w2 (.slice ca it.chunks.length cc) it.chunks from cP.below (cP.below Ys.o (by omega) Ho.o (fun _ _ _ h=>h)) (by omega) h2 (fun _ _ _ h=>h))
      have H1:=am (Ho.o.trans (h2.mono Ho.o.size));clear h2 y9 HB;obtain⟨ys0,HZ,Hh,-⟩:=hC.o.box.2;obtain⟨av0,cv0,yb,yc,Yp⟩:=aH Hh;have HK:ys0.length=acc2.length:=by rw[<-HZ,aB]
      rw[HK]at yb yc;have e0:=az (k:=0) hC.o.box.1;simp only[ai,ah]at e0;rw[yb]at e0;obtain⟨c0,c1,_⟩:=aU HX.o;have c6:=az (k:=6) HX.o;have c7:=az (k:=7) HX.o;have c8:=az (k:=8) HX.o;have c9:=az (k:=9) HX.o;obtain⟨d0,d1,d2,d3,d4,d5,_⟩:=aU HY.o;simp only[ai,aj,ah]at c6 c7 c8 c9
      clear HZ Hh yb HK
      by_cases hO:acc2.length<4096
      ·have Ym:(acc2.length:Int)<4096:=by omega
       have h4:=am hO;clear hO
       by_cases Hf:it.kind=1
       ·have e1:(it.kind == 1)=true:=by simp[Hf]
        have H2:=am Hf;have e2:(it.kind == 2)=false:=by simp[Hf]
        have HF:=nj Hf (by have h:=Yt.o; unfold jo at h; rw[aI]at h; exact h.2);have ya:=xN (l:=it.chunks) (by have:=Ye.o; omega) (fun r hr=>(HF.2.2.1 r hr).1) _ (ak _);rw[dj]at ya;have Hp:=uX (fun _=>True) cv (.slice ca it.chunks.length cc) cs it.chunks w2 (fW.wide (HI.o.keepL hC.o.kp.below hB).cont) (dy.same H7.o (fun k _ _=>⟨trivial,rfl⟩)) ya.1 (by rw[<-HF.2.2.2.1]; exact HF.2.2.2.2) (by have:=Ye.o; omega) (fun r hr=>(HF.2.2.1 r hr).1)
        unfold AC at Hp;clear Hf HF ya
        cases Hv:om cs it.chunks []with
        | error x=>
         rw[Hv]at Hp;have Hk:=am Hp;have H4:=am Hv;clear Hp Hv;go_wp2_with fail;refine Hk.o.mono ?_;rintro e w5 ⟨hX,rfl,hx⟩;have HW:=dX hX HX.o;have hZ:=dX hX HY.o;have HB:=am hZ;have d4':=az (k:=4) hZ;have f4':=dw (k:=4) hZ;simp only[ai,aj,ah]at d4';clear e0 c0 c1 c6 c7 c8 c9 d0 d1 d2 d3 d4 d5
         go_wp2_with fail;obtain⟨W5,hM⟩: ∃W5:World,W5=w5.setCell ⟨wr.heap.size+1,4,none⟩ (.slice none 0 0):=⟨_,rfl⟩;rw[<-hM];have y8:=am hM;have Hz:=am ((show W5.heap[wr.heap.size]? =w5.heap[wr.heap.size]? from by rw[hM,aC _ _ _ _ (by show wr.heap.size≠wr.heap.size+1; omega)]).trans HW);have Ha:=jb (k:=4) hZ (.slice none 0 0);simp only[aa,ag,ab]at Ha
         rw[<-hM]at Ha;have HC:=am Ha;have hl:=am (show vo w (w.heap.size+1) w1.heap.size base eb v (.slice (some ⟨b,o,none⟩) m cap1) l W5 v2 acc2 from hA.o.below (by rw[hM]; exact cw (H1.o.trans (hX.mono H1.o.size)) (by show wr.heap.size<=wr.heap.size+1; omega) _) Hw.o);have hE:=am (show base<=W5.heap.size from ay h3.o (by rw[hM]; have:=hX.size; simpa [World.setCell]using this))
         clear hM HW hZ Ha d4' f4' HX HY hX;have HX:=Hz;have HY:=HC;clear Hz HC;have Hx:=am (bM W5 base 5 1);have e4:(x != 0)=true:=by simp[hx]
         have h7:=am (Al (cs:=cs) (rec:=jn cs n) (r:=l.drop (k+1)) Hu.o h8.o h4.o H2.o H4.o hx);clear hx;obtain⟨ys,Hj,hz,hG⟩:=hl.o.box.2;obtain⟨av,cv2,HN,Yc,Yb⟩:=aH hz;have hD:=am hl.o.box.1;have hs:=am hz;have hp:=am hG
         have Hc:=am Hj;subst HN;clear Hj hz hG
         obtain⟨W6,hV⟩: ∃W6:World,W6=(W5).drew:=⟨_,rfl⟩;have hj:Below (W5).heap.size (W5) W6:=by rw[hV]; exact(au _ _).drew
         have yp:=am hj;have Hb:=am (dX hj HX.o);have hT:=am (dX hj HY.o);have hf:=am (dX hj hD.o);have hg:=am (cR hs.o hj);have hF:=am (fun y hy=>cR (hp.o y hy) hj);have hQ:=am (cR (Hx).out hj);have hR:=am (hl.o.below hj hE.o);have hY:=ay hE.o hj.size;have hP:=am hY;clear hj HX HY hl hD hs hp
         have hN:=az (k:=0) hf.o;obtain⟨d0,d1,d2,d3,d4,d5,_⟩:=aU hT.o;have f1:=dw (k:=0) hf.o;simp only[ai,ah]at hN;refine ey (fun w'=>w'.cell? ⟨eb,0,none⟩=some (.slice av ys.length cv2)/\w'.cell? ⟨wr.heap.size+1,0,none⟩=some (.string (it.name))/\w'.cell? ⟨wr.heap.size+1,1,none⟩=some (.int .i64 it.kind)/\w'.cell? ⟨wr.heap.size+1,2,none⟩=some (.int .i64 it.mode)/\w'.cell? ⟨wr.heap.size+1,3,none⟩=some (.int .i64 it.time)/\w'.cell? ⟨wr.heap.size+1,4,none⟩=some (.slice none 0 0)/\w'.cell? ⟨wr.heap.size+1,5,none⟩=some (.string it.link)) (by kernel_rfl) (by kernel_rfl) ?_
         simp only[br,bt,aD,bo,Nat.reduceAdd,Nat.reduceSub];rw[<-hV];clear hV
         iterate 5 (refine cA rfl (by kernel_rfl) (fun _ _ _ h=>h) rfl ⟨hN,d0,d1,d2,d3,d4,d5⟩ (by rintro w' ⟨HP,HQ,HR,HS,HT,HU,HV⟩; go_simp; rfl) ?_; simp only[Act.put,aa,ag,ab])
         have hH:eb<W6.heap.size:=aw hf.o;have hb:wr.heap.size+1<W6.heap.size:=aw hT.o;have hu:=am ((au W6.heap.size W6).alloc (ak _) (.cells #[.string (it.name), .int .i64 it.kind, .int .i64 it.mode, .int .i64 it.time, .slice none 0 0, .string it.link] 79));have Hd:=aE ((hu.o.cell (p:=⟨eb,0,none⟩) hH).trans hN) (aE ((hu.o.cell (p:=⟨wr.heap.size+1,0,none⟩) hb).trans d0) (aE ((hu.o.cell (p:=⟨wr.heap.size+1,1,none⟩) hb).trans d1) (aE ((hu.o.cell (p:=⟨wr.heap.size+1,2,none⟩) hb).trans d2) (aE ((hu.o.cell (p:=⟨wr.heap.size+1,3,none⟩) hb).trans d3) (aE ((hu.o.cell (p:=⟨wr.heap.size+1,4,none⟩) hb).trans d4) ((hu.o.cell (p:=⟨wr.heap.size+1,5,none⟩) hb).trans d5))))))
         have Hy:=am Hd;clear Hd;refine cn 5 rfl (fun K hK=> ?_);go_wp2_with fail
         (first | (refine⟨Hy.o, ?_⟩) | skip)
         refine cn 6 rfl (fun K hK=> ?_);have Yd:ys.length<4096:=by have h1:=h4.o; rw[<-Hc.o,aB]at h1; exact h1
         go_wp2_with (at_builtin; go_must (refine bO Tryz.appEnts rfl _ _ rfl base (.slice av ys.length cv2) ys.length (jl ys) rfl W6 [.string (it.name), .int .i64 it.kind, .int .i64 it.mode, .int .i64 it.time, .slice none 0 0, .string it.link] _ rfl rfl (kQ (e:=⟨it.name,it.kind,it.mode,it.time,[],it.link⟩)) hg.o (by omega) (by omega) ?_); intro v' wc hh ha _ Hg; obtain⟨ae,ce,rfl,-,-⟩:=aH hh)
         have hI:(Value.slice av ys.length cv2).ownBlock≠some eb:=fun e=>by
          obtain⟨cs,hc⟩:=bI hg.o e;exact absurd (bU hf.o hc) (by decide)
         have hw: ∀i,(Value.slice av ys.length cv2).ownBlock=some i->i<wr.heap.size:=fun i e=>by
          obtain⟨_,ys',_,HL,_⟩:=hA.o.box;exact(HL.lt _ e).2
         have hL:(Value.slice av ys.length cv2).ownBlock≠some (wr.heap.size+1):=fun e=>by have:=hw _ e; omega
         have hJ:(Value.slice av ys.length cv2).ownBlock≠some wr.heap.size:=fun e=>by have:=hw _ e; omega
         have hv:=(ha.block eb hH (fun e=>hI e.symm)).trans hf.o;have h0:=(ha.block (wr.heap.size+1) hb (fun e=>hL e.symm)).trans hT.o;have Hi:=(ha.block wr.heap.size (aw Hb.o) (fun e=>hJ e.symm)).trans Hb.o;have he:=lj.push (e:=⟨it.name,it.kind,it.mode,it.time,[],it.link⟩) hf.o hg.o hF.o hQ.o hh ha Hg H3 hP.o
         rw[Hc.o]at he;have ho:=am (hR.o.step he.1 he.2);have hS:=am ((aC wc ⟨eb,0,none⟩ (.slice ae (ys.length+1) ce) wr.heap.size (by show wr.heap.size≠eb; have:=hA.o.lo; have:=hA.o.ord; omega)).trans Hi);have hU:=am ((aC wc ⟨eb,0,none⟩ (.slice ae (ys.length+1) ce) (wr.heap.size+1) (by show wr.heap.size+1≠eb; have:=hA.o.lo; have:=hA.o.ord; omega)).trans h0)
         have c0':=az (k:=0) hv;have f0':=dw (k:=0) hv;obtain⟨y0,y1,y2,y3,y4,y5,_⟩:=aU h0;simp only[ai,ah]at c0';clear hh ha Hg he hI hL hJ hw hN d0 d1 d2 d3 d4 d5 f1 hv h0 Hi;refine⟨⟨c0',y0,y1,y2,y3,y4,y5⟩, ?_⟩;refine cA rfl (by kernel_rfl) (fun _ _ _ h=>h) rfl ⟨c0',y0,y1,y2,y3,y4,y5⟩ (by rintro w' ⟨HP,HQ,HR,HS,HT,HU,HV⟩; go_simp; rfl) ?_
         simp only[Act.put,aa,ag,ab];refine cE (by kernel_rfl) ?_;refine eD rfl rfl (fun K hK=> ?_)
         go_upto_region 16 with(fail)
         obtain⟨W8,He⟩: ∃W8:World,W8=wc.setCell ⟨eb,0,none⟩ (.slice ae (ys.length+1) ce):=⟨_,rfl⟩;rw[<-He]at ho hS hU ⊢;clear He c0' f0' y0 y1 y2 y3 y4 y5;have HX:=hS;have HY:=hU;clear hS hU;obtain⟨c0,c1,_⟩:=aU HX.o;have c6:=az (k:=6) HX.o;have c7:=az (k:=7) HX.o;have c8:=az (k:=8) HX.o;have c9:=az (k:=9) HX.o;obtain⟨d0,d1,d2,d3,d4,d5,_⟩:=aU HY.o
         simp only[ai,aj,ah]at c6 c7 c8 c9;go_wp2_with fail;go_ret;rw[<-Hn.o,Hs.o,h7.o];exact⟨rfl,_,ho.o.box,ho.o.kp⟩
        | ok bs=>
         rw[Hv]at Hp;have Hk:=am Hp;have H4:=am Hv;clear Hp Hv;go_wp2_with fail;refine Hk.o.mono ?_;rintro e w5 ⟨hX,v5,rfl,H9⟩;obtain⟨a5,c5,rfl,-,-⟩:=aH H9;have y7:=am H9;clear H9;have HW:=dX hX HX.o;have hZ:=dX hX HY.o;have HB:=am hZ;have d4':=az (k:=4) hZ;have f4':=dw (k:=4) hZ;simp only[ai,aj,ah]at d4'
         clear e0 c0 c1 c6 c7 c8 c9 d0 d1 d2 d3 d4 d5;go_wp2_with fail;obtain⟨W5,hM⟩: ∃W5:World,W5=w5.setCell ⟨wr.heap.size+1,4,none⟩ (.slice a5 bs.length c5):=⟨_,rfl⟩;rw[<-hM];have y8:=am hM;have Hz:=am ((show W5.heap[wr.heap.size]? =w5.heap[wr.heap.size]? from by rw[hM,aC _ _ _ _ (by show wr.heap.size≠wr.heap.size+1; omega)]).trans HW);have Ha:=jb (k:=4) hZ (.slice a5 bs.length c5)
         simp only[aa,ag,ab]at Ha;rw[<-hM]at Ha;have HC:=am Ha;have hl:=am (show vo w (w.heap.size+1) w1.heap.size base eb v (.slice (some ⟨b,o,none⟩) m cap1) l W5 v2 acc2 from hA.o.below (by rw[hM]; exact cw (H1.o.trans (hX.mono H1.o.size)) (by show wr.heap.size<=wr.heap.size+1; omega) _) Hw.o)
         have hE:=am (show base<=W5.heap.size from ay h3.o (by rw[hM]; have:=hX.size; simpa [World.setCell]using this));clear hM HW hZ Ha d4' f4' HX HY hX;have HX:=Hz;have HY:=HC;clear Hz HC;have Hx:=am (show W5.ownsRow base 5 1 (.slice a5 bs.length c5) bs.length (bs.map aY)from by
          rw[y8.o];refine(gA y7.o h3.o).kept (cG w5 _ _ _) (.inr (fun e=> ?_));obtain⟨cs2,Yl⟩:=bI y7.o e;exact absurd (bU HB.o Yl) (by decide))
         have h7:=am (sC (cs:=cs) (rec:=jn cs n) (r:=l.drop (k+1)) Hu.o h8.o h4.o H2.o H4.o);obtain⟨ys,Hj,hz,hG⟩:=hl.o.box.2;obtain⟨av,cv2,HN,Yc,Yb⟩:=aH hz;have hD:=am hl.o.box.1;have hs:=am hz;have hp:=am hG
         have Hc:=am Hj;subst HN;clear Hj hz hG
         obtain⟨W6,hV⟩: ∃W6:World,W6=(W5).drew:=⟨_,rfl⟩;have hj:Below (W5).heap.size (W5) W6:=by rw[hV]; exact(au _ _).drew
         have yp:=am hj;have Hb:=am (dX hj HX.o);have hT:=am (dX hj HY.o);have hf:=am (dX hj hD.o);have hg:=am (cR hs.o hj);have hF:=am (fun y hy=>cR (hp.o y hy) hj);have hQ:=am (cR (Hx).out hj);have hR:=am (hl.o.below hj hE.o);have hY:=ay hE.o hj.size;have hP:=am hY;clear hj HX HY hl hD hs hp
         have hN:=az (k:=0) hf.o;obtain⟨d0,d1,d2,d3,d4,d5,_⟩:=aU hT.o;have f1:=dw (k:=0) hf.o;simp only[ai,ah]at hN;refine ey (fun w'=>w'.cell? ⟨eb,0,none⟩=some (.slice av ys.length cv2)/\w'.cell? ⟨wr.heap.size+1,0,none⟩=some (.string (it.name))/\w'.cell? ⟨wr.heap.size+1,1,none⟩=some (.int .i64 it.kind)/\w'.cell? ⟨wr.heap.size+1,2,none⟩=some (.int .i64 it.mode)/\w'.cell? ⟨wr.heap.size+1,3,none⟩=some (.int .i64 it.time)/\w'.cell? ⟨wr.heap.size+1,4,none⟩=some (.slice a5 bs.length c5)/\w'.cell? ⟨wr.heap.size+1,5,none⟩=some (.string it.link)) (by kernel_rfl) (by kernel_rfl) ?_
         simp only[br,bt,aD,bo,Nat.reduceAdd,Nat.reduceSub];rw[<-hV];clear hV
         iterate 5 (refine cA rfl (by kernel_rfl) (fun _ _ _ h=>h) rfl ⟨hN,d0,d1,d2,d3,d4,d5⟩ (by rintro w' ⟨HP,HQ,HR,HS,HT,HU,HV⟩; go_simp; rfl) ?_; simp only[Act.put,aa,ag,ab])
         have hH:eb<W6.heap.size:=aw hf.o;have hb:wr.heap.size+1<W6.heap.size:=aw hT.o;have hu:=am ((au W6.heap.size W6).alloc (ak _) (.cells #[.string (it.name), .int .i64 it.kind, .int .i64 it.mode, .int .i64 it.time, .slice a5 bs.length c5, .string it.link] 79));have Hd:=aE ((hu.o.cell (p:=⟨eb,0,none⟩) hH).trans hN) (aE ((hu.o.cell (p:=⟨wr.heap.size+1,0,none⟩) hb).trans d0) (aE ((hu.o.cell (p:=⟨wr.heap.size+1,1,none⟩) hb).trans d1) (aE ((hu.o.cell (p:=⟨wr.heap.size+1,2,none⟩) hb).trans d2) (aE ((hu.o.cell (p:=⟨wr.heap.size+1,3,none⟩) hb).trans d3) (aE ((hu.o.cell (p:=⟨wr.heap.size+1,4,none⟩) hb).trans d4) ((hu.o.cell (p:=⟨wr.heap.size+1,5,none⟩) hb).trans d5))))))
         have Hy:=am Hd;clear Hd;refine cn 5 rfl (fun K hK=> ?_);go_wp2_with fail
         (first | (refine⟨Hy.o, ?_⟩) | skip)
         refine cn 6 rfl (fun K hK=> ?_);have Yd:ys.length<4096:=by have h1:=h4.o; rw[<-Hc.o,aB]at h1; exact h1
         go_wp2_with (at_builtin; go_must (refine bO Tryz.appEnts rfl _ _ rfl base (.slice av ys.length cv2) ys.length (jl ys) rfl W6 [.string (it.name), .int .i64 it.kind, .int .i64 it.mode, .int .i64 it.time, .slice a5 bs.length c5, .string it.link] _ rfl rfl (kQ (e:=⟨it.name,it.kind,it.mode,it.time,bs,it.link⟩)) hg.o (by omega) (by omega) ?_); intro v' wc hh ha _ Hg; obtain⟨ae,ce,rfl,-,-⟩:=aH hh)
         have hI:(Value.slice av ys.length cv2).ownBlock≠some eb:=fun e=>by
          obtain⟨cs,hc⟩:=bI hg.o e;exact absurd (bU hf.o hc) (by decide)
         have hw: ∀i,(Value.slice av ys.length cv2).ownBlock=some i->i<wr.heap.size:=fun i e=>by
          obtain⟨_,ys',_,HL,_⟩:=hA.o.box;exact(HL.lt _ e).2
         have hL:(Value.slice av ys.length cv2).ownBlock≠some (wr.heap.size+1):=fun e=>by have:=hw _ e; omega
         have hJ:(Value.slice av ys.length cv2).ownBlock≠some wr.heap.size:=fun e=>by have:=hw _ e; omega
         have hv:=(ha.block eb hH (fun e=>hI e.symm)).trans hf.o;have h0:=(ha.block (wr.heap.size+1) hb (fun e=>hL e.symm)).trans hT.o;have Hi:=(ha.block wr.heap.size (aw Hb.o) (fun e=>hJ e.symm)).trans Hb.o;have he:=lj.push (e:=⟨it.name,it.kind,it.mode,it.time,bs,it.link⟩) hf.o hg.o hF.o hQ.o hh ha Hg H3 hP.o
         rw[Hc.o]at he;have ho:=am (hR.o.step he.1 he.2);have hS:=am ((aC wc ⟨eb,0,none⟩ (.slice ae (ys.length+1) ce) wr.heap.size (by show wr.heap.size≠eb; have:=hA.o.lo; have:=hA.o.ord; omega)).trans Hi);have hU:=am ((aC wc ⟨eb,0,none⟩ (.slice ae (ys.length+1) ce) (wr.heap.size+1) (by show wr.heap.size+1≠eb; have:=hA.o.lo; have:=hA.o.ord; omega)).trans h0)
         have c0':=az (k:=0) hv;have f0':=dw (k:=0) hv;obtain⟨y0,y1,y2,y3,y4,y5,_⟩:=aU h0;simp only[ai,ah]at c0';clear hh ha Hg he hI hL hJ hw hN d0 d1 d2 d3 d4 d5 f1 hv h0 Hi;refine⟨⟨c0',y0,y1,y2,y3,y4,y5⟩, ?_⟩;refine cA rfl (by kernel_rfl) (fun _ _ _ h=>h) rfl ⟨c0',y0,y1,y2,y3,y4,y5⟩ (by rintro w' ⟨HP,HQ,HR,HS,HT,HU,HV⟩; go_simp; rfl) ?_
         simp only[Act.put,aa,ag,ab];refine cE (by kernel_rfl) ?_;refine eD rfl rfl (fun K hK=> ?_)
         go_upto_region 16 with(fail)
         obtain⟨W8,He⟩: ∃W8:World,W8=wc.setCell ⟨eb,0,none⟩ (.slice ae (ys.length+1) ce):=⟨_,rfl⟩;rw[<-He]at ho hS hU ⊢;clear He c0' f0' y0 y1 y2 y3 y4 y5;have HX:=hS;have HY:=hU;clear hS hU;obtain⟨c0,c1,_⟩:=aU HX.o;have c6:=az (k:=6) HX.o;have c7:=az (k:=7) HX.o;have c8:=az (k:=8) HX.o;have c9:=az (k:=9) HX.o;obtain⟨d0,d1,d2,d3,d4,d5,_⟩:=aU HY.o
         simp only[ai,aj,ah]at c6 c7 c8 c9;go_wp2_with fail;clear c0 c1 c6 c7 c8 c9 d0 d1 d2 d3 d4 d5
         go_roundw
         case rel=>exact⟨k+1,_,_,by omega,by go_num,by rw[<-Hn.o,Hs.o,h7.o],ho.o⟩
         case measure=>simp[intOf]; omega
       ·have e1:(it.kind == 1)=false:=by simp[Hf]
        have H2:=am Hf;clear Hf;have hl:=hC;have hE:=h3;have Hx:=am (bM w2 base 5 1);go_wp2_with fail;clear e0 c0 c1 c6 c7 c8 c9 d0 d1 d2 d3 d4 d5;obtain⟨ys,Hj,hz,hG⟩:=hl.o.box.2;obtain⟨av,cv2,HN,Yc,Yb⟩:=aH hz;have hD:=am hl.o.box.1;have hs:=am hz;have hp:=am hG
        have Hc:=am Hj;subst HN;clear Hj hz hG
        obtain⟨W6,hV⟩: ∃W6:World,W6=(w2).drew:=⟨_,rfl⟩;have hj:Below (w2).heap.size (w2) W6:=by rw[hV]; exact(au _ _).drew
        have yp:=am hj;have Hb:=am (dX hj HX.o);have hT:=am (dX hj HY.o);have hf:=am (dX hj hD.o);have hg:=am (cR hs.o hj);have hF:=am (fun y hy=>cR (hp.o y hy) hj);have hQ:=am (cR (Hx).out hj);have hR:=am (hl.o.below hj hE.o);have hY:=ay hE.o hj.size;have hP:=am hY;clear hj HX HY hl hD hs hp
        have hN:=az (k:=0) hf.o;obtain⟨d0,d1,d2,d3,d4,d5,_⟩:=aU hT.o;have f1:=dw (k:=0) hf.o;simp only[ai,ah]at hN;refine ey (fun w'=>w'.cell? ⟨eb,0,none⟩=some (.slice av ys.length cv2)/\w'.cell? ⟨wr.heap.size+1,0,none⟩=some (.string (it.name))/\w'.cell? ⟨wr.heap.size+1,1,none⟩=some (.int .i64 it.kind)/\w'.cell? ⟨wr.heap.size+1,2,none⟩=some (.int .i64 it.mode)/\w'.cell? ⟨wr.heap.size+1,3,none⟩=some (.int .i64 it.time)/\w'.cell? ⟨wr.heap.size+1,4,none⟩=some (.slice none 0 0)/\w'.cell? ⟨wr.heap.size+1,5,none⟩=some (.string it.link)) (by kernel_rfl) (by kernel_rfl) ?_
        simp only[br,bt,aD,bo,Nat.reduceAdd,Nat.reduceSub];rw[<-hV];clear hV
        iterate 5 (refine cA rfl (by kernel_rfl) (fun _ _ _ h=>h) rfl ⟨hN,d0,d1,d2,d3,d4,d5⟩ (by rintro w' ⟨HP,HQ,HR,HS,HT,HU,HV⟩; go_simp; rfl) ?_; simp only[Act.put,aa,ag,ab])
        have hH:eb<W6.heap.size:=aw hf.o;have hb:wr.heap.size+1<W6.heap.size:=aw hT.o;have hu:=am ((au W6.heap.size W6).alloc (ak _) (.cells #[.string (it.name), .int .i64 it.kind, .int .i64 it.mode, .int .i64 it.time, .slice none 0 0, .string it.link] 79));have Hd:=aE ((hu.o.cell (p:=⟨eb,0,none⟩) hH).trans hN) (aE ((hu.o.cell (p:=⟨wr.heap.size+1,0,none⟩) hb).trans d0) (aE ((hu.o.cell (p:=⟨wr.heap.size+1,1,none⟩) hb).trans d1) (aE ((hu.o.cell (p:=⟨wr.heap.size+1,2,none⟩) hb).trans d2) (aE ((hu.o.cell (p:=⟨wr.heap.size+1,3,none⟩) hb).trans d3) (aE ((hu.o.cell (p:=⟨wr.heap.size+1,4,none⟩) hb).trans d4) ((hu.o.cell (p:=⟨wr.heap.size+1,5,none⟩) hb).trans d5))))))
        have Hy:=am Hd;clear Hd;refine cn 5 rfl (fun K hK=> ?_);go_wp2_with fail
        (first | (refine⟨Hy.o, ?_⟩) | skip)
        refine cn 6 rfl (fun K hK=> ?_);have Yd:ys.length<4096:=by have h1:=h4.o; rw[<-Hc.o,aB]at h1; exact h1
        go_wp2_with (at_builtin; go_must (refine bO Tryz.appEnts rfl _ _ rfl base (.slice av ys.length cv2) ys.length (jl ys) rfl W6 [.string (it.name), .int .i64 it.kind, .int .i64 it.mode, .int .i64 it.time, .slice none 0 0, .string it.link] _ rfl rfl (kQ (e:=⟨it.name,it.kind,it.mode,it.time,[],it.link⟩)) hg.o (by omega) (by omega) ?_); intro v' wc hh ha _ Hg; obtain⟨ae,ce,rfl,-,-⟩:=aH hh)
        have hI:(Value.slice av ys.length cv2).ownBlock≠some eb:=fun e=>by
         obtain⟨cs,hc⟩:=bI hg.o e;exact absurd (bU hf.o hc) (by decide)
        have hw: ∀i,(Value.slice av ys.length cv2).ownBlock=some i->i<wr.heap.size:=fun i e=>by
         obtain⟨_,ys',_,HL,_⟩:=hA.o.box;exact(HL.lt _ e).2
        have hL:(Value.slice av ys.length cv2).ownBlock≠some (wr.heap.size+1):=fun e=>by have:=hw _ e; omega
        have hJ:(Value.slice av ys.length cv2).ownBlock≠some wr.heap.size:=fun e=>by have:=hw _ e; omega
        have hv:=(ha.block eb hH (fun e=>hI e.symm)).trans hf.o;have h0:=(ha.block (wr.heap.size+1) hb (fun e=>hL e.symm)).trans hT.o;have Hi:=(ha.block wr.heap.size (aw Hb.o) (fun e=>hJ e.symm)).trans Hb.o;have he:=lj.push (e:=⟨it.name,it.kind,it.mode,it.time,[],it.link⟩) hf.o hg.o hF.o hQ.o hh ha Hg H3 hP.o
        rw[Hc.o]at he;have ho:=am (hR.o.step he.1 he.2);have hS:=am ((aC wc ⟨eb,0,none⟩ (.slice ae (ys.length+1) ce) wr.heap.size (by show wr.heap.size≠eb; have:=hA.o.lo; have:=hA.o.ord; omega)).trans Hi);have hU:=am ((aC wc ⟨eb,0,none⟩ (.slice ae (ys.length+1) ce) (wr.heap.size+1) (by show wr.heap.size+1≠eb; have:=hA.o.lo; have:=hA.o.ord; omega)).trans h0)
        have c0':=az (k:=0) hv;have f0':=dw (k:=0) hv;obtain⟨y0,y1,y2,y3,y4,y5,_⟩:=aU h0;simp only[ai,ah]at c0';clear hh ha Hg he hI hL hJ hw hN d0 d1 d2 d3 d4 d5 f1 hv h0 Hi;refine⟨⟨c0',y0,y1,y2,y3,y4,y5⟩, ?_⟩;refine cA rfl (by kernel_rfl) (fun _ _ _ h=>h) rfl ⟨c0',y0,y1,y2,y3,y4,y5⟩ (by rintro w' ⟨HP,HQ,HR,HS,HT,HU,HV⟩; go_simp; rfl) ?_
        simp only[Act.put,aa,ag,ab];refine cE (by kernel_rfl) ?_;refine eD rfl rfl (fun K hK=> ?_)
        go_upto_region 16 with(fail)
        obtain⟨W8,He⟩: ∃W8:World,W8=wc.setCell ⟨eb,0,none⟩ (.slice ae (ys.length+1) ce):=⟨_,rfl⟩;rw[<-He]at ho hS hU ⊢;clear He c0' f0' y0 y1 y2 y3 y4 y5;have HX:=hS;have HY:=hU;clear hS hU;obtain⟨c0,c1,_⟩:=aU HX.o;have c6:=az (k:=6) HX.o;have c7:=az (k:=7) HX.o;have c8:=az (k:=8) HX.o;have c9:=az (k:=9) HX.o;obtain⟨d0,d1,d2,d3,d4,d5,_⟩:=aU HY.o
        simp only[ai,aj,ah]at c6 c7 c8 c9
        by_cases Hq:it.kind=2
        ·have e2:(it.kind == 2)=true:=by simp[Hq]
         have Hr:=Yq.o (it.name) it.node (acc2++[⟨it.name,it.kind,it.mode,it.time,[],it.link⟩]) base eb _ W8 (by have h1:=ve dir it.name H0; rw[Hu.o]at h1; omega) (.inr h8.o) ho.o.box HO.o.nd (HI.o.keepL ho.o.kp.below hB) hB H3 (ay Ht ho.o.kp.below.size);have h7:=am (ux (cs:=cs) (rec:=jn cs n) (r:=l.drop (k+1)) Hu.o h8.o h4.o Hq)
         obtain⟨q,hq⟩: ∃q,q=jn cs n (it.name) it.node (acc2++[⟨it.name,it.kind,it.mode,it.time,[],it.link⟩]):=⟨_,rfl⟩;rw[<-hq]at Hr h7;have H6:=am Hr;clear Hr hq Hq;go_wp2_with fail;refine H6.o.mono ?_;rintro e w9 ⟨rfl,v9,HG,HJ⟩;have Hm:=am (ho.o.step HG HJ);clear HG HJ c0 c1 c6 c7 c8 c9 d0 d1 d2 d3 d4 d5
         by_cases hx:q.1=0
         ·have e3:(q.1 != 0)=false:=by simp[hx]
          have H5:=am hx;clear hx;go_wp2_with fail
          go_roundw
          case rel=>exact⟨k+1,v9,q.2,by omega,by go_num,by rw[<-Hn.o,Hs.o,h7.o,if_pos H5.o],Hm.o⟩
          case measure=>simp[intOf]; omega
         ·have e3:(q.1 != 0)=true:=by simp[hx]
          have H5:=am hx;clear hx;go_wp2_with fail;go_ret;rw[<-Hn.o,Hs.o,h7.o,if_neg H5.o];exact⟨rfl,v9,Hm.o.box,Hm.o.kp⟩
        ·have e2:(it.kind == 2)=false:=by simp[Hq]
         have h7:=am (xJ (cs:=cs) (rec:=jn cs n) (r:=l.drop (k+1)) Hu.o h8.o h4.o Hq H2.o);clear Hq;go_wp2_with fail;clear c0 c1 c6 c7 c8 c9 d0 d1 d2 d3 d4 d5
         go_roundw
         case rel=>exact⟨k+1,_,_,by omega,by go_num,by rw[<-Hn.o,Hs.o,h7.o],ho.o⟩
         case measure=>simp[intOf]; omega
      ·have Ym: ¬(acc2.length:Int)<4096:=by omega
       have h4:=am hO;clear hO;go_wp2_with fail;go_ret;have h1:=Hn.o;rw[Hs.o,kH,if_neg (fun h=>h4.o h.2)]at h1;rw[<-h1];exact⟨rfl,v2,hC.o.box,hC.o.kp⟩
    ·have e2:dir.toList≠[]:=by rw[fp]; intro h; apply Yg; rw[bh,h]; rfl
     have e3:dir.toList.isEmpty=false:=by simpa using e2
     have Yx:lF dir it.name=dir++⟨#[47]⟩++it.name:=by unfold lF; rw[if_neg Yg]
     go_wp2_with fail;rw[<-Yx];obtain⟨pt,Yn⟩: ∃pt,lF dir it.name=pt:=⟨_,rfl⟩;have Hu:=am Yn;rw[Yn];clear Yn Yx;obtain⟨W,hW⟩: ∃W,W=(wr.alloc (.cells #[.string it.name, .int .i64 it.kind, .int .i64 it.mode, .int .i64 it.time, .int .i64 it.size, .string it.link, .slice ca it.chunks.length cc, .string it.node.name, .int .i64 it.node.gen, .int .i64 it.node.size] 28)).alloc (.cells #[.string (pt), .int .i64 it.kind, .int .i64 it.mode, .int .i64 it.time, .slice none 0 0, .string it.link] 79):=⟨_,rfl⟩
     rw[<-hW];have Ho:=am (show Below wr.heap.size wr W by rw[hW]; exact(eK).alloc (by simp) _);have y9:=am (show W.heap[wr.heap.size]? =some (.cells #[.string it.name, .int .i64 it.kind, .int .i64 it.mode, .int .i64 it.time, .int .i64 it.size, .string it.link, .slice ca it.chunks.length cc, .string it.node.name, .int .i64 it.node.gen, .int .i64 it.node.size] 28 (0,0)) by rw[hW]; exact lW (dZ wr _) _)
     have HB:=am (show W.heap[wr.heap.size+1]? =some (.cells #[.string (pt), .int .i64 it.kind, .int .i64 it.mode, .int .i64 it.time, .slice none 0 0, .string it.link] 79 (0,0)) by rw[hW]; exact pJ wr _ _);have Hl:=am (hA.o.below Ho.o Hw.o);have yv:=am (show nY W from(HI.o.keepL (Hl.o.kp.below) hB).env);clear hW q0 q1 q2 q3 q4 q5 q6 q7 q8 q9
     cases h9:dD (bl (pt))with
     | false=>
      have h8:=am h9;clear h9;refine(mG (pt) false W yv.o h8.o).mono ?_;rintro e w2 ⟨rfl,h2⟩;have hC:=am (Hl.o.below h2 (ay Hw.o Ho.o.size));clear h2;go_wp2_with fail;go_ret;have h1:=Hn.o;rw[Hs.o,kH,if_neg (fun h=>by rw[Hu.o,h8.o]at h; cases h.1)]at h1;rw[<-h1];exact⟨rfl,v2,hC.o.box,hC.o.kp⟩
     | true=>
      have h8:=am h9;clear h9;refine(mG (pt) true W yv.o h8.o).mono ?_;rintro e w2 ⟨rfl,h2⟩;have hC:=am (Hl.o.below h2 (ay Hw.o Ho.o.size));have HX:=am (dX h2 y9.o);have HY:=am (dX h2 HB.o);have h3:=am (ay (ay Hw.o Ho.o.size) h2.size);have H7:=am (show dy (fun k=>w.heap.size+1<=k/\k<w1.heap.size) w2 (.slice ca it.chunks.length cc) it.chunks from cP.below (cP.below Ys.o (by omega) Ho.o (fun _ _ _ h=>h)) (by omega) h2 (fun _ _ _ h=>h))
      have H1:=am (Ho.o.trans (h2.mono Ho.o.size));clear h2 y9 HB;obtain⟨ys0,HZ,Hh,-⟩:=hC.o.box.2;obtain⟨av0,cv0,yb,yc,Yp⟩:=aH Hh;have HK:ys0.length=acc2.length:=by rw[<-HZ,aB]
      rw[HK]at yb yc;have e0:=az (k:=0) hC.o.box.1;simp only[ai,ah]at e0;rw[yb]at e0;obtain⟨c0,c1,_⟩:=aU HX.o;have c6:=az (k:=6) HX.o;have c7:=az (k:=7) HX.o;have c8:=az (k:=8) HX.o;have c9:=az (k:=9) HX.o;obtain⟨d0,d1,d2,d3,d4,d5,_⟩:=aU HY.o;simp only[ai,aj,ah]at c6 c7 c8 c9
      clear HZ Hh yb HK
      by_cases hO:acc2.length<4096
      ·have Ym:(acc2.length:Int)<4096:=by omega
       have h4:=am hO;clear hO
       by_cases Hf:it.kind=1
       ·have e1:(it.kind == 1)=true:=by simp[Hf]
        have H2:=am Hf;have e2:(it.kind == 2)=false:=by simp[Hf]
        have HF:=nj Hf (by have h:=Yt.o; unfold jo at h; rw[aI]at h; exact h.2);have ya:=xN (l:=it.chunks) (by have:=Ye.o; omega) (fun r hr=>(HF.2.2.1 r hr).1) _ (ak _);rw[dj]at ya;have Hp:=uX (fun _=>True) cv (.slice ca it.chunks.length cc) cs it.chunks w2 (fW.wide (HI.o.keepL hC.o.kp.below hB).cont) (dy.same H7.o (fun k _ _=>⟨trivial,rfl⟩)) ya.1 (by rw[<-HF.2.2.2.1]; exact HF.2.2.2.2) (by have:=Ye.o; omega) (fun r hr=>(HF.2.2.1 r hr).1)
        unfold AC at Hp;clear Hf HF ya
        cases Hv:om cs it.chunks []with
        | error x=>
         rw[Hv]at Hp;have Hk:=am Hp;have H4:=am Hv;clear Hp Hv;go_wp2_with fail;refine Hk.o.mono ?_;rintro e w5 ⟨hX,rfl,hx⟩;have HW:=dX hX HX.o;have hZ:=dX hX HY.o;have HB:=am hZ;have d4':=az (k:=4) hZ;have f4':=dw (k:=4) hZ;simp only[ai,aj,ah]at d4';clear e0 c0 c1 c6 c7 c8 c9 d0 d1 d2 d3 d4 d5
         go_wp2_with fail;obtain⟨W5,hM⟩: ∃W5:World,W5=w5.setCell ⟨wr.heap.size+1,4,none⟩ (.slice none 0 0):=⟨_,rfl⟩;rw[<-hM];have y8:=am hM;have Hz:=am ((show W5.heap[wr.heap.size]? =w5.heap[wr.heap.size]? from by rw[hM,aC _ _ _ _ (by show wr.heap.size≠wr.heap.size+1; omega)]).trans HW);have Ha:=jb (k:=4) hZ (.slice none 0 0);simp only[aa,ag,ab]at Ha
         rw[<-hM]at Ha;have HC:=am Ha;have hl:=am (show vo w (w.heap.size+1) w1.heap.size base eb v (.slice (some ⟨b,o,none⟩) m cap1) l W5 v2 acc2 from hA.o.below (by rw[hM]; exact cw (H1.o.trans (hX.mono H1.o.size)) (by show wr.heap.size<=wr.heap.size+1; omega) _) Hw.o);have hE:=am (show base<=W5.heap.size from ay h3.o (by rw[hM]; have:=hX.size; simpa [World.setCell]using this))
         clear hM HW hZ Ha d4' f4' HX HY hX;have HX:=Hz;have HY:=HC;clear Hz HC;have Hx:=am (bM W5 base 5 1);have e4:(x != 0)=true:=by simp[hx]
         have h7:=am (Al (cs:=cs) (rec:=jn cs n) (r:=l.drop (k+1)) Hu.o h8.o h4.o H2.o H4.o hx);clear hx;obtain⟨ys,Hj,hz,hG⟩:=hl.o.box.2;obtain⟨av,cv2,HN,Yc,Yb⟩:=aH hz;have hD:=am hl.o.box.1;have hs:=am hz;have hp:=am hG
         have Hc:=am Hj;subst HN;clear Hj hz hG
         obtain⟨W6,hV⟩: ∃W6:World,W6=(W5).drew:=⟨_,rfl⟩;have hj:Below (W5).heap.size (W5) W6:=by rw[hV]; exact(au _ _).drew
         have yp:=am hj;have Hb:=am (dX hj HX.o);have hT:=am (dX hj HY.o);have hf:=am (dX hj hD.o);have hg:=am (cR hs.o hj);have hF:=am (fun y hy=>cR (hp.o y hy) hj);have hQ:=am (cR (Hx).out hj);have hR:=am (hl.o.below hj hE.o);have hY:=ay hE.o hj.size;have hP:=am hY;clear hj HX HY hl hD hs hp
         have hN:=az (k:=0) hf.o;obtain⟨d0,d1,d2,d3,d4,d5,_⟩:=aU hT.o;have f1:=dw (k:=0) hf.o;simp only[ai,ah]at hN;refine ey (fun w'=>w'.cell? ⟨eb,0,none⟩=some (.slice av ys.length cv2)/\w'.cell? ⟨wr.heap.size+1,0,none⟩=some (.string (pt))/\w'.cell? ⟨wr.heap.size+1,1,none⟩=some (.int .i64 it.kind)/\w'.cell? ⟨wr.heap.size+1,2,none⟩=some (.int .i64 it.mode)/\w'.cell? ⟨wr.heap.size+1,3,none⟩=some (.int .i64 it.time)/\w'.cell? ⟨wr.heap.size+1,4,none⟩=some (.slice none 0 0)/\w'.cell? ⟨wr.heap.size+1,5,none⟩=some (.string it.link)) (by kernel_rfl) (by kernel_rfl) ?_
         simp only[br,bt,aD,bo,Nat.reduceAdd,Nat.reduceSub];rw[<-hV];clear hV
         iterate 5 (refine cA rfl (by kernel_rfl) (fun _ _ _ h=>h) rfl ⟨hN,d0,d1,d2,d3,d4,d5⟩ (by rintro w' ⟨HP,HQ,HR,HS,HT,HU,HV⟩; go_simp; rfl) ?_; simp only[Act.put,aa,ag,ab])
         have hH:eb<W6.heap.size:=aw hf.o;have hb:wr.heap.size+1<W6.heap.size:=aw hT.o;have hu:=am ((au W6.heap.size W6).alloc (ak _) (.cells #[.string (pt), .int .i64 it.kind, .int .i64 it.mode, .int .i64 it.time, .slice none 0 0, .string it.link] 79));have Hd:=aE ((hu.o.cell (p:=⟨eb,0,none⟩) hH).trans hN) (aE ((hu.o.cell (p:=⟨wr.heap.size+1,0,none⟩) hb).trans d0) (aE ((hu.o.cell (p:=⟨wr.heap.size+1,1,none⟩) hb).trans d1) (aE ((hu.o.cell (p:=⟨wr.heap.size+1,2,none⟩) hb).trans d2) (aE ((hu.o.cell (p:=⟨wr.heap.size+1,3,none⟩) hb).trans d3) (aE ((hu.o.cell (p:=⟨wr.heap.size+1,4,none⟩) hb).trans d4) ((hu.o.cell (p:=⟨wr.heap.size+1,5,none⟩) hb).trans d5))))))
         have Hy:=am Hd;clear Hd;refine cn 5 rfl (fun K hK=> ?_);go_wp2_with fail
         (first | (refine⟨Hy.o, ?_⟩) | skip)
         refine cn 6 rfl (fun K hK=> ?_);have Yd:ys.length<4096:=by have h1:=h4.o; rw[<-Hc.o,aB]at h1; exact h1
         go_wp2_with (at_builtin; go_must (refine bO Tryz.appEnts rfl _ _ rfl base (.slice av ys.length cv2) ys.length (jl ys) rfl W6 [.string (pt), .int .i64 it.kind, .int .i64 it.mode, .int .i64 it.time, .slice none 0 0, .string it.link] _ rfl rfl (kQ (e:=⟨pt,it.kind,it.mode,it.time,[],it.link⟩)) hg.o (by omega) (by omega) ?_); intro v' wc hh ha _ Hg; obtain⟨ae,ce,rfl,-,-⟩:=aH hh)
         have hI:(Value.slice av ys.length cv2).ownBlock≠some eb:=fun e=>by
          obtain⟨cs,hc⟩:=bI hg.o e;exact absurd (bU hf.o hc) (by decide)
         have hw: ∀i,(Value.slice av ys.length cv2).ownBlock=some i->i<wr.heap.size:=fun i e=>by
          obtain⟨_,ys',_,HL,_⟩:=hA.o.box;exact(HL.lt _ e).2
         have hL:(Value.slice av ys.length cv2).ownBlock≠some (wr.heap.size+1):=fun e=>by have:=hw _ e; omega
         have hJ:(Value.slice av ys.length cv2).ownBlock≠some wr.heap.size:=fun e=>by have:=hw _ e; omega
         have hv:=(ha.block eb hH (fun e=>hI e.symm)).trans hf.o;have h0:=(ha.block (wr.heap.size+1) hb (fun e=>hL e.symm)).trans hT.o;have Hi:=(ha.block wr.heap.size (aw Hb.o) (fun e=>hJ e.symm)).trans Hb.o;have he:=lj.push (e:=⟨pt,it.kind,it.mode,it.time,[],it.link⟩) hf.o hg.o hF.o hQ.o hh ha Hg H3 hP.o;rw[Hc.o]at he
         have ho:=am (hR.o.step he.1 he.2);have hS:=am ((aC wc ⟨eb,0,none⟩ (.slice ae (ys.length+1) ce) wr.heap.size (by show wr.heap.size≠eb; have:=hA.o.lo; have:=hA.o.ord; omega)).trans Hi);have hU:=am ((aC wc ⟨eb,0,none⟩ (.slice ae (ys.length+1) ce) (wr.heap.size+1) (by show wr.heap.size+1≠eb; have:=hA.o.lo; have:=hA.o.ord; omega)).trans h0)
         have c0':=az (k:=0) hv;have f0':=dw (k:=0) hv;obtain⟨y0,y1,y2,y3,y4,y5,_⟩:=aU h0;simp only[ai,ah]at c0';clear hh ha Hg he hI hL hJ hw hN d0 d1 d2 d3 d4 d5 f1 hv h0 Hi;refine⟨⟨c0',y0,y1,y2,y3,y4,y5⟩, ?_⟩;refine cA rfl (by kernel_rfl) (fun _ _ _ h=>h) rfl ⟨c0',y0,y1,y2,y3,y4,y5⟩ (by rintro w' ⟨HP,HQ,HR,HS,HT,HU,HV⟩; go_simp; rfl) ?_
         simp only[Act.put,aa,ag,ab];refine cE (by kernel_rfl) ?_;refine eD rfl rfl (fun K hK=> ?_)
         go_upto_region 16 with(fail)
         obtain⟨W8,He⟩: ∃W8:World,W8=wc.setCell ⟨eb,0,none⟩ (.slice ae (ys.length+1) ce):=⟨_,rfl⟩;rw[<-He]at ho hS hU ⊢;clear He c0' f0' y0 y1 y2 y3 y4 y5;have HX:=hS;have HY:=hU;clear hS hU;obtain⟨c0,c1,_⟩:=aU HX.o;have c6:=az (k:=6) HX.o;have c7:=az (k:=7) HX.o;have c8:=az (k:=8) HX.o;have c9:=az (k:=9) HX.o;obtain⟨d0,d1,d2,d3,d4,d5,_⟩:=aU HY.o
         simp only[ai,aj,ah]at c6 c7 c8 c9;go_wp2_with fail;go_ret;rw[<-Hn.o,Hs.o,h7.o];exact⟨rfl,_,ho.o.box,ho.o.kp⟩
        | ok bs=>
         rw[Hv]at Hp;have Hk:=am Hp;have H4:=am Hv;clear Hp Hv;go_wp2_with fail;refine Hk.o.mono ?_;rintro e w5 ⟨hX,v5,rfl,H9⟩;obtain⟨a5,c5,rfl,-,-⟩:=aH H9;have y7:=am H9;clear H9;have HW:=dX hX HX.o;have hZ:=dX hX HY.o;have HB:=am hZ;have d4':=az (k:=4) hZ;have f4':=dw (k:=4) hZ;simp only[ai,aj,ah]at d4'
         clear e0 c0 c1 c6 c7 c8 c9 d0 d1 d2 d3 d4 d5;go_wp2_with fail;obtain⟨W5,hM⟩: ∃W5:World,W5=w5.setCell ⟨wr.heap.size+1,4,none⟩ (.slice a5 bs.length c5):=⟨_,rfl⟩;rw[<-hM];have y8:=am hM;have Hz:=am ((show W5.heap[wr.heap.size]? =w5.heap[wr.heap.size]? from by rw[hM,aC _ _ _ _ (by show wr.heap.size≠wr.heap.size+1; omega)]).trans HW);have Ha:=jb (k:=4) hZ (.slice a5 bs.length c5)
         simp only[aa,ag,ab]at Ha;rw[<-hM]at Ha;have HC:=am Ha;have hl:=am (show vo w (w.heap.size+1) w1.heap.size base eb v (.slice (some ⟨b,o,none⟩) m cap1) l W5 v2 acc2 from hA.o.below (by rw[hM]; exact cw (H1.o.trans (hX.mono H1.o.size)) (by show wr.heap.size<=wr.heap.size+1; omega) _) Hw.o)
         have hE:=am (show base<=W5.heap.size from ay h3.o (by rw[hM]; have:=hX.size; simpa [World.setCell]using this));clear hM HW hZ Ha d4' f4' HX HY hX;have HX:=Hz;have HY:=HC;clear Hz HC;have Hx:=am (show W5.ownsRow base 5 1 (.slice a5 bs.length c5) bs.length (bs.map aY)from by
          rw[y8.o];refine(gA y7.o h3.o).kept (cG w5 _ _ _) (.inr (fun e=> ?_));obtain⟨cs2,Yl⟩:=bI y7.o e;exact absurd (bU HB.o Yl) (by decide))
         have h7:=am (sC (cs:=cs) (rec:=jn cs n) (r:=l.drop (k+1)) Hu.o h8.o h4.o H2.o H4.o);obtain⟨ys,Hj,hz,hG⟩:=hl.o.box.2;obtain⟨av,cv2,HN,Yc,Yb⟩:=aH hz;have hD:=am hl.o.box.1;have hs:=am hz;have hp:=am hG
         have Hc:=am Hj;subst HN;clear Hj hz hG
         obtain⟨W6,hV⟩: ∃W6:World,W6=(W5).drew:=⟨_,rfl⟩;have hj:Below (W5).heap.size (W5) W6:=by rw[hV]; exact(au _ _).drew
         have yp:=am hj;have Hb:=am (dX hj HX.o);have hT:=am (dX hj HY.o);have hf:=am (dX hj hD.o);have hg:=am (cR hs.o hj);have hF:=am (fun y hy=>cR (hp.o y hy) hj);have hQ:=am (cR (Hx).out hj);have hR:=am (hl.o.below hj hE.o);have hY:=ay hE.o hj.size;have hP:=am hY;clear hj HX HY hl hD hs hp
         have hN:=az (k:=0) hf.o;obtain⟨d0,d1,d2,d3,d4,d5,_⟩:=aU hT.o;have f1:=dw (k:=0) hf.o;simp only[ai,ah]at hN;refine ey (fun w'=>w'.cell? ⟨eb,0,none⟩=some (.slice av ys.length cv2)/\w'.cell? ⟨wr.heap.size+1,0,none⟩=some (.string (pt))/\w'.cell? ⟨wr.heap.size+1,1,none⟩=some (.int .i64 it.kind)/\w'.cell? ⟨wr.heap.size+1,2,none⟩=some (.int .i64 it.mode)/\w'.cell? ⟨wr.heap.size+1,3,none⟩=some (.int .i64 it.time)/\w'.cell? ⟨wr.heap.size+1,4,none⟩=some (.slice a5 bs.length c5)/\w'.cell? ⟨wr.heap.size+1,5,none⟩=some (.string it.link)) (by kernel_rfl) (by kernel_rfl) ?_
         simp only[br,bt,aD,bo,Nat.reduceAdd,Nat.reduceSub];rw[<-hV];clear hV
         iterate 5 (refine cA rfl (by kernel_rfl) (fun _ _ _ h=>h) rfl ⟨hN,d0,d1,d2,d3,d4,d5⟩ (by rintro w' ⟨HP,HQ,HR,HS,HT,HU,HV⟩; go_simp; rfl) ?_; simp only[Act.put,aa,ag,ab])
         have hH:eb<W6.heap.size:=aw hf.o;have hb:wr.heap.size+1<W6.heap.size:=aw hT.o;have hu:=am ((au W6.heap.size W6).alloc (ak _) (.cells #[.string (pt), .int .i64 it.kind, .int .i64 it.mode, .int .i64 it.time, .slice a5 bs.length c5, .string it.link] 79));have Hd:=aE ((hu.o.cell (p:=⟨eb,0,none⟩) hH).trans hN) (aE ((hu.o.cell (p:=⟨wr.heap.size+1,0,none⟩) hb).trans d0) (aE ((hu.o.cell (p:=⟨wr.heap.size+1,1,none⟩) hb).trans d1) (aE ((hu.o.cell (p:=⟨wr.heap.size+1,2,none⟩) hb).trans d2) (aE ((hu.o.cell (p:=⟨wr.heap.size+1,3,none⟩) hb).trans d3) (aE ((hu.o.cell (p:=⟨wr.heap.size+1,4,none⟩) hb).trans d4) ((hu.o.cell (p:=⟨wr.heap.size+1,5,none⟩) hb).trans d5))))))
         have Hy:=am Hd;clear Hd;refine cn 5 rfl (fun K hK=> ?_);go_wp2_with fail
         (first | (refine⟨Hy.o, ?_⟩) | skip)
         refine cn 6 rfl (fun K hK=> ?_);have Yd:ys.length<4096:=by have h1:=h4.o; rw[<-Hc.o,aB]at h1; exact h1
         go_wp2_with (at_builtin; go_must (refine bO Tryz.appEnts rfl _ _ rfl base (.slice av ys.length cv2) ys.length (jl ys) rfl W6 [.string (pt), .int .i64 it.kind, .int .i64 it.mode, .int .i64 it.time, .slice a5 bs.length c5, .string it.link] _ rfl rfl (kQ (e:=⟨pt,it.kind,it.mode,it.time,bs,it.link⟩)) hg.o (by omega) (by omega) ?_); intro v' wc hh ha _ Hg; obtain⟨ae,ce,rfl,-,-⟩:=aH hh)
         have hI:(Value.slice av ys.length cv2).ownBlock≠some eb:=fun e=>by
          obtain⟨cs,hc⟩:=bI hg.o e;exact absurd (bU hf.o hc) (by decide)
         have hw: ∀i,(Value.slice av ys.length cv2).ownBlock=some i->i<wr.heap.size:=fun i e=>by
          obtain⟨_,ys',_,HL,_⟩:=hA.o.box;exact(HL.lt _ e).2
         have hL:(Value.slice av ys.length cv2).ownBlock≠some (wr.heap.size+1):=fun e=>by have:=hw _ e; omega
         have hJ:(Value.slice av ys.length cv2).ownBlock≠some wr.heap.size:=fun e=>by have:=hw _ e; omega
         have hv:=(ha.block eb hH (fun e=>hI e.symm)).trans hf.o;have h0:=(ha.block (wr.heap.size+1) hb (fun e=>hL e.symm)).trans hT.o;have Hi:=(ha.block wr.heap.size (aw Hb.o) (fun e=>hJ e.symm)).trans Hb.o;have he:=lj.push (e:=⟨pt,it.kind,it.mode,it.time,bs,it.link⟩) hf.o hg.o hF.o hQ.o hh ha Hg H3 hP.o;rw[Hc.o]at he
         have ho:=am (hR.o.step he.1 he.2);have hS:=am ((aC wc ⟨eb,0,none⟩ (.slice ae (ys.length+1) ce) wr.heap.size (by show wr.heap.size≠eb; have:=hA.o.lo; have:=hA.o.ord; omega)).trans Hi);have hU:=am ((aC wc ⟨eb,0,none⟩ (.slice ae (ys.length+1) ce) (wr.heap.size+1) (by show wr.heap.size+1≠eb; have:=hA.o.lo; have:=hA.o.ord; omega)).trans h0)
         have c0':=az (k:=0) hv;have f0':=dw (k:=0) hv;obtain⟨y0,y1,y2,y3,y4,y5,_⟩:=aU h0;simp only[ai,ah]at c0';clear hh ha Hg he hI hL hJ hw hN d0 d1 d2 d3 d4 d5 f1 hv h0 Hi;refine⟨⟨c0',y0,y1,y2,y3,y4,y5⟩, ?_⟩;refine cA rfl (by kernel_rfl) (fun _ _ _ h=>h) rfl ⟨c0',y0,y1,y2,y3,y4,y5⟩ (by rintro w' ⟨HP,HQ,HR,HS,HT,HU,HV⟩; go_simp; rfl) ?_
         simp only[Act.put,aa,ag,ab];refine cE (by kernel_rfl) ?_;refine eD rfl rfl (fun K hK=> ?_)
         go_upto_region 16 with(fail)
         obtain⟨W8,He⟩: ∃W8:World,W8=wc.setCell ⟨eb,0,none⟩ (.slice ae (ys.length+1) ce):=⟨_,rfl⟩;rw[<-He]at ho hS hU ⊢;clear He c0' f0' y0 y1 y2 y3 y4 y5;have HX:=hS;have HY:=hU;clear hS hU;obtain⟨c0,c1,_⟩:=aU HX.o;have c6:=az (k:=6) HX.o;have c7:=az (k:=7) HX.o;have c8:=az (k:=8) HX.o;have c9:=az (k:=9) HX.o;obtain⟨d0,d1,d2,d3,d4,d5,_⟩:=aU HY.o
         simp only[ai,aj,ah]at c6 c7 c8 c9;go_wp2_with fail;clear c0 c1 c6 c7 c8 c9 d0 d1 d2 d3 d4 d5
         go_roundw
         case rel=>exact⟨k+1,_,_,by omega,by go_num,by rw[<-Hn.o,Hs.o,h7.o],ho.o⟩
         case measure=>simp[intOf]; omega
       ·have e1:(it.kind == 1)=false:=by simp[Hf]
        have H2:=am Hf;clear Hf;have hl:=hC;have hE:=h3;have Hx:=am (bM w2 base 5 1);go_wp2_with fail;clear e0 c0 c1 c6 c7 c8 c9 d0 d1 d2 d3 d4 d5;obtain⟨ys,Hj,hz,hG⟩:=hl.o.box.2;obtain⟨av,cv2,HN,Yc,Yb⟩:=aH hz;have hD:=am hl.o.box.1;have hs:=am hz;have hp:=am hG
        have Hc:=am Hj;subst HN;clear Hj hz hG
        obtain⟨W6,hV⟩: ∃W6:World,W6=(w2).drew:=⟨_,rfl⟩;have hj:Below (w2).heap.size (w2) W6:=by rw[hV]; exact(au _ _).drew
        have yp:=am hj;have Hb:=am (dX hj HX.o);have hT:=am (dX hj HY.o);have hf:=am (dX hj hD.o);have hg:=am (cR hs.o hj);have hF:=am (fun y hy=>cR (hp.o y hy) hj);have hQ:=am (cR (Hx).out hj);have hR:=am (hl.o.below hj hE.o);have hY:=ay hE.o hj.size;have hP:=am hY;clear hj HX HY hl hD hs hp
        have hN:=az (k:=0) hf.o;obtain⟨d0,d1,d2,d3,d4,d5,_⟩:=aU hT.o;have f1:=dw (k:=0) hf.o;simp only[ai,ah]at hN;refine ey (fun w'=>w'.cell? ⟨eb,0,none⟩=some (.slice av ys.length cv2)/\w'.cell? ⟨wr.heap.size+1,0,none⟩=some (.string (pt))/\w'.cell? ⟨wr.heap.size+1,1,none⟩=some (.int .i64 it.kind)/\w'.cell? ⟨wr.heap.size+1,2,none⟩=some (.int .i64 it.mode)/\w'.cell? ⟨wr.heap.size+1,3,none⟩=some (.int .i64 it.time)/\w'.cell? ⟨wr.heap.size+1,4,none⟩=some (.slice none 0 0)/\w'.cell? ⟨wr.heap.size+1,5,none⟩=some (.string it.link)) (by kernel_rfl) (by kernel_rfl) ?_
        simp only[br,bt,aD,bo,Nat.reduceAdd,Nat.reduceSub];rw[<-hV];clear hV
        iterate 5 (refine cA rfl (by kernel_rfl) (fun _ _ _ h=>h) rfl ⟨hN,d0,d1,d2,d3,d4,d5⟩ (by rintro w' ⟨HP,HQ,HR,HS,HT,HU,HV⟩; go_simp; rfl) ?_; simp only[Act.put,aa,ag,ab])
        have hH:eb<W6.heap.size:=aw hf.o;have hb:wr.heap.size+1<W6.heap.size:=aw hT.o;have hu:=am ((au W6.heap.size W6).alloc (ak _) (.cells #[.string (pt), .int .i64 it.kind, .int .i64 it.mode, .int .i64 it.time, .slice none 0 0, .string it.link] 79));have Hd:=aE ((hu.o.cell (p:=⟨eb,0,none⟩) hH).trans hN) (aE ((hu.o.cell (p:=⟨wr.heap.size+1,0,none⟩) hb).trans d0) (aE ((hu.o.cell (p:=⟨wr.heap.size+1,1,none⟩) hb).trans d1) (aE ((hu.o.cell (p:=⟨wr.heap.size+1,2,none⟩) hb).trans d2) (aE ((hu.o.cell (p:=⟨wr.heap.size+1,3,none⟩) hb).trans d3) (aE ((hu.o.cell (p:=⟨wr.heap.size+1,4,none⟩) hb).trans d4) ((hu.o.cell (p:=⟨wr.heap.size+1,5,none⟩) hb).trans d5))))))
        have Hy:=am Hd;clear Hd;refine cn 5 rfl (fun K hK=> ?_);go_wp2_with fail
        (first | (refine⟨Hy.o, ?_⟩) | skip)
        refine cn 6 rfl (fun K hK=> ?_);have Yd:ys.length<4096:=by have h1:=h4.o; rw[<-Hc.o,aB]at h1; exact h1
        go_wp2_with (at_builtin; go_must (refine bO Tryz.appEnts rfl _ _ rfl base (.slice av ys.length cv2) ys.length (jl ys) rfl W6 [.string (pt), .int .i64 it.kind, .int .i64 it.mode, .int .i64 it.time, .slice none 0 0, .string it.link] _ rfl rfl (kQ (e:=⟨pt,it.kind,it.mode,it.time,[],it.link⟩)) hg.o (by omega) (by omega) ?_); intro v' wc hh ha _ Hg; obtain⟨ae,ce,rfl,-,-⟩:=aH hh)
        have hI:(Value.slice av ys.length cv2).ownBlock≠some eb:=fun e=>by
         obtain⟨cs,hc⟩:=bI hg.o e;exact absurd (bU hf.o hc) (by decide)
        have hw: ∀i,(Value.slice av ys.length cv2).ownBlock=some i->i<wr.heap.size:=fun i e=>by
         obtain⟨_,ys',_,HL,_⟩:=hA.o.box;exact(HL.lt _ e).2
        have hL:(Value.slice av ys.length cv2).ownBlock≠some (wr.heap.size+1):=fun e=>by have:=hw _ e; omega
        have hJ:(Value.slice av ys.length cv2).ownBlock≠some wr.heap.size:=fun e=>by have:=hw _ e; omega
        have hv:=(ha.block eb hH (fun e=>hI e.symm)).trans hf.o;have h0:=(ha.block (wr.heap.size+1) hb (fun e=>hL e.symm)).trans hT.o;have Hi:=(ha.block wr.heap.size (aw Hb.o) (fun e=>hJ e.symm)).trans Hb.o;have he:=lj.push (e:=⟨pt,it.kind,it.mode,it.time,[],it.link⟩) hf.o hg.o hF.o hQ.o hh ha Hg H3 hP.o;rw[Hc.o]at he
        have ho:=am (hR.o.step he.1 he.2);have hS:=am ((aC wc ⟨eb,0,none⟩ (.slice ae (ys.length+1) ce) wr.heap.size (by show wr.heap.size≠eb; have:=hA.o.lo; have:=hA.o.ord; omega)).trans Hi);have hU:=am ((aC wc ⟨eb,0,none⟩ (.slice ae (ys.length+1) ce) (wr.heap.size+1) (by show wr.heap.size+1≠eb; have:=hA.o.lo; have:=hA.o.ord; omega)).trans h0)
        have c0':=az (k:=0) hv;have f0':=dw (k:=0) hv;obtain⟨y0,y1,y2,y3,y4,y5,_⟩:=aU h0;simp only[ai,ah]at c0';clear hh ha Hg he hI hL hJ hw hN d0 d1 d2 d3 d4 d5 f1 hv h0 Hi;refine⟨⟨c0',y0,y1,y2,y3,y4,y5⟩, ?_⟩;refine cA rfl (by kernel_rfl) (fun _ _ _ h=>h) rfl ⟨c0',y0,y1,y2,y3,y4,y5⟩ (by rintro w' ⟨HP,HQ,HR,HS,HT,HU,HV⟩; go_simp; rfl) ?_
        simp only[Act.put,aa,ag,ab];refine cE (by kernel_rfl) ?_;refine eD rfl rfl (fun K hK=> ?_)
        go_upto_region 16 with(fail)
        obtain⟨W8,He⟩: ∃W8:World,W8=wc.setCell ⟨eb,0,none⟩ (.slice ae (ys.length+1) ce):=⟨_,rfl⟩;rw[<-He]at ho hS hU ⊢;clear He c0' f0' y0 y1 y2 y3 y4 y5;have HX:=hS;have HY:=hU;clear hS hU;obtain⟨c0,c1,_⟩:=aU HX.o;have c6:=az (k:=6) HX.o;have c7:=az (k:=7) HX.o;have c8:=az (k:=8) HX.o;have c9:=az (k:=9) HX.o;obtain⟨d0,d1,d2,d3,d4,d5,_⟩:=aU HY.o
        simp only[ai,aj,ah]at c6 c7 c8 c9
        by_cases Hq:it.kind=2
        ·have e2:(it.kind == 2)=true:=by simp[Hq]
         have Hr:=Yq.o (pt) it.node (acc2++[⟨pt,it.kind,it.mode,it.time,[],it.link⟩]) base eb _ W8 (by have h1:=ve dir it.name H0; rw[Hu.o]at h1; omega) (.inr h8.o) ho.o.box HO.o.nd (HI.o.keepL ho.o.kp.below hB) hB H3 (ay Ht ho.o.kp.below.size);have h7:=am (ux (cs:=cs) (rec:=jn cs n) (r:=l.drop (k+1)) Hu.o h8.o h4.o Hq);obtain⟨q,hq⟩: ∃q,q=jn cs n (pt) it.node (acc2++[⟨pt,it.kind,it.mode,it.time,[],it.link⟩]):=⟨_,rfl⟩
         rw[<-hq]at Hr h7;have H6:=am Hr;clear Hr hq Hq;go_wp2_with fail;refine H6.o.mono ?_;rintro e w9 ⟨rfl,v9,HG,HJ⟩;have Hm:=am (ho.o.step HG HJ);clear HG HJ c0 c1 c6 c7 c8 c9 d0 d1 d2 d3 d4 d5
         by_cases hx:q.1=0
         ·have e3:(q.1 != 0)=false:=by simp[hx]
          have H5:=am hx;clear hx;go_wp2_with fail
          go_roundw
          case rel=>exact⟨k+1,v9,q.2,by omega,by go_num,by rw[<-Hn.o,Hs.o,h7.o,if_pos H5.o],Hm.o⟩
          case measure=>simp[intOf]; omega
         ·have e3:(q.1 != 0)=true:=by simp[hx]
          have H5:=am hx;clear hx;go_wp2_with fail;go_ret;rw[<-Hn.o,Hs.o,h7.o,if_neg H5.o];exact⟨rfl,v9,Hm.o.box,Hm.o.kp⟩
        ·have e2:(it.kind == 2)=false:=by simp[Hq]
         have h7:=am (xJ (cs:=cs) (rec:=jn cs n) (r:=l.drop (k+1)) Hu.o h8.o h4.o Hq H2.o);clear Hq;go_wp2_with fail;clear c0 c1 c6 c7 c8 c9 d0 d1 d2 d3 d4 d5
         go_roundw
         case rel=>exact⟨k+1,_,_,by omega,by go_num,by rw[<-Hn.o,Hs.o,h7.o],ho.o⟩
         case measure=>simp[intOf]; omega
      ·have Ym: ¬(acc2.length:Int)<4096:=by omega
       have h4:=am hO;clear hO;go_wp2_with fail;go_ret;have h1:=Hn.o;rw[Hs.o,kH,if_neg (fun h=>h4.o h.2)]at h1;rw[<-h1];exact⟨rfl,v2,hC.o.box,hC.o.kp⟩
   ·have Hq:k=m:=by omega
    subst Hq;go_wp2_with fail;go_ret;have h1:=Hn.o;rw[HM.o,iT,kH]at h1;rw[<-h1];exact⟨rfl,v2,hA.o.box,hA.o.kp⟩
theorem CV (cs:List (ByteArray×List UInt8)) (cv:Value) (B:Nat): ∀n,Gb cs cv B n
 | 0=>Jq cs cv B
 | n+1=>Jp cs cv B n (CV cs cv B n)
def FZ (B:Nat) (w:World) (v:Value) (acc:List dl):Prop:= ∃ys:List pw,ys.map Prod.snd=acc/\w.ownsRow B 79 6 v ys.length (jl ys)/\ ∀y∈ys,w.ownsRow B 5 1 y.1 y.2.data.length (y.2.data.map aY)
def NC (cs:List (ByteArray×List UInt8)) (root:cy) (w:World) (e:Ending) (w':World):Prop:=Below w.heap.size w w'/\match uZ cs root with
 | .error x=>e= .returned (.tuple #[.slice none 0 0, .int .i64 x])/\x≠0
 | .ok l=> ∃v,e= .returned (.tuple #[v, .int .i64 0])/\FZ w.heap.size w' v l
theorem CZ (S:Nat->Prop) (cv:Value) (cs:List (ByteArray×List UInt8)) (root:cy) (w:World) (hc:fW S w cv cs) (henv:nY w) (hr:dY root):Calls Tryz.prog 25 #[ef root,cv] w (NC cs root w):=by
 have hh:=am ((au w.heap.size w).alloc (ak _) (.cells #[.string root.name, .int .i64 root.gen, .int .i64 root.size] 26));have hw:=am (dZ w (.cells #[.string root.name, .int .i64 root.gen, .int .i64 root.size] 26));have HI:=am (kE.start (hc.below hh.o) (henv.below hh.o));have HR:=am hr;unfold ef;clear hc henv hr
 cases hv:lm root
 ·have hl:=am hv;have HM:=am (show uZ cs root= .error 1 by unfold uZ; rw[if_neg (by rw[hv]; simp)]);clear hv
  go_enter Tryz.func25,Tryz.ntmps25
  go_wp2_with fail;refine(io root false _ HR.o hl.o).mono ?_;rintro e w1 ⟨rfl,ha⟩;have hb:=am (ar hh.o ha);clear ha;go_wp2_with fail
  go_ret2
  exact⟨hb.o,by rw[HM.o]; exact⟨rfl,by decide⟩⟩
 ·have hl:=am hv;obtain⟨q,hq⟩: ∃q,q=jn cs 514 ⟨#[]⟩ root []:=⟨_,rfl⟩;have HM:=am (show uZ cs root=if q.1=0 then .ok q.2 else .error q.1 by unfold uZ; rw[if_pos hv,hq]);have HQ:=am hq;clear hv hq
  go_enter Tryz.func25,Tryz.ntmps25
  go_wp2_with fail;refine(io root true _ HR.o hl.o).mono ?_;rintro e w1 ⟨rfl,ha⟩;have hb:=am (ar hh.o ha);have hk:=dX ha hw.o;have hz:=am hk;have hA:=aw hk;have hp:=kE.keepL (base:=w1.heap.size) (HI.o.keepL ha (ak _)) ((au w1.heap.size w1).alloc (ak _) (.cells #[.slice none 0 0] 46)) ha.size;have hm:=CV cs cv _ 514 ⟨#[]⟩ root [] w1.heap.size w1.heap.size (.slice none 0 0) (w1.alloc (.cells #[.slice none 0 0] 46)) (by simp) (.inl rfl)
   ⟨dZ w1 _,[],rfl,bM _ _ _ _,by simp⟩ HR.o hp ha.size (ak _) (by simp)
  rw[<-HQ.o]at hm;have ho:=am hm;unfold ef at ho;obtain⟨c0,c1,c2,_⟩:=aU hk;clear ha hk hm hp;go_wp2_with fail;refine ho.o.mono ?_;rintro e w2 ⟨rfl,v2,hd,hg⟩;obtain⟨ys,hs,he,hf⟩:=hd.2;obtain⟨a2,c2',rfl,-,-⟩:=aH he;have e0:=az (k:=0) hd.1;simp only[ai,ah]at e0;have hn:=am (show Below w.heap.size w w2 from(hb.o.alloc hb.o.size (.cells #[.slice none 0 0] 46)).trans (hg.below.mono hb.o.size))
  have hu:=am (show FZ w.heap.size w2 (.slice a2 ys.length c2') q.2 from⟨ys,hs,gA he hb.o.size,fun y hy=>gA (hf y hy) hb.o.size⟩);clear hd hg hs he hf c0 c1 c2
  by_cases hx:q.1=0
  ·have e1:(q.1 != 0)=false:=by simp[hx]
   have hj:=am hx;clear hx;go_wp2_with fail
   go_ret2
   exact⟨hn.o,by rw[HM.o,if_pos hj.o]; exact⟨_,rfl,hu.o⟩⟩
  ·have e1:(q.1 != 0)=true:=by simp[hx]
   have hj:=am hx;clear hx;go_wp2_with fail
   go_ret2
   exact⟨hn.o,by rw[HM.o,if_neg hj.o]; exact⟨rfl,hj.o⟩⟩
open Go Go.RowKit Go.Maps
structure rz (w : World) : Prop where
 env:nY w
 envh:AB w
 deb:BE w
theorem rz.keep {B:Nat} {w w':World} (h:rz w) (hb:Below B w w') (h7:7<=B):rz w':=
 ⟨h.env.belowB hb (by omega) (by omega) (by omega),⟨fun j x hj=>(hb.cell (p:=⟨2,j,none⟩) (show 2<B by omega)).trans (h.envh.init j x hj),fun j x hj=>(hb.cell (p:=⟨5,j,none⟩) (show 5<B by omega)).trans (h.envh.kons j x hj),⟨(hb.cell (p:=⟨0,0,none⟩) (show 0<B by omega)).trans h.envh.pads.1,(hb.cell (p:=⟨0,1,none⟩) (show 0<B by omega)).trans h.envh.pads.2⟩,
  aP h.envh.ilt hb.size,aP h.envh.klt hb.size,aP h.envh.plt hb.size⟩,h.deb.block (hb.block _ (show 6<B by omega)) hb.size⟩
theorem rz.seven {w:World} (h:rz w):7<=w.heap.size:=by
 have:=h.deb.lt;omega
theorem rz.below {w w':World} (h:rz w) (hb:Below w.heap.size w w'):rz w':=h.keep hb h.seven
theorem NK {a:Act} {w:World} {b:Nat} {x0 x1 x2 e5:Value} (h:w.heap[b]? =some (.cells #[x0,x1,x2] 26 (0,0)))
  (h4:a.tmps[4]? =some (.pointer (some ⟨b,0,none⟩))) (h5:a.tmps[5]? =some e5):(results Tryz.f123 a.tmps).run Tryz.prog w= .ok (.tuple #[.agg #[x0,x1,x2],e5]) w:=by
 obtain⟨m0,m1,m2,_⟩:=aU h;simp[results,Tryz.results123,go_sem,h4,h5,m0,m1,m2]
theorem vA {a:Act} {w:World} {b:Nat} {a0 a1 a2 x0 x1 x2 e5:Value} {Q:Ending->World->Prop} (h:w.heap[b]? =some (.cells #[a0,a1,a2] 26 (0,0)))
  (h4:a.tmps[4]? =some (.pointer (some ⟨b,0,none⟩))) (h5:a.tmps[5]? =some e5) (hd:a.defers=[])
  (hQ:Q (.returned (.tuple #[.agg #[x0,x1,x2],e5])) (((w.setCell ⟨b,0,none⟩ x0).setCell ⟨b,1,none⟩ x1).setCell ⟨b,2,none⟩ x2)):
  bodyPost Tryz.prog Tryz.f123 Q Exit.ret a (((w.setCell ⟨b,0,none⟩ x0).setCell ⟨b,1,none⟩ x1).setCell ⟨b,2,none⟩ x2):=cM (NK (vj h) h4 h5) hd hQ
theorem jh.ofGrown {base bb kb:Nat} {v:Value} {w w':World} (h:w.grownBy w' (some kb)) (hb:base<=w.heap.size) (hk:base<=kb):jh base bb kb v v w w':=
 ⟨(au base w).grown h hb (fun i e=>by cases e; exact hk),fun i h1 _ h3 _=>h.block i h1 (fun e=>h3 (bC e)),fun _ e=> .inl e⟩
theorem jh.setNew {base bb kb b j:Nat} {v v' u:Value} {w w':World} (h:jh base bb kb v v' w w') (hb:w.heap.size<=b) (hbz:base<=w.heap.size):jh base bb kb v v' w (w'.setCell ⟨b,j,none⟩ u):=
 ⟨cw h.below (show base<=b by omega) u,fun i h1 h2 h3 h4=>(aC _ _ _ _ (show i≠b by omega)).trans (h.same i h1 h2 h3 h4),h.place⟩
theorem kz.other {w w':World} {base bb im kb b:Nat} {k:dh} {c:fN} {gv v:Value} {bs:List cZ} {cs:Array Value} {t:TypeId} {z:Nat×Nat} (h:kz w base bb k c gv im kb v bs) (hb:w.heap[b]? =some (.cells cs t z)) (h1:t≠122) (h2:t≠53) (h3:t≠5) (hs: ∀i,i≠b->i<w.heap.size->w'.heap[i]? =w.heap[i]?):kz w' base bb k c gv im kb v bs:=by
 obtain⟨zs,hz,hr,hd⟩:=h.own;refine⟨(hs bb (fun e=> ?_) (aw h.box)).trans h.box,⟨zs,hz,eP hr (fun i hi hu=>hs i (fun e=> ?_) hi),fun y hy=>eP (hd y hy) (fun i hi hu=>hs i (fun e=> ?_) hi)⟩,h.known.same (hs kb (fun e=>h.known.cells (by rw[e]; exact hb)) h.known.map.lt)⟩
 ·subst e; exact h1 (bU hb h.box)
 ·subst e;obtain⟨cs2,ha⟩:=bI hr hu;exact h2 (bU hb ha)
 ·subst e;obtain⟨cs2,ha⟩:=bI (hd y hy) hu;exact h3 (bU hb ha)
theorem zY (gs:List (ByteArray×Int)) (hgs: ∀p∈gs,0<=p.2/\p.2<=1099511627776) (n:ByteArray):0<=mA gs n/\mA gs n<=1099511627776:=by
 unfold mA
 cases hf:gs.find? (fun p=>decide (p.1=n))with
 | none=>exact⟨by decide,by decide⟩
 | some p=>exact hgs p (dM hf)
theorem uL {S:Nat->Prop} {w:World} {v:Value} {bs:List UInt8} {kb:Nat} {l:List cy} (h:bH S w v bs) (hk:jC w kb l):bH (fun i=>i≠kb/\i<w.heap.size) w v bs:=by
 obtain⟨h1,a,cap,rfl,h2,h3,h4⟩:=h;refine⟨h1,a,cap,rfl,h2,h3, ?_⟩
 rcases h4 with h4 | ⟨b,o,rfl,hS,hc⟩
 ·exact .inl h4
 ·cases bs with
  | nil=>exact .inl rfl
  | cons y ys=>
   have q:=hc 0 (aY y) rfl;refine .inr ⟨b,o,rfl,⟨fun e=> ?_,cF q⟩,hc⟩;subst e;obtain⟨es,clock,hb,_⟩:=hk.map;simp[World.cell?,hb]at q
def Ee (base bb kb:Nat) (k:dh) (c:fN) (gs:List (ByteArray×Int)) (gv:Value) (im:Nat) (v:Value) (bs:List cZ) (x:List UInt8) (w:World) (e:Ending) (w':World):Prop:=
 e= .returned (.tuple #[ef (bA k gs x), .int .i64 0])/\ ∃v',kz w' base bb k c gv im kb v' (jK k gs bs x)/\jh base bb kb v v' w w'
theorem Gg (S:Nat->Prop) (base bb kb im:Nat) (k:dh) (c:fN) (gs:List (ByteArray×Int)) (gv v cv:Value) (bs:List cZ) (x:List UInt8) (w:World) (h:kz w base bb k c gv im kb v bs) (hk:jx k=true) (hg:kK (· <base) w gv gs) (hgs: ∀p∈gs,0<=p.2/\p.2<=1099511627776)
  (hx:bH S w cv x) (hl:x.length<=32768) (hE:rz w) (hbb:base<=bb) (hkb:base<=kb) (hbz:base<=w.heap.size) (_h7:7<=base) (hn:bs.length<1000000000000):
  Calls Tryz.prog 123 #[.pointer (some ⟨bb,0,none⟩),cv] w (Ee base bb kb k c gs gv im v bs x w):=by
 obtain⟨_,a,cap,rfl,H2,Yi,-⟩:=id hx;have HX:=am hx;obtain⟨xl,ya⟩: ∃xl,xl=x.length:=⟨_,rfl⟩;rw[<-ya]at hl H2 ⊢;have hG:=am ya;obtain⟨W0,Hj⟩: ∃W0,W0=(w.alloc (.cells #[.string ⟨#[]⟩, .int .i64 0, .int .i64 0] 26)).alloc (.cells #[.string ⟨#[]⟩, .int .i64 0, .int .i64 (xl:Int)] 26):=⟨_,rfl⟩;have HB:Below w.heap.size w W0:=by rw[Hj]; exact(eK).alloc (by simp) _
 have yb:=am HB;have Ye:=am (show W0.heap[w.heap.size]? =some (.cells #[.string ⟨#[]⟩, .int .i64 0, .int .i64 0] 26 (0,0)) by rw[Hj]; exact lW (dZ w _) _);have HO:=am (show W0.heap[w.heap.size+1]? =some (.cells #[.string ⟨#[]⟩, .int .i64 0, .int .i64 (xl:Int)] 26 (0,0)) by rw[Hj]; exact pJ w _ _);have Ya:=am (h.below HB);have HH:=am h;have HK:=am hk;have HG:=am hg
 have Yc:=am hgs;have HE:=am (hE.below HB);have yl:=am hE;have y6:bb<w.heap.size:=aw h.box;have hs:=am Ya.o.box;have k0:=az (k:=0) hs.o;have k1:=az (k:=1) hs.o;have k2:=az (k:=2) hs.o;have k3:=az (k:=3) hs.o;have k4:=az (k:=4) hs.o;have k10:=az (k:=10) hs.o;have k12:=az (k:=12) hs.o;have k13:=az (k:=13) hs.o
 simp only[mV,eC,fU,aK,aJ,ai,aj,ah]at k0 k1 k2 k3 k4 k10 k12 k13;clear h hk hg hgs hx hE HB ya Yi
 go_enter Tryz.func123,Tryz.ntmps123
 go_upto_region 3 with(fail)
 rw[<-Hj];clear Hj;have Yg:bH S W0 (.slice a xl cap) x:=by have h1:=HX.o; rw[<-hG.o]at h1; exact cC.below h1 (by omega) yb.o
 have hZ:=tE S k 0 x (.slice a xl cap) W0 HK.o (by omega) Yg (by rw[<-hG.o]; exact hl) HE.o.envh;unfold kq at hZ;have Yd:=am hZ;have f0:=az (k:=0) HO.o;have fz0:=dw (k:=0) HO.o;simp only[ai,ah]at f0;clear hZ;go_wp2_with fail;refine Yd.o.mono ?_;rintro e w1 ⟨rfl,HC⟩;obtain⟨n0,HJ⟩: ∃n0,n0=lS k 0 x:=⟨_,rfl⟩
 rw[<-HJ];have Ym:n0.size=32:=by rw[HJ]; exact kr _ _ _
 have HF:=dX HC HO.o;have y7:=dX HC Ye.o;have f0':=az (k:=0) HF;have fz0':=dw (k:=0) HF;simp only[ai,ah]at f0';have HS:=am HJ;clear HJ k0 k1 k2 k3 k4 k10 k12 k13 f0 fz0;go_wp2_with fail;obtain⟨W2,Hk⟩: ∃W2:World,W2=(w1.setCell ⟨w.heap.size+1,0,none⟩ (.string n0)).drew:=⟨_,rfl⟩;have Hn:Below w.heap.size w W2:=by rw[Hk]; exact(cw (ar yb.o HC) (show w.heap.size<=w.heap.size+1 by omega) _).drew
 have yc:=am Hn;have H3:=jb (k:=0) HF (.string n0);simp only[aa,ab]at H3;have Hd:=am (show W2.heap[w.heap.size+1]? =some (.cells #[.string n0, .int .i64 0, .int .i64 (xl:Int)] 26 (0,0)) by rw[Hk]; exact H3);have yp:=am (show W2.heap[w.heap.size]? =some (.cells #[.string ⟨#[]⟩, .int .i64 0, .int .i64 0] 26 (0,0)) by rw[Hk]; exact(aC _ _ _ _ (by show w.heap.size≠w.heap.size+1; omega)).trans y7)
 have HM:=am (HH.o.below Hn);have hu:=am HM.o.box;have Yk:=Cx (HG.o.keep (w':=W2) (fun i h1 h2=>Hn.block i h2)) (n:=n0) (by rw[Ym]; unfold maxLen; omega);have Yo:=am (yl.o.below Hn);obtain⟨g,hg⟩: ∃g,g=mA gs n0:=⟨_,rfl⟩;have y5:=zY gs Yc.o n0;rw[<-hg]at Yk y5;have yn:=am hg;have k0:=az (k:=0) hu.o;have k1:=az (k:=1) hu.o
 have k2:=az (k:=2) hu.o;have k3:=az (k:=3) hu.o;have k4:=az (k:=4) hu.o;have k10:=az (k:=10) hu.o;have k12:=az (k:=12) hu.o;have k13:=az (k:=13) hu.o;simp only[mV,eC,fU,aK,aJ,ai,aj,ah]at k0 k1 k2 k3 k4 k10 k12 k13;have f0:=az (k:=0) Hd.o
 simp only[ai,ah]at f0;clear HF y7 f0' fz0' Hn H3 hg HC;refine bF [some 8] (by kernel_rfl) (by kernel_rfl) (by kernel_rfl) ?_;simp only[dJ,aR,aX];rw[<-Hk];clear Hk
 repeat (first | (refine bZ rfl ?_; simp only[Act.put,aa,ag,ab]) | (refine cK rfl (fun K hK=> ?_); go_simp; refine hK _ ?_; clear hK K))
 refine cJ ?_;obtain⟨r,hr⟩: ∃r,r=bA k gs x:=⟨_,rfl⟩;have hY:=am hr;have H8:r.size=(xl:Int):=by rw[hr,hG.o]; rfl
 have H6:r.gen=g:=by rw[hr,yn.o,HS.o]; rfl
 have H7:r.name=lS k g.toNat x:=by rw[hr,yn.o,HS.o]; rfl
 have HA:=am (show dY r from⟨by rw[H7,kr]; unfold maxLen; omega,by rw[H6]; exact WalkArith.wf_i64 ⟨by omega,by omega⟩,by rw[H8]; exact WalkArith.wf_i64 ⟨by omega,by omega⟩⟩);have y3:=am H7;have yv:=am H6;have y4:=am H8;clear hr H7 H6 H8 k0 k1 k2 k3 k4 k10 k12 k13
 by_cases Yj:g=0
 ·go_wp2_with fail;have HP:=am (show W2.heap[w.heap.size+1]? =some (.cells #[.string r.name, .int .i64 r.gen, .int .i64 r.size] 26 (0,0)) by rw[y3.o,yv.o,y4.o,Yj,Int.toNat_zero,<-HS.o]; exact Hd.o);have HL:=yc;have HW:=yp;clear f0;obtain⟨W6,hI⟩: ∃W6:World,W6=(W2).drew:=⟨_,rfl⟩;have hJ:Below (W2).heap.size (W2) W6:=by rw[hI]; exact(au _ _).drew
  have hA:=am (ar HL.o hJ);have He:=am (dX hJ HP.o);have hF:=am (dX hJ HW.o);have he:=am (HH.o.below hA.o);have hc:=am he.o.box;have k0:=az (k:=0) hc.o;have k1:=az (k:=1) hc.o;have k2:=az (k:=2) hc.o;have k3:=az (k:=3) hc.o;have k4:=az (k:=4) hc.o;have k10:=az (k:=10) hc.o;have k12:=az (k:=12) hc.o
  have k13:=az (k:=13) hc.o;simp only[mV,eC,fU,aK,aJ,ai,aj,ah]at k0 k1 k2 k3 k4 k10 k12 k13;obtain⟨f0,f1,f2,_⟩:=aU He.o;have hV:=he.o.known.look HA.o;unfold ef at hV
  by_cases hy:r∈bs.map cZ.ref
  ·have e1:decide (r∈bs.map cZ.ref)=true:=by simp[hy]
   rw[e1]at hV;have h7:=am (show jK k gs bs x=bs by unfold jK; rw[<-hY.o,if_pos hy]);clear hJ hy e1;refine bF [some 7] (by kernel_rfl) (by kernel_rfl) (by kernel_rfl) ?_;simp only[dJ,aR,aX];rw[<-hI];clear hI
   repeat (first | (refine bZ rfl ?_; simp only[Act.put,aa,ag,ab]) | (refine cK rfl (fun K hK=> ?_); go_simp; refine hK _ ?_; clear hK K))
   refine cJ ?_;obtain⟨z0,z1,z2,_⟩:=aU hF.o;obtain⟨y0,y1,y2,_⟩:=gG hF.o;go_wp2_with fail;refine vA hF.o rfl rfl rfl ?_;refine⟨by rw[<-hY.o]; rfl,v, ?_, ?_⟩
   ·rw[h7.o];exact he.o.other hF.o (by decide) (by decide) (by decide) (fun i hi _=>ed hi)
   ·exact((((jh.ofBelow hA.o hbz).setNew (ak _) hbz).setNew (ak _) hbz).setNew (ak _) hbz)
  ·have e1:decide (r∈bs.map cZ.ref)=false:=by simp[hy]
   rw[e1]at hV;have h7:=am (show jK k gs bs x=bs++[⟨r,x⟩] by unfold jK; rw[<-hY.o,if_neg hy]);have HT:=am hy;clear hJ hy e1;refine bF [some 7] (by kernel_rfl) (by kernel_rfl) (by kernel_rfl) ?_;simp only[dJ,aR,aX];rw[<-hI];clear hI
   repeat (first | (refine bZ rfl ?_; simp only[Act.put,aa,ag,ab]) | (refine cK rfl (fun K hK=> ?_); go_simp; refine hK _ ?_; clear hK K))
   refine cJ ?_;go_wp2_with fail;refine bF [some 5,none] (by kernel_rfl) (by kernel_rfl) (by kernel_rfl) ?_;simp only[dJ,aR,aX,bz,bQ]
   repeat (first | (refine bZ rfl ?_; simp only[Act.put,aa,ag,ab]) | (refine cK rfl (fun K hK=> ?_); go_simp; refine hK _ ?_; clear hK K))
   refine cJ ?_;refine ee rfl (fun K hK=> ?_);have HR:=am (he.o.known.same (w':=W6.drew) rfl);go_wp2_with (at_mapUpdate; go_must (refine ld rfl _ _ _ rfl kb (bs.map cZ.ref) HR.o rfl r HA.o rfl rfl HT.o ?_); intro w7 hP Hq);obtain⟨W8,hT⟩: ∃W8:World,W8=w7.drew:=⟨_,rfl⟩;have hp:W6.grownBy W8 (some kb):=by rw[hT]; exact bV (b:=W6.drew) ⟨rfl,rfl,rfl,ak _,fun _ _ _=>rfl⟩ (bV Hq ⟨rfl,rfl,rfl,ak _,fun _ _ _=>rfl⟩)
   have h9:=am (show jC W8 kb ((bs++[(⟨r,x⟩:cZ)]).map cZ.ref) by rw[hT,aN]; exact hP.same rfl);have Yl:kb<w.heap.size:=HH.o.known.map.lt;have Hc:bb≠kb:=fun e=>he.o.known.cells (e▸hc.o)
   have hL:=lQ hp hc.o Hc;have hd:=am hL;have Hp:=lQ hp He.o (by omega);have Hs:=lQ hp hF.o (by omega);have Hf:=am Hp;have HY:=am Hs;obtain⟨zs,Hz,hB⟩:=he.o.own;have Hh:=am Hz;have hC:=am (show ii W8 base v zs from⟨hB.row.kept hp (.inr (fun e=>by obtain⟨cs2,hN⟩:=bI hB.row e; exact he.o.known.cells hN)),fun z hz=>(hB.dat z hz).kept hp (.inr (fun e=>by obtain⟨cs2,hN⟩:=bI (hB.dat z hz) e; exact he.o.known.cells hN))⟩)
   obtain⟨av,cv8,H9,-,-⟩:=aH hB.row;subst H9;have h0:=am ((jh.ofBelow hA.o hbz).trans (jh.ofGrown (bb:=bb) (v:= .slice av zs.length cv8) hp (ay hbz hA.o.size) hkb));have Ha:=am (ay hA.o.size hp.size);have H0:=am (show cC (fun _=>True) W8 1 (.slice a xl cap) xl (x.map aY)from by
    have h1:=HX.o;rw[<-hG.o]at h1;have h2:bH S W6 (.slice a xl cap) x:=cC.below h1 (by omega) hA.o;have h3:=cC.same (w':=W8) (uL h2 he.o.known) (fun i hi=>hp.block i hi.2 (fun e=>hi.1 (bC e)));have h4:=cC.weak (T:=fun _=>True) h3 (fun _ _=>trivial);rw[<-hG.o]at h4;exact h4)
   clear hP Hq hp hL Hp Hs Hz hB f0 f1 f2 k0 k1 k2 k3 k4 k10 k12 k13 hV;obtain⟨f0,f1,f2,_⟩:=aU Hf.o;have k0:=az (k:=0) hd.o;have k1:=az (k:=1) hd.o;have k2:=az (k:=2) hd.o;have k3:=az (k:=3) hd.o;have k4:=az (k:=4) hd.o;have k10:=az (k:=10) hd.o;have k12:=az (k:=12) hd.o;have k13:=az (k:=13) hd.o;simp only[mV,eC,fU,aK,aJ,ai,aj,ah]at k0 k1 k2 k3 k4 k10 k12 k13
   refine ey (fun w'=>w'.cell? ⟨bb,12,none⟩=some (.slice av zs.length cv8)/\w'.cell? ⟨w.heap.size+1,0,none⟩=some (.string r.name)/\w'.cell? ⟨w.heap.size+1,1,none⟩=some (.int .i64 r.gen)/\w'.cell? ⟨w.heap.size+1,2,none⟩=some (.int .i64 r.size)) (by kernel_rfl) (by kernel_rfl) ?_;simp only[br,bt,aD,bo,Nat.reduceAdd,Nat.reduceSub]
   rw[<-hT];clear hT
   iterate 7 (refine cA rfl (by kernel_rfl) (fun _ _ _ h=>h) rfl ⟨k12,f0,f1,f2⟩ (by rintro w' ⟨Hu,Hv,Hw,Hx⟩; go_simp; rfl) ?_; simp only[Act.put,aa,ag,ab])
   refine cn 7 rfl (fun K hK=> ?_);have Hy:0+xl<1099511627775:=by omega
   go_wp2_with (at_builtin; go_must (refine eh Tryz.appBytes rfl _ _ rfl W8.heap.size (.slice none 0 0) 0 [] rfl (bM _ _ _ _) (.slice a xl cap) xl (x.map aY) rfl H0.o (fj x) Hy (ak _) ?_); intro v9 w9 hh hm; rw[bS,aJ]at hh; obtain⟨a9,c9,rfl,-,-⟩:=aH hh);have hU:Below W8.heap.size W8 w9:=js hm
   have hR:=am hU;have HV:=am (show w9.ownsRow base 5 1 (.slice a9 xl c9) x.length (x.map aY) by rw[<-hG.o]; exact gA hh (ay hbz Ha.o));have ha:=am (dX hU hd.o);have hS:=am (dX hU Hf.o);clear hh hm hU Hy k0 k1 k2 k3 k4 k10 k12 k13 f0 f1 f2;obtain⟨f0,f1,f2,_⟩:=aU hS.o;have k0:=az (k:=0) ha.o;have k1:=az (k:=1) ha.o
   have k2:=az (k:=2) ha.o;have k3:=az (k:=3) ha.o;have k4:=az (k:=4) ha.o;have k10:=az (k:=10) ha.o;have k12:=az (k:=12) ha.o;have k13:=az (k:=13) ha.o;simp only[mV,eC,fU,aK,aJ,ai,aj,ah]at k0 k1 k2 k3 k4 k10 k12 k13;refine⟨⟨k12,f0,f1,f2⟩, ?_⟩
   refine cA rfl (by kernel_rfl) (fun _ _ _ h=>h) rfl ⟨k12,f0,f1,f2⟩ (by rintro w' ⟨Hu,Hv,Hw,Hx⟩; go_simp; rfl) ?_;simp only[Act.put,aa,ag,ab];have hO:bb<w9.heap.size:=aw ha.o;have hq:w.heap.size+1<w9.heap.size:=aw hS.o;have hQ:=am ((au w9.heap.size w9).alloc (ak _) (.cells #[.string r.name, .int .i64 r.gen, .int .i64 r.size, .slice a9 xl c9] 53))
   have HZ:=am (aE ((hQ.o.cell (p:=⟨bb,12,none⟩) hO).trans k12) (aE ((hQ.o.cell (p:=⟨w.heap.size+1,0,none⟩) hq).trans f0) (aE ((hQ.o.cell (p:=⟨w.heap.size+1,1,none⟩) hq).trans f1) ((hQ.o.cell (p:=⟨w.heap.size+1,2,none⟩) hq).trans f2))));refine cn 9 rfl (fun K hK=> ?_);go_wp2_with fail
   (first | (refine⟨HZ.o, ?_⟩) | skip)
   refine cn 10 rfl (fun K hK=> ?_);have Yn:zs.length<1000000000000:=by have h1:=hn; rw[<-Hh.o,aB]at h1; exact h1
   have Hg:=am (hC.o.below hR.o);go_wp2_with (at_builtin; go_must (refine bO Tryz.appBlobs rfl _ _ rfl base (.slice av zs.length cv8) zs.length (jY zs) rfl w9 [.string r.name, .int .i64 r.gen, .int .i64 r.size, .slice a9 xl c9] _ rfl rfl (tR (b:=⟨r,x⟩)) Hg.o.row (by omega) (by have:=Ha.o; have:=hR.o.size; omega) ?_); intro v' wc ho hb _ Hr; obtain⟨ae,ce,rfl,-,-⟩:=aH ho)
   have hW: ∀i cs t z,w9.heap[i]? =some (.cells cs t z)->t≠53->(Value.slice av zs.length cv8).ownBlock≠some i:=fun i cs t z hi ht e=>by
    obtain⟨cs2,hN⟩:=bI Hg.o.row e;exact ht (bU hi hN)
   have hX:=dX hR.o HY.o;have hM:=(hb.block bb hO (fun e=>hW _ _ _ _ ha.o (by decide) e.symm)).trans ha.o;have Hb:=(hb.block (w.heap.size+1) hq (fun e=>hW _ _ _ _ hS.o (by decide) e.symm)).trans hS.o;have Ht:=(hb.block w.heap.size (aw hX) (fun e=>hW _ _ _ _ hX (by decide) e.symm)).trans hX;have hf:=am hM;have HQ:=am Hb;have hw:=kz.push (b:=⟨r,x⟩) Hh.o hC.o hd.o h9.o hR.o HV.o ho hb Hr hbb (ay hbz Ha.o)
   have h8:=am hw;have H1:=y6;have hD:=am ((aC wc ⟨bb,12,none⟩ (.slice ae (zs.length+1) ce) (w.heap.size+1) (by show w.heap.size+1≠bb; omega)).trans Hb);have hj:=am ((aC wc ⟨bb,12,none⟩ (.slice ae (zs.length+1) ce) w.heap.size (by show w.heap.size≠bb; omega)).trans Ht);clear ho hb Hr hw hW hX hM Hb Ht k0 k1 k2 k3 k4 k10 k12 k13 f0 f1 f2
   obtain⟨f0,f1,f2,_⟩:=aU HQ.o;have k0:=az (k:=0) hf.o;have k1:=az (k:=1) hf.o;have k2:=az (k:=2) hf.o;have k3:=az (k:=3) hf.o;have k4:=az (k:=4) hf.o;have k10:=az (k:=10) hf.o;have k12:=az (k:=12) hf.o;have k13:=az (k:=13) hf.o;simp only[mV,eC,fU,aK,aJ,ai,aj,ah]at k0 k1 k2 k3 k4 k10 k12 k13
   have kz12:=dw (k:=12) hf.o;refine⟨⟨k12,f0,f1,f2⟩, ?_⟩
   iterate 2 (refine cA rfl (by kernel_rfl) (fun _ _ _ h=>h) rfl ⟨k12,f0,f1,f2⟩ (by rintro w' ⟨Hu,Hv,Hw,Hx⟩; go_simp; rfl) ?_; simp only[Act.put,aa,ag,ab])
   refine cE (by kernel_rfl) ?_;refine eD rfl rfl (fun K hK=> ?_)
   go_upto_region 13 with(fail)
   obtain⟨Hi,hH⟩: ∃Hi:World,Hi=wc.setCell ⟨bb,12,none⟩ (.slice ae (zs.length+1) ce):=⟨_,rfl⟩;rw[<-hH]at h8 hD hj ⊢;clear hH k0 k1 k2 k3 k4 k10 k12 k13 f0 f1 f2 kz12;obtain⟨f0,f1,f2,_⟩:=aU hD.o;obtain⟨z0,z1,z2,_⟩:=aU hj.o;obtain⟨y0,y1,y2,_⟩:=gG hj.o;go_wp2_with fail;refine vA hj.o rfl rfl rfl ?_;refine⟨by rw[<-hY.o]; rfl, .slice ae (zs.length+1) ce,And.symm ⟨?_, ?_⟩⟩
   ·exact(((h0.o.trans h8.o.2).setNew (ak _) hbz).setNew (ak _) hbz).setNew (ak _) hbz
   ·rw[h7.o];exact h8.o.1.other hj.o (by decide) (by decide) (by decide) (fun i hi _=>ed hi)
 ·have f1:=az (k:=1) Hd.o;have fz1:=dw (k:=1) Hd.o;simp only[ai,aj,ah]at f1
  go_upto_region 7 with(fail)
  obtain⟨W3,Hl⟩: ∃W3:World,W3=W2.setCell ⟨w.heap.size+1,1,none⟩ (.int .i64 g):=⟨_,rfl⟩;rw[<-Hl];have Ho:Below w.heap.size w W3:=by rw[Hl]; exact cw yc.o (show w.heap.size<=w.heap.size+1 by omega) _
  have y9:=am Ho;have H4:=jb (k:=1) Hd.o (.int .i64 g);simp only[aa,ag,ab]at H4;have Yb:=am (show W3.heap[w.heap.size+1]? =some (.cells #[.string n0, .int .i64 g, .int .i64 (xl:Int)] 26 (0,0)) by rw[Hl]; exact H4);have Yf:=am (show W3.heap[w.heap.size]? =some (.cells #[.string ⟨#[]⟩, .int .i64 0, .int .i64 0] 26 (0,0)) by rw[Hl]; exact(aC _ _ _ _ (by show w.heap.size≠w.heap.size+1; omega)).trans yp.o)
  have HN:=am (HH.o.below Ho);have hv:=am HN.o.box;have Yh:bH S W3 (.slice a xl cap) x:=by have h1:=HX.o; rw[<-hG.o]at h1; exact cC.below h1 (by omega) Ho
  have hZ:=tE S k g.toNat x (.slice a xl cap) W3 HK.o (by omega) Yh (by rw[<-hG.o]; exact hl) (yl.o.below Ho).envh;rw[Int.toNat_of_nonneg y5.1,<-y3.o]at hZ;unfold kq at hZ;have HU:=am hZ;have k0:=az (k:=0) hv.o;have k1:=az (k:=1) hv.o;have k2:=az (k:=2) hv.o;have k3:=az (k:=3) hv.o;have k4:=az (k:=4) hv.o;have k10:=az (k:=10) hv.o
  have k12:=az (k:=12) hv.o;have k13:=az (k:=13) hv.o;simp only[mV,eC,fU,aK,aJ,ai,aj,ah]at k0 k1 k2 k3 k4 k10 k12 k13;clear Hl Ho H4 hZ f0 f1 fz1;go_wp2_with fail;refine HU.o.mono ?_;rintro e w4 ⟨rfl,HD⟩;have HI:=dX HD Yb.o;have y8:=dX HD Yf.o;have f0:=az (k:=0) HI
  have fz0:=dw (k:=0) HI;simp only[ai,ah]at f0;clear k0 k1 k2 k3 k4 k10 k12 k13;go_wp2_with fail;obtain⟨W5,Hm⟩: ∃W5:World,W5=w4.setCell ⟨w.heap.size+1,0,none⟩ (.string r.name):=⟨_,rfl⟩;rw[<-Hm];have HL:=am (show Below w.heap.size w W5 by rw[Hm]; exact cw (ar y9.o HD) (show w.heap.size<=w.heap.size+1 by omega) _)
  have H5:=jb (k:=0) HI (.string r.name);simp only[aa,ab]at H5;have HP:=am (show W5.heap[w.heap.size+1]? =some (.cells #[.string r.name, .int .i64 r.gen, .int .i64 r.size] 26 (0,0)) by rw[Hm,yv.o,y4.o]; exact H5);have HW:=am (show W5.heap[w.heap.size]? =some (.cells #[.string ⟨#[]⟩, .int .i64 0, .int .i64 0] 26 (0,0)) by rw[Hm]; exact(aC _ _ _ _ (by show w.heap.size≠w.heap.size+1; omega)).trans y8)
  clear Hm HI y8 f0 fz0 HD H5;obtain⟨W6,hI⟩: ∃W6:World,W6=(W5).drew:=⟨_,rfl⟩;have hJ:Below (W5).heap.size (W5) W6:=by rw[hI]; exact(au _ _).drew
  have hA:=am (ar HL.o hJ);have He:=am (dX hJ HP.o);have hF:=am (dX hJ HW.o);have he:=am (HH.o.below hA.o);have hc:=am he.o.box;have k0:=az (k:=0) hc.o;have k1:=az (k:=1) hc.o;have k2:=az (k:=2) hc.o;have k3:=az (k:=3) hc.o;have k4:=az (k:=4) hc.o;have k10:=az (k:=10) hc.o;have k12:=az (k:=12) hc.o
  have k13:=az (k:=13) hc.o;simp only[mV,eC,fU,aK,aJ,ai,aj,ah]at k0 k1 k2 k3 k4 k10 k12 k13;obtain⟨f0,f1,f2,_⟩:=aU He.o;have hV:=he.o.known.look HA.o;unfold ef at hV
  by_cases hy:r∈bs.map cZ.ref
  ·have e1:decide (r∈bs.map cZ.ref)=true:=by simp[hy]
   rw[e1]at hV;have h7:=am (show jK k gs bs x=bs by unfold jK; rw[<-hY.o,if_pos hy]);clear hJ hy e1;refine bF [some 7] (by kernel_rfl) (by kernel_rfl) (by kernel_rfl) ?_;simp only[dJ,aR,aX];rw[<-hI];clear hI
   repeat (first | (refine bZ rfl ?_; simp only[Act.put,aa,ag,ab]) | (refine cK rfl (fun K hK=> ?_); go_simp; refine hK _ ?_; clear hK K))
   refine cJ ?_;obtain⟨z0,z1,z2,_⟩:=aU hF.o;obtain⟨y0,y1,y2,_⟩:=gG hF.o;go_wp2_with fail;refine vA hF.o rfl rfl rfl ?_;refine⟨by rw[<-hY.o]; rfl,v, ?_, ?_⟩
   ·rw[h7.o];exact he.o.other hF.o (by decide) (by decide) (by decide) (fun i hi _=>ed hi)
   ·exact((((jh.ofBelow hA.o hbz).setNew (ak _) hbz).setNew (ak _) hbz).setNew (ak _) hbz)
  ·have e1:decide (r∈bs.map cZ.ref)=false:=by simp[hy]
   rw[e1]at hV;have h7:=am (show jK k gs bs x=bs++[⟨r,x⟩] by unfold jK; rw[<-hY.o,if_neg hy]);have HT:=am hy;clear hJ hy e1;refine bF [some 7] (by kernel_rfl) (by kernel_rfl) (by kernel_rfl) ?_;simp only[dJ,aR,aX];rw[<-hI];clear hI
   repeat (first | (refine bZ rfl ?_; simp only[Act.put,aa,ag,ab]) | (refine cK rfl (fun K hK=> ?_); go_simp; refine hK _ ?_; clear hK K))
   refine cJ ?_;go_wp2_with fail;refine bF [some 5,none] (by kernel_rfl) (by kernel_rfl) (by kernel_rfl) ?_;simp only[dJ,aR,aX,bz,bQ]
   repeat (first | (refine bZ rfl ?_; simp only[Act.put,aa,ag,ab]) | (refine cK rfl (fun K hK=> ?_); go_simp; refine hK _ ?_; clear hK K))
   refine cJ ?_;refine ee rfl (fun K hK=> ?_);have HR:=am (he.o.known.same (w':=W6.drew) rfl);go_wp2_with (at_mapUpdate; go_must (refine ld rfl _ _ _ rfl kb (bs.map cZ.ref) HR.o rfl r HA.o rfl rfl HT.o ?_); intro w7 hP Hq);obtain⟨W8,hT⟩: ∃W8:World,W8=w7.drew:=⟨_,rfl⟩;have hp:W6.grownBy W8 (some kb):=by rw[hT]; exact bV (b:=W6.drew) ⟨rfl,rfl,rfl,ak _,fun _ _ _=>rfl⟩ (bV Hq ⟨rfl,rfl,rfl,ak _,fun _ _ _=>rfl⟩)
   have h9:=am (show jC W8 kb ((bs++[(⟨r,x⟩:cZ)]).map cZ.ref) by rw[hT,aN]; exact hP.same rfl);have Yl:kb<w.heap.size:=HH.o.known.map.lt;have Hc:bb≠kb:=fun e=>he.o.known.cells (e▸hc.o)
   have hL:=lQ hp hc.o Hc;have hd:=am hL;have Hp:=lQ hp He.o (by omega);have Hs:=lQ hp hF.o (by omega);have Hf:=am Hp;have HY:=am Hs;obtain⟨zs,Hz,hB⟩:=he.o.own;have Hh:=am Hz;have hC:=am (show ii W8 base v zs from⟨hB.row.kept hp (.inr (fun e=>by obtain⟨cs2,hN⟩:=bI hB.row e; exact he.o.known.cells hN)),fun z hz=>(hB.dat z hz).kept hp (.inr (fun e=>by obtain⟨cs2,hN⟩:=bI (hB.dat z hz) e; exact he.o.known.cells hN))⟩)
   obtain⟨av,cv8,H9,-,-⟩:=aH hB.row;subst H9;have h0:=am ((jh.ofBelow hA.o hbz).trans (jh.ofGrown (bb:=bb) (v:= .slice av zs.length cv8) hp (ay hbz hA.o.size) hkb));have Ha:=am (ay hA.o.size hp.size);have H0:=am (show cC (fun _=>True) W8 1 (.slice a xl cap) xl (x.map aY)from by
    have h1:=HX.o;rw[<-hG.o]at h1;have h2:bH S W6 (.slice a xl cap) x:=cC.below h1 (by omega) hA.o;have h3:=cC.same (w':=W8) (uL h2 he.o.known) (fun i hi=>hp.block i hi.2 (fun e=>hi.1 (bC e)));have h4:=cC.weak (T:=fun _=>True) h3 (fun _ _=>trivial);rw[<-hG.o]at h4;exact h4)
   clear hP Hq hp hL Hp Hs Hz hB f0 f1 f2 k0 k1 k2 k3 k4 k10 k12 k13 hV;obtain⟨f0,f1,f2,_⟩:=aU Hf.o;have k0:=az (k:=0) hd.o;have k1:=az (k:=1) hd.o;have k2:=az (k:=2) hd.o;have k3:=az (k:=3) hd.o;have k4:=az (k:=4) hd.o;have k10:=az (k:=10) hd.o;have k12:=az (k:=12) hd.o;have k13:=az (k:=13) hd.o;simp only[mV,eC,fU,aK,aJ,ai,aj,ah]at k0 k1 k2 k3 k4 k10 k12 k13
   refine ey (fun w'=>w'.cell? ⟨bb,12,none⟩=some (.slice av zs.length cv8)/\w'.cell? ⟨w.heap.size+1,0,none⟩=some (.string r.name)/\w'.cell? ⟨w.heap.size+1,1,none⟩=some (.int .i64 r.gen)/\w'.cell? ⟨w.heap.size+1,2,none⟩=some (.int .i64 r.size)) (by kernel_rfl) (by kernel_rfl) ?_;simp only[br,bt,aD,bo,Nat.reduceAdd,Nat.reduceSub]
   rw[<-hT];clear hT
   iterate 7 (refine cA rfl (by kernel_rfl) (fun _ _ _ h=>h) rfl ⟨k12,f0,f1,f2⟩ (by rintro w' ⟨Hu,Hv,Hw,Hx⟩; go_simp; rfl) ?_; simp only[Act.put,aa,ag,ab])
   refine cn 7 rfl (fun K hK=> ?_);have Hy:0+xl<1099511627775:=by omega
   go_wp2_with (at_builtin; go_must (refine eh Tryz.appBytes rfl _ _ rfl W8.heap.size (.slice none 0 0) 0 [] rfl (bM _ _ _ _) (.slice a xl cap) xl (x.map aY) rfl H0.o (fj x) Hy (ak _) ?_); intro v9 w9 hh hm; rw[bS,aJ]at hh; obtain⟨a9,c9,rfl,-,-⟩:=aH hh);have hU:Below W8.heap.size W8 w9:=js hm
   have hR:=am hU;have HV:=am (show w9.ownsRow base 5 1 (.slice a9 xl c9) x.length (x.map aY) by rw[<-hG.o]; exact gA hh (ay hbz Ha.o));have ha:=am (dX hU hd.o);have hS:=am (dX hU Hf.o);clear hh hm hU Hy k0 k1 k2 k3 k4 k10 k12 k13 f0 f1 f2;obtain⟨f0,f1,f2,_⟩:=aU hS.o;have k0:=az (k:=0) ha.o;have k1:=az (k:=1) ha.o
   have k2:=az (k:=2) ha.o;have k3:=az (k:=3) ha.o;have k4:=az (k:=4) ha.o;have k10:=az (k:=10) ha.o;have k12:=az (k:=12) ha.o;have k13:=az (k:=13) ha.o;simp only[mV,eC,fU,aK,aJ,ai,aj,ah]at k0 k1 k2 k3 k4 k10 k12 k13;refine⟨⟨k12,f0,f1,f2⟩, ?_⟩
   refine cA rfl (by kernel_rfl) (fun _ _ _ h=>h) rfl ⟨k12,f0,f1,f2⟩ (by rintro w' ⟨Hu,Hv,Hw,Hx⟩; go_simp; rfl) ?_;simp only[Act.put,aa,ag,ab];have hO:bb<w9.heap.size:=aw ha.o;have hq:w.heap.size+1<w9.heap.size:=aw hS.o;have hQ:=am ((au w9.heap.size w9).alloc (ak _) (.cells #[.string r.name, .int .i64 r.gen, .int .i64 r.size, .slice a9 xl c9] 53))
   have HZ:=am (aE ((hQ.o.cell (p:=⟨bb,12,none⟩) hO).trans k12) (aE ((hQ.o.cell (p:=⟨w.heap.size+1,0,none⟩) hq).trans f0) (aE ((hQ.o.cell (p:=⟨w.heap.size+1,1,none⟩) hq).trans f1) ((hQ.o.cell (p:=⟨w.heap.size+1,2,none⟩) hq).trans f2))));refine cn 9 rfl (fun K hK=> ?_);go_wp2_with fail
   (first | (refine⟨HZ.o, ?_⟩) | skip)
   refine cn 10 rfl (fun K hK=> ?_);have Yn:zs.length<1000000000000:=by have h1:=hn; rw[<-Hh.o,aB]at h1; exact h1
   have Hg:=am (hC.o.below hR.o);go_wp2_with (at_builtin; go_must (refine bO Tryz.appBlobs rfl _ _ rfl base (.slice av zs.length cv8) zs.length (jY zs) rfl w9 [.string r.name, .int .i64 r.gen, .int .i64 r.size, .slice a9 xl c9] _ rfl rfl (tR (b:=⟨r,x⟩)) Hg.o.row (by omega) (by have:=Ha.o; have:=hR.o.size; omega) ?_); intro v' wc ho hb _ Hr; obtain⟨ae,ce,rfl,-,-⟩:=aH ho)
   have hW: ∀i cs t z,w9.heap[i]? =some (.cells cs t z)->t≠53->(Value.slice av zs.length cv8).ownBlock≠some i:=fun i cs t z hi ht e=>by
    obtain⟨cs2,hN⟩:=bI Hg.o.row e;exact ht (bU hi hN)
   have hX:=dX hR.o HY.o;have hM:=(hb.block bb hO (fun e=>hW _ _ _ _ ha.o (by decide) e.symm)).trans ha.o;have Hb:=(hb.block (w.heap.size+1) hq (fun e=>hW _ _ _ _ hS.o (by decide) e.symm)).trans hS.o;have Ht:=(hb.block w.heap.size (aw hX) (fun e=>hW _ _ _ _ hX (by decide) e.symm)).trans hX;have hf:=am hM;have HQ:=am Hb;have hw:=kz.push (b:=⟨r,x⟩) Hh.o hC.o hd.o h9.o hR.o HV.o ho hb Hr hbb (ay hbz Ha.o)
   have h8:=am hw;have H1:=y6;have hD:=am ((aC wc ⟨bb,12,none⟩ (.slice ae (zs.length+1) ce) (w.heap.size+1) (by show w.heap.size+1≠bb; omega)).trans Hb);have hj:=am ((aC wc ⟨bb,12,none⟩ (.slice ae (zs.length+1) ce) w.heap.size (by show w.heap.size≠bb; omega)).trans Ht);clear ho hb Hr hw hW hX hM Hb Ht k0 k1 k2 k3 k4 k10 k12 k13 f0 f1 f2
   obtain⟨f0,f1,f2,_⟩:=aU HQ.o;have k0:=az (k:=0) hf.o;have k1:=az (k:=1) hf.o;have k2:=az (k:=2) hf.o;have k3:=az (k:=3) hf.o;have k4:=az (k:=4) hf.o;have k10:=az (k:=10) hf.o;have k12:=az (k:=12) hf.o;have k13:=az (k:=13) hf.o;simp only[mV,eC,fU,aK,aJ,ai,aj,ah]at k0 k1 k2 k3 k4 k10 k12 k13
   have kz12:=dw (k:=12) hf.o;refine⟨⟨k12,f0,f1,f2⟩, ?_⟩
   iterate 2 (refine cA rfl (by kernel_rfl) (fun _ _ _ h=>h) rfl ⟨k12,f0,f1,f2⟩ (by rintro w' ⟨Hu,Hv,Hw,Hx⟩; go_simp; rfl) ?_; simp only[Act.put,aa,ag,ab])
   refine cE (by kernel_rfl) ?_;refine eD rfl rfl (fun K hK=> ?_)
   go_upto_region 13 with(fail)
   obtain⟨Hi,hH⟩: ∃Hi:World,Hi=wc.setCell ⟨bb,12,none⟩ (.slice ae (zs.length+1) ce):=⟨_,rfl⟩;rw[<-hH]at h8 hD hj ⊢;clear hH k0 k1 k2 k3 k4 k10 k12 k13 f0 f1 f2 kz12;obtain⟨f0,f1,f2,_⟩:=aU hD.o;obtain⟨z0,z1,z2,_⟩:=aU hj.o;obtain⟨y0,y1,y2,_⟩:=gG hj.o;go_wp2_with fail;refine vA hj.o rfl rfl rfl ?_;refine⟨by rw[<-hY.o]; rfl, .slice ae (zs.length+1) ce,And.symm ⟨?_, ?_⟩⟩
   ·exact(((h0.o.trans h8.o.2).setNew (ak _) hbz).setNew (ak _) hbz).setNew (ak _) hbz
   ·rw[h7.o];exact h8.o.1.other hj.o (by decide) (by decide) (by decide) (fun i hi _=>ed hi)
theorem gN {w w':World} {B B' sz sz' n n':Nat} {t t':TypeId} {u r:Value} {xs xs':List Value} (h:w.ownsRow B t sz u n xs) (ho:w.ownsRow B' t' sz' r n' xs') (hg:w.grownBy w' r.ownBlock) (ht:t≠t'):w'.ownsRow B t sz u n xs:=
 eP h (fun k hk hu=>hg.block k hk (fun e=>by
  obtain⟨cs,hc⟩:=bI h hu;obtain⟨cs2,hc2⟩:=bI ho e.symm;exact ht (bU hc hc2)))
theorem jh.row {w w':World} {base bb im kb B sz n:Nat} {k:dh} {c:fN} {gv v v' u:Value} {bs:List cZ} {t:TypeId} {xs:List Value} (h:kz w base bb k c gv im kb v bs) (hk:jh base bb kb v v' w w') (hr:w.ownsRow B t sz u n xs) (h1:t≠122) (h2:t≠53):w'.ownsRow B t sz u n xs:=
 eP hr (fun i hi hu=>by
  obtain⟨cs,hc⟩:=bI hr hu;refine hk.same i hi (fun e=> ?_) (fun e=> ?_) (fun e=> ?_)
  ·subst e; exact h1 (bU hc h.box)
  ·subst e; exact h.known.cells hc
  ·obtain⟨zs,_,ho,_⟩:=h.own;obtain⟨cs2,hc2⟩:=bI ho e;exact h2 (bU hc hc2))
theorem kz.otherRow {w w':World} {base bb im kb B sz n:Nat} {k:dh} {c:fN} {gv v r:Value} {bs:List cZ} {t:TypeId} {xs:List Value} (h:kz w base bb k c gv im kb v bs) (hr:w.ownsRow B t sz r n xs) (hg:w.grownBy w' r.ownBlock) (h1:t≠122) (h2:t≠53) (h3:t≠5):kz w' base bb k c gv im kb v bs:=by
 obtain⟨zs,hz,ho,hd⟩:=h.own;refine⟨(hg.block bb (aw h.box) (fun e=> ?_)).trans h.box,⟨zs,hz,gN ho hr hg (fun e=>h2 e.symm),fun z hz=>gN (hd z hz) hr hg (fun e=>h3 e.symm)⟩,h.known.same (hg.block kb h.known.map.lt (fun e=> ?_))⟩
 ·obtain⟨cs,hc⟩:=bI hr e.symm;exact h1 (bU hc h.box)
 ·obtain⟨cs,hc⟩:=bI hr e.symm;exact h.known.cells hc
theorem jh.otherRow {w0 w w':World} {base bb kb B sz n:Nat} {v v' r:Value} {t:TypeId} {xs:List Value} (h:jh base bb kb v v' w0 w) (hr:w.ownsRow B t sz r n xs) (hg:w.grownBy w' r.ownBlock) (hB:w0.heap.size<=B) (hbz:base<=w0.heap.size):jh base bb kb v v' w0 w':=
 ⟨h.below.grown hg (ay hbz h.below.size) (fun i hi=>ay (ay hbz hB) (hr.lt i hi).1),fun i h1 h2 h3 h4=>(hg.block i (aP h1 h.below.size) (fun e=>by have:=(hr.lt i e.symm).1; omega)).trans (h.same i h1 h2 h3 h4),h.place⟩
theorem JA (d p:ByteArray):Lib.trimPrefix (p.extract d.size p.size).data.toList [47]=mC (bl d) (bl p):=by
 have e:(p.extract d.size p.size).data.toList=(bl p).drop (bl d).length:=by
  rw[Lib.extract_data,<-bh];exact bB (by rw[bw,bh]; exact ak _)
 rw[e];unfold mC Lib.trimPrefix Lib.hasPrefix
 cases hd:(bl p).drop (bl d).length with
 | nil=>simp
 | cons y ys=>
  by_cases hy:y=47
  ·subst hy; simp
  ·simp[hy];intro h; exact absurd h.symm hy
theorem Db (d p:ByteArray) (w:World) (h:d.size<=p.size):Calls Tryz.prog 121 #[.string d, .string p] w fun e w'=>e= .returned (.string ⟨(mC (bl d) (bl p)).toArray⟩)/\w=w':=by
 go_enter Tryz.func121,Tryz.ntmps121
 go_wp2_with fail;refine(Tryz.strings_TrimPrefix _ _ w).mono ?_;rintro e w' ⟨rfl,rfl⟩;rw[JA d p];obtain⟨q,hq⟩: ∃q,q=mC (bl d) (bl p):=⟨_,rfl⟩;rw[<-hq];have HQ:=am hq;clear hq;go_wp2_with fail;go_ret;obtain rfl:=HQ.o;exact⟨rfl,rfl⟩
structure KO (w : World) (base bb im kb B : Nat) (k : dh) (c : fN) (gv v pv : Value) (ys : List (Value × List UInt8)) (wr : World) (v2 rv : Value) (bs2 : List cZ) (rs : List cy) : Prop where
 bd:kz wr base bb k c gv im kb v2 bs2
 kp:jh base bb kb v v2 w wr
 row:wr.ownsRow w.heap.size 26 3 rv rs.length (rs.flatMap jg)
 pcs:wr.ownsRow B 29 1 pv ys.length (ys.map Prod.fst)/\ ∀y∈ys,wr.ownsRow B 5 1 y.1 y.2.length (y.2.map aY)
section
variable {w wr w' : World} {base bb im kb B : Nat} {k : dh} {c : fN} {gv v pv v2 v3 rv : Value} {ys : List (Value × List UInt8)} {bs2 bs3 : List cZ} {rs : List cy}
theorem KO.step (h:KO w base bb im kb B k c gv v pv ys wr v2 rv bs2 rs) (h1:kz w' base bb k c gv im kb v3 bs3) (h2:jh base bb kb v2 v3 wr w'):KO w base bb im kb B k c gv v pv ys w' v3 rv bs3 rs:=
 ⟨h1,h.kp.trans h2,h2.row h.bd h.row (by decide) (by decide),h2.row h.bd h.pcs.1 (by decide) (by decide),fun y hy=>h2.row h.bd (h.pcs.2 y hy) (by decide) (by decide)⟩
theorem KO.below (h:KO w base bb im kb B k c gv v pv ys wr v2 rv bs2 rs) (hb:Below wr.heap.size wr w') (hbz:base<=wr.heap.size):KO w base bb im kb B k c gv v pv ys w' v2 rv bs2 rs:=
 h.step (h.bd.below hb) (jh.ofBelow hb hbz)
theorem KO.push {rv':Value} {r:cy} (h:KO w base bb im kb B k c gv v pv ys wr v2 rv bs2 rs) (hown:w'.ownsRow w.heap.size 26 3 rv' (rs.length+1) (rs.flatMap jg++jg r)) (hg:wr.grownBy w' rv.ownBlock) (hbz:base<=w.heap.size):KO w base bb im kb B k c gv v pv ys w' v2 rv' bs2 (rs++[r]):=
 ⟨h.bd.otherRow h.row hg (by decide) (by decide) (by decide),h.kp.otherRow h.row hg (ak _) hbz,by rw[an,bP]; simpa using hown,gN h.pcs.1 h.row hg (by decide),fun y hy=>gN (h.pcs.2 y hy) h.row hg (by decide)⟩
end
def PD (base bb im kb:Nat) (k:dh) (c:fN) (gs:List (ByteArray×Int)) (gv v:Value) (bs:List cZ) (x:List UInt8) (w:World) (e:Ending) (w':World):Prop:=
 ∃rv v',e= .returned (.tuple #[rv, .int .i64 0])/\w'.ownsRow w.heap.size 26 3 rv ((fZ c x).map (bA k gs)).length (((fZ c x).map (bA k gs)).flatMap jg)/\kz w' base bb k c gv im kb v' (dB k gs (fZ c x) bs)/\jh base bb kb v v' w w'
theorem Ot (k:dh) (gs:List (ByteArray×Int)) (bs:List cZ) (x:List UInt8):(jK k gs bs x).length<=bs.length+1:=by
 unfold jK
 split
 ·omega
 ·simp
theorem qV (k:dh) (gs:List (ByteArray×Int)): ∀(cs:List (List UInt8)) (bs:List cZ),(dB k gs cs bs).length<=bs.length+cs.length
 | [],bs=>ak _
 | x::cs,bs=>by
  have h1:=qV k gs cs (jK k gs bs x);have h2:=Ot k gs bs x
  show(dB k gs cs (jK k gs bs x)).length<=_
  rw[aD]; omega
theorem BO {k:dh} {gs:List (ByteArray×Int)} {cs:List (List UInt8)} {bs:List cZ} {j:Nat} {x:List UInt8} (h:cs[j]? =some x):dB k gs (cs.take (j+1)) bs=jK k gs (dB k gs (cs.take j) bs) x:=by
 rw[dL h,jt]; rfl
theorem AU {c:fN} (hc:jG c=true) (x:List UInt8): ∀y∈fZ c x,1<=y.length/\y.length<=32768:=by
 have hv:=kW.1 hc;intro y hy;have:=uq (mx:=c.mx.toNat) (by omega) (nn) y hy;omega
theorem It (S:Nat->Prop) (base bb kb im:Nat) (k:dh) (c:fN) (gs:List (ByteArray×Int)) (gv v cv:Value) (bs:List cZ) (x:List UInt8) (w:World) (h:kz w base bb k c gv im kb v bs) (hk:jx k=true) (hc:jG c=true) (hsd:c.seed<18446744073709551616) (hg:kK (· <base) w gv gs) (hgs: ∀p∈gs,0<=p.2/\p.2<=1099511627776)
  (hx:bH S w cv x) (hl:x.length<=1048576) (hE:rz w) (hbb:base<=bb) (hkb:base<=kb) (hbz:base<=w.heap.size) (h7:7<=base) (hn:bs.length+(fZ c x).length<1000000000000):
  Calls Tryz.prog 122 #[.pointer (some ⟨bb,0,none⟩),cv] w (PD base bb im kb k c gs gv v bs x w):=by
 have HH:=am h;have HK:=am hk;have HG:=am hg;have hW:=am hgs;have HE:=am hE;have hV:=am (AU hc x);have hF:=wh S c x cv w hc hsd hx hl hE.deb;obtain⟨L,hL⟩: ∃L,L=fZ c x:=⟨_,rfl⟩;have HL:=am hL;rw[<-hL]at hn;unfold fZ at hL;rw[<-hL]at hF;unfold kj at hF;have hZ:=am hF;have ha:=am h.box;have k5:=az (k:=5) ha.o;have k6:=az (k:=6) ha.o
 have k7:=az (k:=7) ha.o;have k8:=az (k:=8) ha.o;have k9:=az (k:=9) ha.o;simp only[mV,eC,fU,aK,aJ,ai,aj,ah]at k5 k6 k7 k8 k9;clear h hk hg hgs hx hE hL hF
 go_enter Tryz.func122,Tryz.ntmps122
 go_wp2_with fail;refine hZ.o.mono ?_;rintro e w1 ⟨pv,rfl,⟨ys,hM,hq,hw⟩,hC⟩;have Hi:=am hC;obtain⟨pa,pc,rfl,Hb,Hd⟩:=aH hq;unfold maxLen at Hd;have h0:=am hM;have hN:=am (show KO w base bb im kb w.heap.size k c gv v (.slice pa ys.length pc) ys w1 v (.slice none 0 0) bs []from⟨HH.o.below hC,jh.ofBelow hC hbz,bM _ _ _ _,hq,hw⟩)
 obtain⟨m,hm⟩: ∃m,m=ys.length:=⟨_,rfl⟩;rw[<-hm]at hN Hb ⊢;have HM:=am hm;have hO:=am (show m=L.length by rw[hm,<-hM,aB]);clear hC hq hw hM hm k5 k6 k7 k8 k9;go_wp2_with fail
 go_loopw [8,27] (fun rv i wr=> ∃(j:Nat) (v2:Value),j<=m/\i= .int .i64 (j:Int)/\KO w base bb im kb w.heap.size k c gv v (.slice pa m pc) ys wr v2 rv (dB k gs (L.take j) bs) ((L.take j).map (bA k gs))) (fun _ i _=>m-(intOf i).toNat)
 case atStart=>exact⟨0,v,aW _,rfl,hN.o⟩
 case round=>
  obtain⟨j,v2,hj,rfl,hy⟩:=hrel;have hf:=am hy;obtain⟨rs,hD⟩: ∃rs,rs=(L.take j).map (bA k gs):=⟨_,rfl⟩;rw[<-hD]at hy;obtain⟨ra,rc,Hg,-,-⟩:=aH hy.row;subst Hg;have hf:=am hy;have hP:=am hD;have Hf:rs.length<=j:=by rw[hD,aB,bm]; omega
  clear hy hD
  by_cases Ha:j<m
  ·obtain⟨⟨yv,yb⟩,hG⟩: ∃yp,ys[j]? =some yp:=⟨ys[j]'(by rw[<-HM.o]; exact Ha),by simp⟩;have hA:=am (show L[j]? =some yb by rw[<-h0.o,bn,hG]; rfl);obtain⟨_,pa',pc',Hc,_,_,hR⟩:=cL hf.o.pcs.1
   cases Hc
   obtain⟨pb,po,rfl,-,he⟩:=hR.resolve_left (by omega);have q0:=he j yv (by rw[bn,hG]; rfl);have hp:=hf.o.pcs.2 (yv,yb) (aQ hG);obtain⟨ya,yc,hT,-,-⟩:=aH hp;simp only at hT;subst hT;have hS:=hV.o yb (by rw[<-HL.o]; exact aQ hA.o);have h8:=qV k gs (L.take j) bs;have hI:(L.take j).length<=L.length:=by rw[bm]; omega
   have hu:=Gg (fun _=>True) base bb kb im k c gs gv v2 (.slice ya yb.length yc) (dB k gs (L.take j) bs) yb wr hf.o.bd HK.o (HG.o.keep (fun i h1 _=>hf.o.kp.below.block i h1)) hW.o
    (cC.weak (cL hp) (fun _ _=>trivial)) hS.2 (HE.o.keep hf.o.kp.below h7) hbb hkb (ay hbz hf.o.kp.below.size) h7 (by omega)
   unfold Ee ef at hu;rw[<-BO hA.o]at hu;obtain⟨r,hr⟩: ∃r,r=bA k gs yb:=⟨_,rfl⟩;rw[<-hr]at hu;have hY:=am hr;have hU:=am hu;obtain⟨rn,hJ⟩: ∃rn,rn=rs.length:=⟨_,rfl⟩;rw[<-hJ]at Hf ⊢;have ho:=am hJ;clear hG hR he hp hS h8 hI hu hr hJ;go_wp2_with fail;refine hU.o.mono ?_;rintro e w3 ⟨rfl,v3,hv,hz⟩;have hs:=am (hf.o.step hv hz)
   have h4:=am (show base<=w3.heap.size from ay hbz (hs.o.kp.below.size));obtain⟨W4,hB⟩: ∃W4,W4=w3.alloc (.cells #[.string r.name, .int .i64 r.gen, .int .i64 r.size] 26):=⟨_,rfl⟩;have hh:=am (hs.o.below (w':=W4) (by rw[hB]; exact eK) h4.o);have hQ:W4.heap[w3.heap.size]? =some (.cells #[.string r.name, .int .i64 r.gen, .int .i64 r.size] 26 (0,0)):=by rw[hB]; exact dZ w3 _
   obtain⟨f0,f1,f2,_⟩:=aU hQ;have hH:=am (show W4.ownsRow w.heap.size 26 3 (.slice ra rn rc) rn (rs.flatMap jg) by have h1:=hh.o.row; rw[<-ho.o]at h1; exact h1);have Hh:w.heap.size<=W4.heap.size:=hh.o.kp.below.size;have He:rn<1099511627775:=by have:=hO.o; omega
   clear hv hz q0 hQ
   go_upto_region 11 with(fail)
   rw[<-hB];clear hB;go_wp2_with (at_builtin; go_must (refine bO Tryz.appRefs rfl _ _ rfl w.heap.size (.slice ra rn rc) rn (rs.flatMap jg) rfl W4 [.string r.name, .int .i64 r.gen, .int .i64 r.size] _ rfl rfl (qF (r:=r)) hH.o He Hh ?_); intro v' wc hd hb _ _; obtain⟨ae,ce,rfl,-,-⟩:=aH hd; have hX:=am (hh.o.push (r:=r) (by rw[<-ho.o]; exact hd) (by rw[<-ho.o]; exact hb) hbz); clear hd hb)
   go_roundw
   case rel=>
    refine⟨j+1,v3,by omega,by go_num, ?_⟩;have h1:=hX.o;rw[hP.o,hY.o]at h1;rw[dL hA.o,aN,<-dL hA.o];exact h1
   case measure=>simp[intOf]; omega
  ·have h9:j=m:=by omega
   subst h9;go_wp2_with fail
   go_ret2
   have h1:=hf.o;have h2:L.take j=L:=by rw[hO.o,dj]
   have h3:rs=L.map (bA k gs):=by rw[hP.o,h2]
   rw[h2]at h1;refine⟨_,v2,rfl, ?_, ?_,h1.kp⟩
   ·rw[<-HL.o,<-h3]; exact h1.row
   ·rw[<-HL.o]; exact h1.bd
structure Bx where
 dir:ByteArray
 val:Value
 ents:List pw
def nH (g:Bx):Value×Value:=(.string g.dir,g.val)
structure qm (w : World) (base im : Nat) (G : List Bx) : Prop where
 map:ja Tryz.prog 9 w im (G.map nH)
 own: ∀g∈G,w.ownsRow base 79 6 g.val g.ents.length (jl g.ents)
 dat: ∀g∈G,∀y∈g.ents,eH (· <base) w y.1 y.2.data/\mN y.2
 apart:G.Pairwise fun a b=> ∀i,a.val.ownBlock=some i->b.val.ownBlock≠some i
 key: ∀g∈G,g.dir.size<=maxLen
def mg (G:List Bx) (d:ByteArray):List dl:=match G.find? (fun g=>decide (g.dir=d))with
 | none=>[]
 | some g=>g.ents.map Prod.snd
def Eh (w:World) (base im:Nat) (tree:List dl):Prop:= ∃G,qm w base im G/\ ∀d,mg G d=gV tree d
theorem pA {B:Nat} {w w':World} {v:Value} {bs:List UInt8} (h:eH (· <B) w v bs) (hb:Below B w w'):eH (· <B) w' v bs:=cC.same h (fun k hk=>hb.block k hk)
theorem ja.ncells {P:Program} {k:TypeId} {w:World} {b:Nat} {m:List (Value×Value)} (h:ja P k w b m) {cs:Array Value} {t:TypeId} {z:Nat×Nat} :w.heap[b]? ≠some (.cells cs t z):=fun e=>by
 obtain⟨es,clock,hb,_⟩:=h;rw[hb]at e; cases e
theorem jh.blk {w w':World} {base bb im kb i:Nat} {k:dh} {c:fN} {gv v v':Value} {bs:List cZ} {cs:Array Value} {t:TypeId} {z:Nat×Nat} (h:kz w base bb k c gv im kb v bs) (hk:jh base bb kb v v' w w') (hx:w.heap[i]? =some (.cells cs t z)) (h1:t≠122) (h2:t≠53):w'.heap[i]? =some (.cells cs t z):=by
 refine(hk.same i (aw hx) (fun e=> ?_) (fun e=> ?_) (fun e=> ?_)).trans hx
 ·subst e; exact h1 (bU hx h.box)
 ·subst e; exact h.known.cells hx
 ·obtain⟨zs,_,ho,_⟩:=h.own;obtain⟨cs2,ha⟩:=bI ho e;exact h2 (bU hx ha)
theorem qm.keep {w w':World} {base bb im kb:Nat} {k:dh} {c:fN} {gv v v':Value} {bs:List cZ} {G:List Bx} (hg:qm w base im G) (h:kz w base bb k c gv im kb v bs) (hk:jh base bb kb v v' w w') (hne:im≠kb):qm w' base im G:=by
 refine⟨hg.map.same (hk.same im hg.map.lt (fun e=> ?_) hne (fun e=> ?_)),fun g hm=>hk.row h (hg.own g hm) (by decide) (by decide),fun g hm y hy=>⟨pA (hg.dat g hm y hy).1 hk.below,(hg.dat g hm y hy).2⟩,hg.apart,hg.key⟩
 ·exact hg.map.ncells (by rw[e]; exact h.box)
 ·obtain⟨zs,_,ho,_⟩:=h.own;obtain⟨cs2,ha⟩:=bI ho e;exact hg.map.ncells ha
theorem Eh.keep {w w':World} {base bb im kb:Nat} {k:dh} {c:fN} {gv v v':Value} {bs:List cZ} {tree:List dl} (hg:Eh w base im tree) (h:kz w base bb k c gv im kb v bs) (hk:jh base bb kb v v' w w') (hne:im≠kb):Eh w' base im tree:=by
 obtain⟨G,h1,h2⟩:=hg;exact⟨G,h1.keep h hk hne,h2⟩
theorem LN {w:World} {base im:Nat} {tree:List dl} (hg:Eh w base im tree) {d:ByteArray} (hd:d.size<=maxLen):
  ∃(v:Value) (ys:List pw),(Instr.lookup 119 (.map (some im)) (.string d) false).run Tryz.prog w= .ok v w/\ys.map Prod.snd=gV tree d/\w.ownsRow base 79 6 v ys.length (jl ys)/\ ∀y∈ys,eH (· <base) w y.1 y.2.data/\mN y.2:=by
 obtain⟨G,h1,h2⟩:=hg;have ht:Tryz.prog.underlying 119=some (.map 9 46):=Tryz.underlying119;have hz:(zeroValue 46).run Tryz.prog w= .ok (.slice none 0 0) w:=by kernel_rfl
 have h3:=h2 d;unfold mg at h3
 cases hf:G.find? (fun g=>decide (g.dir=d))with
 | none=>
  rw[hf]at h3;refine⟨.slice none 0 0,[], ?_,h3,bM _ _ _ _,by simp⟩;have:=h1.map.is.miss gg ht hz (iA hd) (fun q hq e=>by
   obtain⟨x,hx,rfl⟩:=aS.1 hq;simp only[nH,ep]at e;have:=eM.1 hf x hx;simp[e]at this) false
  simpa using this
 | some g=>
  rw[hf]at h3;have h4:=dM hf;have h5:=jp hf;simp only[aL]at h5;refine⟨g.val,g.ents, ?_,h3,h1.own g h4,h1.dat g h4⟩;have:=h1.map.is.hit gg ht (iA hd) (val:=g.val) (aS.2 ⟨g,h4,by rw[<-h5]; rfl⟩) false
  simpa using this
abbrev uI :=Value×cg
def pG (zs:List uI):List Value:=zs.flatMap fun z=>eW z.1 z.2
theorem zC (zs:List uI) (z:uI):pG (zs++[z])=pG zs++eW z.1 z.2:=by simp[pG]
structure lx (w : World) (B : Nat) (iv : Value) (its : List cg) : Prop where
 row: ∃zs:List uI,zs.map Prod.snd=its/\w.ownsRow B 28 10 iv zs.length (pG zs)/\ ∀z∈zs,w.ownsRow B 26 3 z.1 z.2.chunks.length (z.2.chunks.flatMap jg)/\iw z.2/\ ∀r∈z.2.chunks,dY r
theorem zB {S:Nat->Prop} {w:World} : ∀ {zs:List uI},(∀z∈zs,dy S w z.1 z.2.chunks/\iw z.2)->eR (kO S w) (pG zs) (zs.map Prod.snd)
 | [],_=>rfl
 | z::zs,h=>⟨eW z.1 z.2,pG zs,by simp[pG],⟨z.1,rfl,(h z (by simp)).1,(h z (by simp)).2⟩,zB (fun y hy=>h y (by simp[hy]))⟩
theorem lx.at {w:World} {B:Nat} {iv:Value} {its:List cg} (h:lx w B iv its):ew (fun _=>True) w iv its:=by
 obtain⟨zs,rfl,h1,h2⟩:=h.row;refine⟨pG zs, ?_,zB (fun z hz=>⟨dy.same (nT (h2 z hz).1 (h2 z hz).2.2) (fun _ _ _=>⟨trivial,rfl⟩),(h2 z hz).2.1⟩)⟩;rw[aB];exact cC.weak (cL h1) (fun _ _=>trivial)
theorem lx.nil (w:World) (B:Nat):lx w B (.slice none 0 0) []:=⟨[],rfl,bM _ _ _ _,by simp⟩
structure Ef (w : World) (base bb im kb : Nat) (k : dh) (c : fN) (gv v ev : Value) (ys : List pw) (wr : World) (v2 iv : Value) (bs2 : List cZ) (its : List cg) : Prop where
 bd:kz wr base bb k c gv im kb v2 bs2
 kp:jh base bb kb v v2 w wr
 its:lx wr w.heap.size iv its
 ents:wr.ownsRow base 79 6 ev ys.length (jl ys)
 res:wr.heap[w.heap.size]? =some (.cells #[.string ⟨#[]⟩, .int .i64 0, .int .i64 0] 26 (0,0))
theorem lx.keep {w w':World} {base bb im kb B:Nat} {k:dh} {c:fN} {gv v v' iv:Value} {bs:List cZ} {its:List cg} (hi:lx w B iv its) (h:kz w base bb k c gv im kb v bs) (hk:jh base bb kb v v' w w'):lx w' B iv its:=by
 obtain⟨zs,h1,h2,h3⟩:=hi.row;exact⟨zs,h1,hk.row h h2 (by decide) (by decide),fun z hz=>⟨hk.row h (h3 z hz).1 (by decide) (by decide),(h3 z hz).2⟩⟩
section
variable {w wr w' : World} {base bb im kb : Nat} {k : dh} {c : fN} {gv v ev v2 v3 iv : Value} {ys : List pw} {bs2 bs3 : List cZ} {its : List cg}
theorem Ef.step (h:Ef w base bb im kb k c gv v ev ys wr v2 iv bs2 its) (h1:kz w' base bb k c gv im kb v3 bs3) (h2:jh base bb kb v2 v3 wr w'):Ef w base bb im kb k c gv v ev ys w' v3 iv bs3 its:=
 ⟨h1,h.kp.trans h2,h.its.keep h.bd h2,h2.row h.bd h.ents (by decide) (by decide),h2.blk h.bd h.res (by decide) (by decide)⟩
theorem Ef.below (h:Ef w base bb im kb k c gv v ev ys wr v2 iv bs2 its) (hb:Below wr.heap.size wr w') (hbz:base<=wr.heap.size):Ef w base bb im kb k c gv v ev ys w' v2 iv bs2 its:=
 h.step (h.bd.below hb) (jh.ofBelow hb hbz)
theorem Ef.push {iv' rv:Value} {it:cg} {zs:List uI} (h:Ef w base bb im kb k c gv v ev ys wr v2 iv bs2 its) (hz:zs.map Prod.snd=its) (hrow:wr.ownsRow w.heap.size 28 10 iv zs.length (pG zs)) (hdat: ∀z∈zs,wr.ownsRow w.heap.size 26 3 z.1 z.2.chunks.length (z.2.chunks.flatMap jg)/\iw z.2/\ ∀r∈z.2.chunks,dY r)
  (hown:w'.ownsRow w.heap.size 28 10 iv' (zs.length+1) (pG zs++eW rv it)) (hg:wr.grownBy w' iv.ownBlock) (hrv:wr.ownsRow w.heap.size 26 3 rv it.chunks.length (it.chunks.flatMap jg)) (hok:iw it) (hrs: ∀r∈it.chunks,dY r) (hbz:base<=w.heap.size):
  Ef w base bb im kb k c gv v ev ys w' v2 iv' bs2 (its++[it]):=by
 refine⟨h.bd.otherRow hrow hg (by decide) (by decide) (by decide),h.kp.otherRow hrow hg (ak _) hbz,⟨zs++[(rv,it)],by simp[hz],by rw[an,bT,zC]; exact hown,fun z hm=> ?_⟩,gN h.ents hrow hg (by decide), ?_⟩
 ·rcases aT.1 hm with hm | hm
  ·exact⟨gN (hdat z hm).1 hrow hg (by decide),(hdat z hm).2⟩
  ·rw[aM]at hm;subst hm;exact⟨gN hrv hrow hg (by decide),hok,hrs⟩
 ·refine(hg.block _ (aw h.res) (fun e=> ?_)).trans h.res;obtain⟨cs2,ha⟩:=bI hrow e.symm;exact absurd (bU h.res ha) (by decide)
theorem Ef.otherSet {i q:Nat} {u:Value} {cs:Array Value} {t:TypeId} {z:Nat×Nat} (h:Ef w base bb im kb k c gv v ev ys wr v2 iv bs2 its) (hx:wr.heap[i]? =some (.cells cs t z)) (h1:t≠122) (h2:t≠53) (h3:t≠5) (h4:t≠26) (h5:t≠79) (h6:iv.ownBlock≠some i) (hi:w.heap.size<=i) (hbz:base<=w.heap.size):Ef w base bb im kb k c gv v ev ys (wr.setCell ⟨i,q,none⟩ u) v2 iv bs2 its:=by
 have hs: ∀j,j≠i->(wr.setCell ⟨i,q,none⟩ u).heap[j]? =wr.heap[j]? :=fun j hj=>aC _ _ _ _ hj
 refine⟨h.bd.other hx h1 h2 h3 (fun j hj _=>hs j hj),h.kp.setNew hi hbz, ?_,eP h.ents (fun j hj hu=>hs j (fun e=> ?_)),(hs _ (fun e=> ?_)).trans h.res⟩
 ·obtain⟨zs,hz,hr,hd⟩:=h.its.row;refine⟨zs,hz,eP hr (fun j hj hu=>hs j (fun e=>h6 (e▸hu))),fun y hy=>⟨eP (hd y hy).1 (fun j hj hu=>hs j (fun e=> ?_)),(hd y hy).2⟩⟩;obtain⟨cs2,ha⟩:=bI (hd y hy).1 hu;exact h4 (bU hx (e▸ha))
 ·obtain⟨cs2,ha⟩:=bI h.ents hu;exact h5 (bU hx (e▸ha))
 ·exact h4 (bU hx (e▸h.res))
end
theorem NW {a:Act} {w:World} {b:Nat} {x0 x1 x2 e5:Value} (h:w.heap[b]? =some (.cells #[x0,x1,x2] 26 (0,0)))
  (h4:a.tmps[4]? =some (.pointer (some ⟨b,0,none⟩))) (h5:a.tmps[5]? =some e5):(results Tryz.f73 a.tmps).run Tryz.prog w= .ok (.tuple #[.agg #[x0,x1,x2],e5]) w:=by
 obtain⟨m0,m1,m2,_⟩:=aU h;simp[results,Tryz.results73,go_sem,h4,h5,m0,m1,m2]
theorem vH {a:Act} {w:World} {b:Nat} {a0 a1 a2 x0 x1 x2 e5:Value} {Q:Ending->World->Prop} (h:w.heap[b]? =some (.cells #[a0,a1,a2] 26 (0,0)))
  (h4:a.tmps[4]? =some (.pointer (some ⟨b,0,none⟩))) (h5:a.tmps[5]? =some e5) (hd:a.defers=[])
  (hQ:Q (.returned (.tuple #[.agg #[x0,x1,x2],e5])) (((w.setCell ⟨b,0,none⟩ x0).setCell ⟨b,1,none⟩ x1).setCell ⟨b,2,none⟩ x2)):
  bodyPost Tryz.prog Tryz.f73 Q Exit.ret a (((w.setCell ⟨b,0,none⟩ x0).setCell ⟨b,1,none⟩ x1).setCell ⟨b,2,none⟩ x2):=cM (NW (vj h) h4 h5) hd hQ
structure KM (base bb kb im : Nat) (k : dh) (c : fN) (gs : List (ByteArray × Int)) (tree : List dl) (UR : List cy) : Prop where
 keys:jx k=true
 cut:jG c=true
 seed:c.seed<18446744073709551616
 gens: ∀p∈gs,0<=p.2/\p.2<=1099511627776
 bbb:base<=bb
 bkb:base<=kb
 seven:7<=base
 ikb:im≠kb
 val: ∀e∈tree,ig e=true
 len:tree.length<=4096
 usz:UR.length<=100000000000
 u1: ∀e∈tree,∀y∈fZ c e.data,bA k gs y∈UR
 u2: ∀(n:Nat) (d:ByteArray) (p:List UInt8×List (List UInt8)),n<=514->(d.size=0\/ ∃e∈tree,e.path=d)->gU k gs c tree n d= .ok p->bA k gs p.1∈UR
def Ga (UR:List cy) (bs:List cZ):Prop:= ∀b∈bs,b.ref∈UR
theorem Ga.put {UR:List cy} {bs:List cZ} {k:dh} {gs:List (ByteArray×Int)} {x:List UInt8} (h:Ga UR bs) (hx:bA k gs x∈UR):Ga UR (jK k gs bs x):=by
 unfold jK
 split
 ·exact h
 ·intro b hb
  rcases aT.1 hb with hb | hb
  ·exact h b hb
  ·rw[aM]at hb; subst hb; exact hx
theorem Ga.puts {UR:List cy} {k:dh} {gs:List (ByteArray×Int)} : ∀ {cs:List (List UInt8)} {bs:List cZ},Ga UR bs->(∀x∈cs,bA k gs x∈UR)->Ga UR (dB k gs cs bs)
 | [],_,h,_=>h
 | x::cs,bs,h,hx=>Ga.puts (cs:=cs) (bs:=jK k gs bs x) (h.put (hx x (by simp))) (fun y hy=>hx y (by simp[hy]))
theorem Ga.len {UR:List cy} {bs:List cZ} {w:World} {base bb im kb:Nat} {k:dh} {c:fN} {gv v:Value} (h:Ga UR bs) (hb:kz w base bb k c gv im kb v bs):bs.length<=UR.length:=by
 have h1:=mD (l:=bs.map cZ.ref) (U:=UR) hb.known.nodup (fun x hx=>by
  obtain⟨b,ha,rfl⟩:=aS.1 hx;exact h b ha)
 rwa [aB]at h1
def AA (base bb kb im:Nat) (k:dh) (c:fN) (gs:List (ByteArray×Int)) (gv v:Value) (bs:List cZ) (UR:List cy) (res:Except Int (List UInt8×List (List UInt8))) (w:World) (e:Ending) (w':World):Prop:=match res with
 | .error x=>e= .returned (.tuple #[.agg #[.string ⟨#[]⟩, .int .i64 0, .int .i64 0], .int .i64 x])/\x≠0/\ ∃v' bs',kz w' base bb k c gv im kb v' bs'/\jh base bb kb v v' w w'
 | .ok p=>e= .returned (.tuple #[ef (bA k gs p.1), .int .i64 0])/\Ga UR (dB k gs p.2 bs)/\ ∃v',kz w' base bb k c gv im kb v' (dB k gs p.2 bs)/\jh base bb kb v v' w w'
def Nx (base bb kb im:Nat) (k:dh) (c:fN) (gs:List (ByteArray×Int)) (tree:List dl) (gv:Value) (UR:List cy) (n:Nat):Prop:= ∀(path:ByteArray) (v:Value) (bs:List cZ) (w:World),
 514<=path.size+n->(path.size=0\/ ∃e∈tree,e.path=path)->kz w base bb k c gv im kb v bs->kK (· <base) w gv gs->Eh w base im tree->Ga UR bs->rz w->base<=w.heap.size->
 Calls Tryz.prog 73 #[.pointer (some ⟨bb,0,none⟩), .string path] w (AA base bb kb im k c gs gv v bs UR (gU k gs c tree n path) w)
theorem LB {base bb kb im:Nat} {k:dh} {c:fN} {gs:List (ByteArray×Int)} {tree:List dl} {gv:Value} {UR:List cy} (hX:KM base bb kb im k c gs tree UR):Nx base bb kb im k c gs tree gv UR 0:=by
 intro path v bs w hn hp
 exfalso
 rcases hp with h | ⟨e,he,rfl⟩
 ·omega
 ·have:=nw (dm (hX.val e he));rw[<-bh]at this;omega
theorem pO {l:List UInt8} (h:l≠[]):(cr l).length<l.length:=by
 by_cases hp:cr l=[]
 ·rw[hp];exact List.length_pos_iff.2 h
 ·obtain⟨t,ht⟩:=qC hp;have:=congrArg List.length ht;rw[an,aD]at this;omega
theorem AR {c:fN} (hc:jG c=true) (x:List UInt8):(fZ c x).length<=x.length:=by
 have h1:(fZ c x).flatten=x:=xr;have h2: ∀(l:List (List UInt8)),(∀y∈l,1<=y.length)->l.length<=l.flatten.length:=by
  intro l
  induction l with
  | nil=>simp
  | cons y l ih=>
   intro h;have:=ih (fun z hz=>h z (by simp[hz]));have:=h y (by simp);simp only[aD,iD,an];omega
 have h3:=h2 (fZ c x) (fun y hy=>(AU hc x y hy).1)
 rwa [h1]at h3
section
variable {P : Program} {ops : Array Oper} {Q : Exit → Act → World → Prop} {S : World → Prop}
theorem wO {dst dst2:Option Tmp} {op op2:Op} {ty ty2:TypeId} {pos pos2:String} {aft aft2:Array Edge} {g g2:Option (Nat×Bool)} {fuel:Nat} {listed:Array Bool} {a:Act} {w:World} (i j:Nat) (hi:ops[i]? =some ⟨dst,op,ty,pos,aft,g⟩) (hj:ops[j]? =some ⟨dst2,op2,ty2,pos2,aft2,g2⟩) (hr:Region.ready .any ops listed=[i,j])
  (hw:Region.wanted ⟨dst,op,ty,pos,aft,g⟩ (yielded ops a.tmps)=true) (hw2:Region.wanted ⟨dst2,op2,ty2,pos2,aft2,g2⟩ (yielded ops a.tmps)=true)
  (h: ∀K:Act->World->Prop,(∀a w,S w/\ql P ops Q S fuel (listed.setIfInBounds i true) a w->K a w)->wpList P #[] (Exit.then K Q) [⟨dst,op,ty,pos, #[],none⟩] a w)
  (h2: ∀K:Act->World->Prop,(∀a w,S w/\ql P ops Q S fuel (listed.setIfInBounds j true) a w->K a w)->wpList P #[] (Exit.then K Q) [⟨dst2,op2,ty2,pos2, #[],none⟩] a w):ql P ops Q S (fuel+1) listed a w:=by
 refine ql.of (wpAnyH_all hr (by simp) fun m hm=> ?_);have ha:m=i\/m=j:=by simpa using hm
 rcases ha with rfl | rfl
 ·have hb:ye P ops (fun a' w'=>S w'/\wpAnyH P .any ops Q S fuel (listed.setIfInBounds m true) a' w') Q [⟨dst,op,ty,pos,aft,g⟩] a w:=
   ee hw (fun K hK=>h K (fun a w hh=>hK a w ⟨hh.1,hh.2.out⟩))
  unfold wpOp;simp only[hi];exact ye.out hb
 ·have hb:ye P ops (fun a' w'=>S w'/\wpAnyH P .any ops Q S fuel (listed.setIfInBounds m true) a' w') Q [⟨dst2,op2,ty2,pos2,aft2,g2⟩] a w:=
   ee hw2 (fun K hK=>h2 K (fun a w hh=>hK a w ⟨hh.1,hh.2.out⟩))
  unfold wpOp;simp only[hj];exact ye.out hb
end
structure Ei (it : cg) : Prop where
 nm:it.name.size<=512
 lk:it.link.size<=512
 ch:it.chunks.length<=1048576
 rs: ∀r∈it.chunks,r.name.size<=32
 nd:it.node.name.size<=32
 tm:it.time<9223372036854775808
theorem zh {r:cy} (h:r.name.size<=32):(ff r).length<=60:=by
 unfold ff;have h1:=dt r.gen.toNat
 have h2:=dt r.size.toNat
 rw[an,an,<-bh];omega
theorem Ex {it:cg} (h:Ei it):(fu it).length<=70000000:=by
 have h1:=dt it.name.size;have h2:=dt it.kind.toNat
 have h3:=dt it.mode.toNat
 have h4:=dt it.time.toNat
 have h5:=dt it.chunks.length;have h6:=dt it.link.size;have h7:=mz ff 60 it.chunks (fun r hr=>zh (h.rs r hr));have h8:=zh h.nd;have hn:=h.nm;have hl:=h.lk;have hc:=h.ch;unfold fu kh;simp only[an,<-bh]
 split
 ·simp only[an];omega
 ·split
  ·omega
  ·simp only[an,<-bh];omega
theorem Mk {l:List cg} (h: ∀it∈l,Ei it) (hl:l.length<=4096):(fO l).length<1000000000000:=by
 have h1:=mz fu 70000000 l (fun it ha=>Ex (h it ha));have h2:=dt l.length;unfold fO;rw[an];have h3:l.length*70000000<=4096*70000000:=cY _ hl;omega
theorem CR (d p:List UInt8):(mC d p).length<=p.length:=by
 unfold mC
 split
 ·rw[List.length_tail,bw]; omega
 ·rw[bw]; omega
theorem mf {e:dl} (h:ig e=true):e.path.size<=512/\e.link.size<=512/\e.data.length<=1048576:=by
 have h1:=nw (dm h);rw[<-bh]at h1;unfold ig kX at h;rw[aI]at h;refine⟨h1, ?_⟩;have h2:=h.2
 split at h2
 ·simp only[aI,aL]at h2;omega
 ·split at h2
  ·simp only[aI,aL]at h2;omega
  ·split at h2
   ·simp only[aI,aL,oR]at h2;have:=h2.2.1.2;rw[<-bh]at this;omega
   ·cases h2
theorem qH (k:dh) (gs:List (ByteArray×Int)) (x:List UInt8):(bA k gs x).name.size=32:=kr _ _ _
theorem pF {k:dh} {gs:List (ByteArray×Int)} {c:fN} {dir:ByteArray} {e:dl} {nd:cy} (hc:jG c=true) (h:ig e=true) (hok:mN e) (hn:nd.name.size<=32):Ei (cS k gs c dir e nd):=by
 obtain⟨h1,h2,h3⟩:=mf h;have h4:=CR (bl dir) (bl e.path);rw[<-bh e.path]at h4;refine⟨?_,h2, ?_, ?_, ?_, ?_⟩
 ·show ByteArray.size ⟨_⟩<=_
  simp only[ByteArray.size,bR];omega
 ·show(if e.kind=1 then(fZ c e.data).map (bA k gs)else []).length<=_
  split
  ·rw[aB];have:=AR hc e.data;omega
  ·simp
 ·show ∀r∈(if e.kind=1 then(fZ c e.data).map (bA k gs)else []),_
  intro r hr
  split at hr
  ·obtain⟨x,_,rfl⟩:=aS.1 hr;rw[qH]; omega
  ·simp at hr
 ·show(if e.kind=2 then nd else er).name.size<=32
  split
  ·exact hn
  ·decide
 ·have:=hok.tim;simp[Lit.wf,IntKind.min,IntKind.max,IntKind.signed,IntKind.bits]at this
  show e.time<_
  omega
theorem iK {k:dh} {gs:List (ByteArray×Int)} (hgs: ∀p∈gs,0<=p.2/\p.2<=1099511627776) {x:List UInt8} (hx:x.length<=1048576):dY (bA k gs x):=by
 have h1:=zY gs hgs (lS k 0 x);refine⟨by rw[qH]; unfold maxLen; omega,WalkArith.wf_i64 ?_,WalkArith.wf_i64 ?_⟩
 ·show _<=mA gs _/\mA gs _<=_
  omega
 ·show -9223372036854775808<=(x.length:Int)/\(x.length:Int)<=_
  omega
theorem Lz {k:dh} {gs:List (ByteArray×Int)} {c:fN} {tree:List dl} : ∀ {n:Nat} {d:ByteArray} {p:List UInt8×List (List UInt8)},gU k gs c tree n d= .ok p->p.1.length<=32768
 | 0,_,_,h=>by simp[gU]at h
 | n+1,d,p,h=>by
  rw[gU]at h
  split at h
  ·cases h
  ·split at h
   ·split at h
    ·simp only[dp]at h;subst h
     assumption
    ·cases h
   ·cases h
theorem zD {k:dh} {gs:List (ByteArray×Int)} {c:fN} {rec:ByteArray->Except Int (List UInt8×List (List UInt8))} {dir:ByteArray} {e:dl} {r:List dl} {its:List cg} {cs:List (List UInt8)} (h:e.kind=1):gX k gs c rec dir (e::r) its cs=gX k gs c rec dir r (its++[cS k gs c dir e er]) (cs++fZ c e.data):=by rw[gX,if_pos h]
theorem wX {k:dh} {gs:List (ByteArray×Int)} {c:fN} {rec:ByteArray->Except Int (List UInt8×List (List UInt8))} {dir:ByteArray} {e:dl} {r:List dl} {its:List cg} {cs:List (List UInt8)} (h:e.kind=2):gX k gs c rec dir (e::r) its cs=match rec e.path with
  | .error x=> .error x
  | .ok p=>gX k gs c rec dir r (its++[cS k gs c dir e (bA k gs p.1)]) (cs++p.2):=by
 rw[gX,if_neg (by omega),if_pos h]
 cases rec e.path<;> rfl
theorem Jm {k:dh} {gs:List (ByteArray×Int)} {c:fN} {rec:ByteArray->Except Int (List UInt8×List (List UInt8))} {dir:ByteArray} {e:dl} {r:List dl} {its:List cg} {cs:List (List UInt8)} (h1:e.kind≠1) (h:e.kind≠2):gX k gs c rec dir (e::r) its cs=gX k gs c rec dir r (its++[cS k gs c dir e er]) cs:=by rw[gX,if_neg h1,if_neg h]
theorem LA {base bb kb im:Nat} {k:dh} {c:fN} {gs:List (ByteArray×Int)} {tree:List dl} {gv:Value} {UR:List cy} (n:Nat) (hX:KM base bb kb im k c gs tree UR) (hn514:n+1<=514) (IH:Nx base bb kb im k c gs tree gv UR n):Nx base bb kb im k c gs tree gv UR (n+1):=by
 intro path v bs w hn hp h hg y6 hu hE hd;have hf:=am hX;have YG:=am IH;have YI:=am hp;have HH:=am h;have HG:=am hg;have YF:=am y6;have HU:=am hu;have HE:=am hE;have Y9:path.size<=512:=by
  rcases hp with h | ⟨e,he,rfl⟩
  ·omega
  ·have:=nw (dm (hX.val e he));rw[<-bh]at this;exact this
 obtain⟨W0,HW⟩: ∃W0,W0=w.alloc (.cells #[.string ⟨#[]⟩, .int .i64 0, .int .i64 0] 26):=⟨_,rfl⟩;have H1:Below w.heap.size w W0:=by rw[HW]; exact eK
 have Hk:=jh.ofBelow (bb:=bb) (kb:=kb) (v:=v) H1 hd;obtain⟨ev,ys,YT,Yd,Hm,Hj⟩:=LN (y6.keep h Hk hX.ikb) (d:=path) (by unfold maxLen; omega);obtain⟨ea,ec,YR,YQ,YP⟩:=aH Hm;subst YR;unfold maxLen at YP;obtain⟨m,hm⟩: ∃m,m=ys.length:=⟨_,rfl⟩;have Hg:=am (show Ef w base bb im kb k c gv v (.slice ea m ec) ys W0 v (.slice none 0 0) bs []from⟨h.below H1,Hk,lx.nil _ _,by rw[hm]; exact Hm,by rw[HW]; exact dZ w _⟩)
 rw[<-hm]at YT YQ;have HM:=am hm;have Yo:=am Yd;have H6:=am (show ∀y∈ys,eH (· <base) w y.1 y.2.data/\mN y.2 from fun y hy=>⟨cC.same (Hj y hy).1 (fun i hi=>(H1.block i (aP hi hd)).symm),(Hj y hy).2⟩);have hw:=am Hg.o.bd.box;have Y7:m<=4096:=by
  rw[hm,<-aB (f:=Prod.snd),Yd];exact ay (dH _ _) hX.len
 have k0:=az (k:=0) hw.o;have k1:=az (k:=1) hw.o;have k2:=az (k:=2) hw.o;have k3:=az (k:=3) hw.o;have k4:=az (k:=4) hw.o;have k10:=az (k:=10) hw.o;have k11:=az (k:=11) hw.o;have k12:=az (k:=12) hw.o;have k13:=az (k:=13) hw.o;simp only[mV,eC,fU,aK,aJ,ai,aj,ah]at k0 k1 k2 k3 k4 k10 k11 k12 k13
 clear hX IH hp h hg y6 hu hE Hm Hj Yd hm H1 Hk
 go_enter Tryz.func73,Tryz.ntmps73
 go_upto_region 2 with(fail)
 rw[<-HW];clear HW;go_wp2_with fail
 go_loopw [6,20] (fun iv i wr=> ∃(j:Nat) (v2:Value) (its:List cg) (cs2:List (List UInt8)),j<=m/\i= .int .i64 (j:Int)/\its.length=j/\gX k gs c (gU k gs c tree n) path ((gV tree path).drop j) its cs2=gX k gs c (gU k gs c tree n) path (gV tree path) [] []/\Ga UR (dB k gs cs2 bs)/\(∀it∈its,Ei it)/\Ef w base bb im kb k c gv v (.slice ea m ec) ys wr v2 iv (dB k gs cs2 bs) its) (fun _ i _=>m-(intOf i).toNat)
 case atStart=>exact⟨0,v,[],[],aW _,rfl,rfl,rfl,HU.o,by simp,Hg.o⟩
 case round=>
  obtain⟨j,v2,its,cs2,hj,rfl,y8,Yv,Yu,Yy,y7⟩:=hrel;have Hi:=am y8;have Hq:=am Yv;have Ho:=am Yu;have HA:=am Yy;have hD:=am y7;obtain⟨zs,Yg,Yf,YB⟩:=y7.its.row;obtain⟨ia,ic,YS,-,-⟩:=aH Yf;subst YS;have Ye:zs.length=j:=by rw[<-y8,<-Yg,aB]
  have Y1:=am Yg;have HT:=am Yf;have YZ:=am YB;rw[Ye]at hD HT ⊢;have Y0:=am Ye;clear y8 Yv Yu Yy y7 Yg Yf YB Ye Hg hw
  by_cases YU:j<m
  ·obtain⟨⟨dv,e⟩,hy⟩: ∃y,ys[j]? =some y:=⟨ys[j]'(by rw[<-HM.o]; exact YU),by simp⟩;have y4:=H6.o (dv,e) (aQ hy);obtain⟨da,dc,Ys,Y5,Y4⟩:=eH.slice y4.1;simp only at Ys;subst Ys;obtain⟨b,rfl,Y2,Y3,-,p0,p1,p2,p3,p4,p5⟩:=Oo hD.o.ents hy;simp only at p0 p1 p2 p3 p4 p5;have HV:(gV tree path)[j]? =some e:=by rw[<-Yo.o,bn,hy]; rfl
   have Hl:=fg.1 (aQ HV);have y5:e∈tree:=Hl.1;have HL:cr (bl e.path)=bl path:=by have:=Hl.2; simpa using this
   have Hn:=hf.o.val e y5;have H2:=dm Hn;have Y6:e.path.size<=512:=by have:=nw H2; rw[<-bh]at this; exact this
   have Y8:path.size<e.path.size:=by
    have h1:=pO (l:=bl e.path) (fun h=>by have:=pY H2; rw[h]at this; simp at this);rw[HL,<-bh,<-bh]at h1;exact h1
   have H8:=am y5;have YX:=am H2;have HQ:=am Hn;have HP:=am y4;have YY:=am HV;have HO:=am (ze HV);have Yj:=am (ay hd hD.o.kp.below.size);clear y4 hy HV Hl y5 HL Hn H2
   go_upto_region 5 with(fail)
   obtain⟨W1,HB⟩: ∃W1:World,W1=(wr.alloc (.cells #[.string e.path, .int .i64 e.kind, .int .i64 e.mode, .int .i64 e.time, .slice da e.data.length dc, .string e.link] 79)).drew:=⟨_,rfl⟩;have Yp:Below wr.heap.size wr W1:=by rw[HB]; exact(eK).drew
   have YC:=am Yp;have HR:=am (show W1.heap[wr.heap.size]? =some (.cells #[.string e.path, .int .i64 e.kind, .int .i64 e.mode, .int .i64 e.time, .slice da e.data.length dc, .string e.link] 79 (0,0)) by rw[HB]; exact dZ wr _);have YA:W1.heap.size=wr.heap.size+1:=by rw[HB]; simp[World.drew]
   obtain⟨d0,d1,d2,d3,_⟩:=aU HR.o;have d5:=az (k:=5) HR.o;simp only[ai,aj,ah]at d5;clear p0 p1 p2 p3 p4 p5 Yp;refine ey (fun w'=>w'.cell? ⟨wr.heap.size,0,none⟩=some (.string e.path)/\w'.cell? ⟨wr.heap.size,1,none⟩=some (.int .i64 e.kind)/\w'.cell? ⟨wr.heap.size,2,none⟩=some (.int .i64 e.mode)/\w'.cell? ⟨wr.heap.size,3,none⟩=some (.int .i64 e.time)/\w'.cell? ⟨wr.heap.size,5,none⟩=some (.string e.link)) (by kernel_rfl) (by kernel_rfl) ?_
   simp only[br,bt,aD,bo,Nat.reduceAdd,Nat.reduceSub];rw[<-HB];clear HB
   iterate 3 (refine cA rfl (by kernel_rfl) (fun _ _ _ h=>h) rfl ⟨d0,d1,d2,d3,d5⟩ (by rintro w' ⟨hZ,h0,h2,h3,h4⟩; go_simp; rfl) ?_; simp only[Act.put,aa,ag,ab])
   refine bN 4 rfl (by kernel_rfl) (by kernel_rfl) (by kernel_rfl) (fun _ _ _ h=>h) rfl ⟨d0,d1,d2,d3,d5⟩ (by rintro w' ⟨hZ,h0,h2,h3,h4⟩; go_simp; rfl) ?_;simp only[Act.put,aa,ag,ab];refine bN 5 rfl (by kernel_rfl) (by kernel_rfl) (by kernel_rfl) (fun _ _ _ h=>h) rfl ⟨d0,d1,d2,d3,d5⟩ (by rintro w' ⟨hZ,h0,h2,h3,h4⟩; go_simp; rfl) ?_
   simp only[Act.put,aa,ag,ab];refine bN 6 rfl (by kernel_rfl) (by kernel_rfl) (by kernel_rfl) (fun _ _ _ h=>h) rfl ⟨d0,d1,d2,d3,d5⟩ (by rintro w' ⟨hZ,h0,h2,h3,h4⟩; go_simp; rfl) ?_;simp only[Act.put,aa,ag,ab];refine bN 7 rfl (by kernel_rfl) (by kernel_rfl) (by kernel_rfl) (fun _ _ _ h=>h) rfl ⟨d0,d1,d2,d3,d5⟩ (by rintro w' ⟨hZ,h0,h2,h3,h4⟩; go_simp; rfl) ?_
   simp only[Act.put,aa,ag,ab];refine bN 8 rfl (by kernel_rfl) (by kernel_rfl) (by kernel_rfl) (fun _ _ _ h=>h) rfl ⟨d0,d1,d2,d3,d5⟩ (by rintro w' ⟨hZ,h0,h2,h3,h4⟩; go_simp; rfl) ?_;simp only[Act.put,aa,ag,ab];refine bN 9 rfl (by kernel_rfl) (by kernel_rfl) (by kernel_rfl) (fun _ _ _ h=>h) rfl ⟨d0,d1,d2,d3,d5⟩ (by rintro w' ⟨hZ,h0,h2,h3,h4⟩; go_simp; rfl) ?_
   simp only[Act.put,aa,ag,ab];refine bN 10 rfl (by kernel_rfl) (by kernel_rfl) (by kernel_rfl) (fun _ _ _ h=>h) rfl ⟨d0,d1,d2,d3,d5⟩ (by rintro w' ⟨hZ,h0,h2,h3,h4⟩; go_simp; rfl) ?_;simp only[Act.put,aa,ag,ab];refine bN 11 rfl (by kernel_rfl) (by kernel_rfl) (by kernel_rfl) (fun _ _ _ h=>h) rfl ⟨d0,d1,d2,d3,d5⟩ (by rintro w' ⟨hZ,h0,h2,h3,h4⟩; go_simp; rfl) ?_
   simp only[Act.put,aa,ag,ab];obtain⟨W2,HZ⟩: ∃W2:World,W2=W1.alloc (.cells #[.string ⟨#[]⟩, .int .i64 0, .int .i64 0, .int .i64 0, .int .i64 0, .string ⟨#[]⟩, .slice none 0 0, .string ⟨#[]⟩, .int .i64 0, .int .i64 0] 28):=⟨_,rfl⟩;have yn:Below W1.heap.size W1 W2:=by rw[HZ]; exact eK
   have H3:=dX yn HR.o;have Yz:W2.heap[wr.heap.size+1]? =some (.cells #[.string ⟨#[]⟩, .int .i64 0, .int .i64 0, .int .i64 0, .int .i64 0, .string ⟨#[]⟩, .slice none 0 0, .string ⟨#[]⟩, .int .i64 0, .int .i64 0] 28 (0,0)):=by rw[HZ,<-YA]; exact dZ W1 _
   have Ym:=am H3;have HS:=am Yz;have YD:=am (ar YC.o yn);have Yl:=am HZ;obtain⟨nm,Yx⟩: ∃nm:ByteArray,nm=⟨(mC (bl path) (bl e.path)).toArray⟩:=⟨_,rfl⟩;have Hu:=am Yx;obtain⟨d0',d1',d2',d3',_⟩:=aU H3;have d5':=az (k:=5) H3;simp only[ai,aj,ah]at d5';clear HZ yn H3 Yz Yx
   refine wO 3 13 rfl rfl (by kernel_rfl) rfl rfl (fun K hK=> ?ca) (fun K hK=> ?al)
   case' ca=>
    go_wp2_with fail;refine(Db path e.path W1 (by omega)).mono ?_;rintro e' w' ⟨rfl,rfl⟩;rw[<-Hu.o];go_wp2_with fail;refine⟨⟨d0,d1,d2,d3,d5⟩, ?_⟩;refine bN 12 rfl (by kernel_rfl) (by kernel_rfl) (by kernel_rfl) (fun _ _ _ h=>h) rfl ⟨d0,d1,d2,d3,d5⟩ (by rintro w' ⟨hZ,h0,h2,h3,h4⟩; go_simp; rfl) ?_;simp only[Act.put,aa,ag,ab]
    refine cn 13 rfl (fun K hK=> ?_);go_wp2_with fail;rw[<-Yl.o]
    (first | (refine⟨⟨d0',d1',d2',d3',d5'⟩, ?_⟩) | skip)
   case' al=>
    go_wp2_with fail;rw[<-Yl.o]
    (first | (refine⟨⟨d0',d1',d2',d3',d5'⟩, ?_⟩) | skip)
    refine cn 3 rfl (fun K hK=> ?_);go_wp2_with fail;refine(Db path e.path W2 (by omega)).mono ?_;rintro e' w' ⟨rfl,rfl⟩;rw[<-Hu.o];go_wp2_with fail;refine⟨⟨d0',d1',d2',d3',d5'⟩, ?_⟩;refine bN 12 rfl (by kernel_rfl) (by kernel_rfl) (by kernel_rfl) (fun _ _ _ h=>h) rfl ⟨d0',d1',d2',d3',d5'⟩ (by rintro w' ⟨hZ,h0,h2,h3,h4⟩; go_simp; rfl) ?_;simp only[Act.put,aa,ag,ab]
   all_goals
    refine cE (by kernel_rfl) ?_;clear d0 d1 d2 d3 d5 d0' d1' d2' d3' d5' HR;refine eD rfl rfl (fun K hK=> ?_);obtain⟨i0,i1,i2,i3,i4,i5,i6,i7,i8,i9,_⟩:=aU HS.o;obtain⟨g0,g1,g2,g3,g4,g5,g6,g7,g8,g9,_⟩:=gG HS.o
    go_upto_region 6 with(fail)
    obtain⟨W3,HC⟩: ∃W3:World,W3=((((((((((W2.setCell ⟨wr.heap.size+1,0,none⟩ (.string nm)).setCell ⟨wr.heap.size+1,1,none⟩ (.int .i64 e.kind)).setCell ⟨wr.heap.size+1,2,none⟩ (.int .i64 e.mode)).setCell ⟨wr.heap.size+1,3,none⟩ (.int .i64 e.time)).setCell ⟨wr.heap.size+1,4,none⟩ (.int .i64 0)).setCell ⟨wr.heap.size+1,5,none⟩ (.string e.link)).setCell ⟨wr.heap.size+1,6,none⟩ (.slice none 0 0)).setCell ⟨wr.heap.size+1,7,none⟩ (.string ⟨#[]⟩)).setCell ⟨wr.heap.size+1,8,none⟩ (.int .i64 0)).setCell ⟨wr.heap.size+1,9,none⟩ (.int .i64 0)):=⟨_,rfl⟩
    rw[<-HC];have Yi:=am (show Below wr.heap.size wr W3 by rw[HC]; exact ji YD.o (by show wr.heap.size<=wr.heap.size+1; omega));have HX:=am (show W3.heap[wr.heap.size]? =some (.cells #[.string e.path, .int .i64 e.kind, .int .i64 e.mode, .int .i64 e.time, .slice da e.data.length dc, .string e.link] 79 (0,0)) by rw[HC]; exact(pE (show wr.heap.size≠wr.heap.size+1 by omega)).trans Ym.o)
    have HY:=am (show W3.heap[wr.heap.size+1]? =some (.cells #[.string nm, .int .i64 e.kind, .int .i64 e.mode, .int .i64 e.time, .int .i64 0, .string e.link, .slice none 0 0, .string ⟨#[]⟩, .int .i64 0, .int .i64 0] 28 (0,0)) by rw[HC]; exact Ig HS.o);have hz:=am (hD.o.below Yi.o Yj.o);have za:wr.heap.size+1<W3.heap.size:=aw HY.o;clear HC i0 i1 i2 i3 i4 i5 i6 i7 i8 i9 g0 g1 g2 g3 g4 g5 g6 g7 g8 g9 YA Ym HS
    obtain⟨d0,d1,_⟩:=aU HX.o;have d4:=az (k:=4) HX.o;simp only[ai,aj,ah]at d4;obtain⟨i0,i1,i2,i3,i4,i5,i6,i7,i8,i9,_⟩:=aU HY.o;obtain⟨g0,g1,g2,g3,g4,g5,g6,g7,g8,g9,_⟩:=gG HY.o
    by_cases Hp:e.kind=1
    ·have e1:(e.kind == 1)=true:=by simp[Hp]
     have hL:=am Hp;clear Hp
     go_upto_region 10 with(fail)
     obtain⟨W4,HD⟩: ∃W4:World,W4=W3.setCell ⟨wr.heap.size+1,4,none⟩ (.int .i64 (e.data.length:Int)):=⟨_,rfl⟩;rw[<-HD];have Yq:Below wr.heap.size wr W4:=by rw[HD]; exact cw Yi.o (by show wr.heap.size<=wr.heap.size+1; omega) _
     have yc:=am (show W4.heap[wr.heap.size]? =some (.cells #[.string e.path, .int .i64 e.kind, .int .i64 e.mode, .int .i64 e.time, .slice da e.data.length dc, .string e.link] 79 (0,0)) by rw[HD]; exact(aC _ _ _ _ (by show wr.heap.size≠wr.heap.size+1; omega)).trans HX.o);have H4:=jb (k:=4) HY.o (.int .i64 (e.data.length:Int));simp only[aa,ag,ab]at H4
     rw[<-HD]at H4;have YN:=am H4;have hB:=am (hD.o.below Yq Yj.o);have Yr:=(mf HQ.o).2.2;have Yb:=Ho.o.len hD.o.bd;have Yc:=hf.o.usz;have YO:=AR hf.o.cut e.data;have Yt:=It (· <base) base bb kb im k c gs gv v2 (.slice da e.data.length dc) (dB k gs cs2 bs) e.data W4 hB.o.bd hf.o.keys hf.o.cut hf.o.seed (HG.o.keep (fun i h1 _=>hB.o.kp.below.block i h1)) hf.o.gens
      (pA HP.o.1 hB.o.kp.below) Yr (HE.o.keep hB.o.kp.below hf.o.seven) hf.o.bbb hf.o.bkb (ay hd hB.o.kp.below.size) hf.o.seven (by omega)
     have YE:=am Yt;clear HD Yq H4 Yr Yb Yc YO Yt d0 d1 d4 i0 i1 i2 i3 i4 i5 i6 i7 i8 i9 g0 g1 g2 g3 g4 g5 g6 g7 g8 g9;obtain⟨d0,d1,_⟩:=aU yc.o;have d4:=az (k:=4) yc.o;simp only[ai,aj,ah]at d4;go_wp2_with fail;refine YE.o.mono ?_;rintro e' w5 ⟨rv,v5,rfl,h9,hI,hA⟩;obtain⟨ra,rc,rfl,-,-⟩:=aH h9
     have ha:=am (hB.o.step hI hA);have hk:=hA.blk hB.o.bd YN.o (by decide) (by decide);have YV:=hA.blk hB.o.bd yc.o (by decide) (by decide);obtain⟨rn,Ya⟩: ∃rn,rn=((fZ c e.data).map (bA k gs)).length:=⟨_,rfl⟩;have YJ:=am Ya;rw[<-Ya]at h9 ⊢;have i6:=az (k:=6) hk;have g6:=dw (k:=6) hk;simp only[ai,aj,ah]at i6
     have Hy:=am h9;have yl:=am hk;clear hI hA YV hk Ya h9 d0 d1 d4
     go_upto_region 15 with(fail)
     obtain⟨W6,hH⟩: ∃W6:World,W6=w5.setCell ⟨wr.heap.size+1,6,none⟩ (.slice ra rn rc):=⟨_,rfl⟩;rw[<-hH];have H5:=jb (k:=6) yl.o (.slice ra rn rc);simp only[aa,ag,ab]at H5;rw[<-hH]at H5;have hF:=am (show Ef w base bb im kb k c gv v (.slice (some ⟨b,0,none⟩) m ec) ys W6 v5 (.slice ia j ic) (dB k gs (fZ c e.data) (dB k gs cs2 bs)) its by
      rw[hH];exact ha.o.otherSet yl.o (by decide) (by decide) (by decide) (by decide) (by decide) (fun e'=>by have:=(HT.o.lt _ e').2; omega) (by have:=hD.o.kp.below.size; omega) hd)
     have Hz:=am (show W6.ownsRow w.heap.size 26 3 (.slice ra rn rc) rn (((fZ c e.data).map (bA k gs)).flatMap jg) by
      rw[hH];have y9:=hB.o.kp.below.size;refine(gA Hy.o y9).kept (cG _ _ _ _) (.inr (fun e'=> ?_));obtain⟨cs2',yp⟩:=bI Hy.o e';exact absurd (bU yl.o yp) (by decide))
     clear i6 g6;obtain⟨it,hs⟩: ∃it,it=cS k gs c path e er:=⟨_,rfl⟩;have hV:it.chunks=(fZ c e.data).map (bA k gs):=by rw[hs]; unfold cS; simp only[if_pos hL.o]
     have Hc:=am (show W6.heap[wr.heap.size+1]? =some (.cells #[.string it.name, .int .i64 it.kind, .int .i64 it.mode, .int .i64 it.time, .int .i64 it.size, .string it.link, .slice ra rn rc, .string it.node.name, .int .i64 it.node.gen, .int .i64 it.node.size] 28 (0,0)) by
      rw[H5,Hu.o,hs];unfold cS;simp only[if_pos hL.o,if_neg (show ¬e.kind=2 by rw[hL.o]; decide)]
      rfl)
     have hO:=am (show W6.ownsRow w.heap.size 26 3 (.slice ra rn rc) it.chunks.length (it.chunks.flatMap jg) by rw[hV,<-YJ.o]; exact Hz.o);have hP:=am (show Ei it by rw[hs]; exact pF hf.o.cut HQ.o HP.o.2 (by decide));have hM:=am (show iw it from⟨by have:=hP.o.nm; unfold maxLen; omega,by have:=hP.o.lk; unfold maxLen; omega,by rw[hs]; unfold cS; simp only[if_neg (show ¬e.kind=2 by rw[hL.o]; decide)]; exact nN⟩)
     have hN:=am (show ∀r∈it.chunks,dY r by
      rw[hV];intro r hr;obtain⟨x,hx,rfl⟩:=aS.1 hr;have:=(AU hf.o.cut e.data x hx).2;exact iK hf.o.gens (by omega))
     have Hr:=am (show gX k gs c (gU k gs c tree n) path (e::(gV tree path).drop (j+1)) its cs2=gX k gs c (gU k gs c tree n) path ((gV tree path).drop (j+1)) (its++[it]) (cs2++fZ c e.data) by rw[hs]; exact zD hL.o);have hJ:=am (show Ga UR (dB k gs (cs2++fZ c e.data) bs) by rw[jt]; exact Ho.o.puts (hf.o.u1 e H8.o));rw[<-jt]at hF
     clear hs hV HY hH H5;obtain⟨zs4,hq,hh,hG⟩:=hF.o.its.row;have ho:zs4.length=j:=by rw[<-Hi.o,<-hq,aB]
     have hU:=am hq;have hS:=am hh;have hQ:=am hG;have hR:=am ho;have HN:w.heap.size<=(W6).heap.size:=hF.o.kp.below.size;have HJ:j<1099511627775:=by omega
     rw[ho]at hh;have hT:=am hh;clear hq hh hG ho;obtain⟨i0,i1,i2,i3,i4,i5,i6,i7,i8,i9,_⟩:=aU Hc.o;obtain⟨g0,g1,g2,g3,g4,g5,g6,g7,g8,g9,_⟩:=gG Hc.o;go_wp2_with (at_builtin; go_must (refine bO Tryz.appItems rfl _ _ rfl w.heap.size (.slice ia j ic) j (pG zs4) rfl (W6) [.string it.name, .int .i64 it.kind, .int .i64 it.mode, .int .i64 it.time, .int .i64 it.size, .string it.link, .slice ra rn rc, .string it.node.name, .int .i64 it.node.gen, .int .i64 it.node.size] _ rfl rfl (kC (it:=it)) hT.o HJ HN ?_); intro v' wc hc hb _ _; obtain⟨ae,ce,rfl,-,-⟩:=aH hc; have Hv:=am (hF.o.push (it:=it) hU.o hS.o hQ.o (by rw[hR.o]; exact hc) hb hO.o hM.o hN.o hd); clear hc hb)
     clear i0 i1 i2 i3 i4 i5 i6 i7 i8 i9 g0 g1 g2 g3 g4 g5 g6 g7 g8 g9
     go_roundw
     case rel=>exact⟨j+1,_,its++[it],(cs2++fZ c e.data),by omega,by go_num,by simp[Hi.o],by rw[<-Hq.o,HO.o,Hr.o],hJ.o,fun y hy=>by
      rcases aT.1 hy with hy | hy
      ·exact HA.o y hy
      ·rw[aM]at hy; subst hy; exact hP.o,Hv.o⟩
     case measure=>simp[intOf]; omega
    ·have e1:(e.kind == 1)=false:=by simp[Hp]
     have hL:=am Hp;clear Hp
     by_cases hY:e.kind=2
     ·have e2:(e.kind == 2)=true:=by simp[hY]
      have Hb:=am hY;have Hf:=YG.o e.path v2 (dB k gs cs2 bs) W3 (by omega) (.inr ⟨e,H8.o,rfl⟩) hz.o.bd (HG.o.keep (fun i h1 _=>hz.o.kp.below.block i h1)) (YF.o.keep HH.o hz.o.kp hf.o.ikb) Ho.o (HE.o.keep hz.o.kp.below hf.o.seven) (ay hd hz.o.kp.below.size);unfold AA at Hf;clear hY
      cases He:gU k gs c tree n e.path with
      | error x=>
       rw[He]at Hf;have Hw:=am Hf;have Hx:=am (show gX k gs c (gU k gs c tree n) path (gV tree path) [] []= .error x by rw[<-Hq.o,HO.o,wX Hb.o,He]);clear Hf He;go_wp2_with fail;refine Hw.o.mono ?_;rintro e' w5 ⟨rfl,hx,v5,bs5,hI,hA⟩;have ha:=am (hz.o.step hI hA);have e4:(x != 0)=true:=by simp[hx]
       have YM:=am hx;clear hx d0 d1 d4 i0 i1 i2 i3 i4 i5 i6 i7 i8 i9 g0 g1 g2 g3 g4 g5 g6 g7 g8 g9;have hk:=hA.blk hz.o.bd HY.o (by decide) (by decide);have h8:(Value.slice ia j ic).ownBlock≠some (wr.heap.size+1):=fun e'=>by have:=(HT.o.lt _ e').2; omega
       have h7:w.heap.size<=wr.heap.size+1:=by have:=hD.o.kp.below.size; omega
       have a1:=ha.o.otherSet (q:=7) (u:= .string ⟨#[]⟩) hk (by decide) (by decide) (by decide) (by decide) (by decide) h8 h7 hd;have y1:=jb (k:=7) hk (.string ⟨#[]⟩);have a2:=a1.otherSet (q:=8) (u:= .int .i64 0) y1 (by decide) (by decide) (by decide) (by decide) (by decide) h8 h7 hd;have y2:=jb (k:=8) y1 (.int .i64 0);have a3:=a2.otherSet (q:=9) (u:= .int .i64 0) y2 (by decide) (by decide) (by decide) (by decide) (by decide) h8 h7 hd
       have y3:=jb (k:=9) y2 (.int .i64 0);simp only[aa,ag,ab]at y3;have i7:=az (k:=7) hk;have i8:=az (k:=8) hk;have i9:=az (k:=9) hk;have g7:=dw (k:=7) hk;have g8:=dw (k:=8) hk;have g9:=dw (k:=9) hk;simp only[ai,aj,ah]at i7 i8 i9
       obtain⟨W6,hH⟩: ∃W6:World,W6=((w5.setCell ⟨wr.heap.size+1,7,none⟩ (.string ⟨#[]⟩)).setCell ⟨wr.heap.size+1,8,none⟩ (.int .i64 0)).setCell ⟨wr.heap.size+1,9,none⟩ (.int .i64 0):=⟨_,rfl⟩;rw[<-hH]at a3 y3;have hF:=am a3;have Yn:=am y3;clear a1 y1 a2 y2 a3 y3 hk h8 h7
       go_upto_region 13 with(fail)
       rw[<-hH];clear hH i7 i8 i9 g7 g8 g9;have hC:=am hF.o.res;obtain⟨z0,z1,z2,_⟩:=aU hC.o;obtain⟨y0,y1,y2,_⟩:=gG hC.o;go_wp2_with fail;refine vH hC.o rfl rfl rfl ?_;have Ha:=am (show gU k gs c tree (n+1) path= .error x by rw[gU,Hx.o]);rw[Ha.o];exact⟨rfl,YM.o,v5,bs5,hF.o.bd.other hC.o (by decide) (by decide) (by decide) (fun i hi _=>ed hi),((hF.o.kp.setNew (ak _) hd).setNew (ak _) hd).setNew (ak _) hd⟩
      | ok p=>
       rw[He]at Hf
       dsimp only at Hf
       have Hw:=am Hf;have Hs:=am (show gX k gs c (gU k gs c tree n) path (e::(gV tree path).drop (j+1)) its cs2=gX k gs c (gU k gs c tree n) path ((gV tree path).drop (j+1)) (its++[cS k gs c path e (bA k gs p.1)]) (cs2++p.2) by rw[wX Hb.o,He]);have H7:=am (Lz He);have YW:=am (hf.o.u2 n e.path p (by omega) (.inr ⟨e,H8.o,rfl⟩) He)
       obtain⟨r,hr⟩: ∃r,r=bA k gs p.1:=⟨_,rfl⟩;have Yk:=am hr;have YK:=am (show dY r by rw[hr]; exact iK hf.o.gens (by have:=H7.o; omega));have yb:=am (show r.name.size=32 by rw[hr]; exact qH _ _ _);rw[<-hr]at Hw Hs;unfold ef at Hw;clear Hf He hr;go_wp2_with fail;refine Hw.o.mono ?_;rintro e' w5 ⟨rfl,HI,v5,hI,hA⟩;have H9:=am HI
       have ha:=am (hz.o.step hI hA);clear HI d0 d1 d4 i0 i1 i2 i3 i4 i5 i6 i7 i8 i9 g0 g1 g2 g3 g4 g5 g6 g7 g8 g9;have hk:=hA.blk hz.o.bd HY.o (by decide) (by decide);have h8:(Value.slice ia j ic).ownBlock≠some (wr.heap.size+1):=fun e'=>by have:=(HT.o.lt _ e').2; omega
       have h7:w.heap.size<=wr.heap.size+1:=by have:=hD.o.kp.below.size; omega
       have a1:=ha.o.otherSet (q:=7) (u:= .string r.name) hk (by decide) (by decide) (by decide) (by decide) (by decide) h8 h7 hd;have y1:=jb (k:=7) hk (.string r.name);have a2:=a1.otherSet (q:=8) (u:= .int .i64 r.gen) y1 (by decide) (by decide) (by decide) (by decide) (by decide) h8 h7 hd;have y2:=jb (k:=8) y1 (.int .i64 r.gen);have a3:=a2.otherSet (q:=9) (u:= .int .i64 r.size) y2 (by decide) (by decide) (by decide) (by decide) (by decide) h8 h7 hd
       have y3:=jb (k:=9) y2 (.int .i64 r.size);simp only[aa,ag,ab]at y3;have i7:=az (k:=7) hk;have i8:=az (k:=8) hk;have i9:=az (k:=9) hk;have g7:=dw (k:=7) hk;have g8:=dw (k:=8) hk;have g9:=dw (k:=9) hk;simp only[ai,aj,ah]at i7 i8 i9
       obtain⟨W6,hH⟩: ∃W6:World,W6=((w5.setCell ⟨wr.heap.size+1,7,none⟩ (.string r.name)).setCell ⟨wr.heap.size+1,8,none⟩ (.int .i64 r.gen)).setCell ⟨wr.heap.size+1,9,none⟩ (.int .i64 r.size):=⟨_,rfl⟩;rw[<-hH]at a3 y3;have hF:=am a3;have Yn:=am y3;clear a1 y1 a2 y2 a3 y3 hk h8 h7
       go_upto_region 13 with(fail)
       rw[<-hH];clear hH i7 i8 i9 g7 g8 g9
       go_upto_region 15 with(fail)
       obtain⟨it,hs⟩: ∃it,it=cS k gs c path e r:=⟨_,rfl⟩;have hV:it.chunks=[]:=by rw[hs]; unfold cS; simp only[if_neg hL.o]
       have Hc:=am (show W6.heap[wr.heap.size+1]? =some (.cells #[.string it.name, .int .i64 it.kind, .int .i64 it.mode, .int .i64 it.time, .int .i64 it.size, .string it.link, .slice none 0 0, .string it.node.name, .int .i64 it.node.gen, .int .i64 it.node.size] 28 (0,0)) by
        rw[Yn.o,Hu.o,hs];unfold cS;simp only[if_neg hL.o,if_pos Hb.o])
       have hO:=am (show W6.ownsRow w.heap.size 26 3 (.slice none 0 0) it.chunks.length (it.chunks.flatMap jg) by rw[hV]; exact bM _ _ _ _);have hP:=am (show Ei it by rw[hs]; exact pF hf.o.cut HQ.o HP.o.2 (by rw[yb.o]; decide));have hM:=am (show iw it from⟨by have:=hP.o.nm; unfold maxLen; omega,by have:=hP.o.lk; unfold maxLen; omega,by rw[hs]; unfold cS; simp only[if_pos Hb.o]; exact YK.o⟩)
       have hN:=am (show ∀r∈it.chunks,dY r by rw[hV]; simp);have Hr:=am (show gX k gs c (gU k gs c tree n) path (e::(gV tree path).drop (j+1)) its cs2=gX k gs c (gU k gs c tree n) path ((gV tree path).drop (j+1)) (its++[it]) (cs2++p.2) by rw[hs]; exact Hs.o);have hJ:=am (show Ga UR (dB k gs (cs2++p.2) bs) by rw[jt]; exact H9.o)
       rw[<-jt]at hF;clear hs hV;obtain⟨zs4,hq,hh,hG⟩:=hF.o.its.row;have ho:zs4.length=j:=by rw[<-Hi.o,<-hq,aB]
       have hU:=am hq;have hS:=am hh;have hQ:=am hG;have hR:=am ho;have HN:w.heap.size<=(W6).heap.size:=hF.o.kp.below.size;have HJ:j<1099511627775:=by omega
       rw[ho]at hh;have hT:=am hh;clear hq hh hG ho;obtain⟨i0,i1,i2,i3,i4,i5,i6,i7,i8,i9,_⟩:=aU Hc.o;obtain⟨g0,g1,g2,g3,g4,g5,g6,g7,g8,g9,_⟩:=gG Hc.o;go_wp2_with (at_builtin; go_must (refine bO Tryz.appItems rfl _ _ rfl w.heap.size (.slice ia j ic) j (pG zs4) rfl (W6) [.string it.name, .int .i64 it.kind, .int .i64 it.mode, .int .i64 it.time, .int .i64 it.size, .string it.link, .slice none 0 0, .string it.node.name, .int .i64 it.node.gen, .int .i64 it.node.size] _ rfl rfl (kC (it:=it)) hT.o HJ HN ?_); intro v' wc hc hb _ _; obtain⟨ae,ce,rfl,-,-⟩:=aH hc; have Hv:=am (hF.o.push (it:=it) hU.o hS.o hQ.o (by rw[hR.o]; exact hc) hb hO.o hM.o hN.o hd); clear hc hb)
       clear i0 i1 i2 i3 i4 i5 i6 i7 i8 i9 g0 g1 g2 g3 g4 g5 g6 g7 g8 g9
       go_roundw
       case rel=>exact⟨j+1,_,its++[it],(cs2++p.2),by omega,by go_num,by simp[Hi.o],by rw[<-Hq.o,HO.o,Hr.o],hJ.o,fun y hy=>by
        rcases aT.1 hy with hy | hy
        ·exact HA.o y hy
        ·rw[aM]at hy; subst hy; exact hP.o,Hv.o⟩
       case measure=>simp[intOf]; omega
     ·have e2:(e.kind == 2)=false:=by simp[hY]
      have Hb:=am hY;clear hY
      go_upto_region 15 with(fail)
      clear i0 i1 i2 i3 i4 i5 i6 i7 i8 i9 g0 g1 g2 g3 g4 g5 g6 g7 g8 g9 d0 d1 d4;obtain⟨it,hs⟩: ∃it,it=cS k gs c path e er:=⟨_,rfl⟩;have hF:=hz;have Hc:=am (show W3.heap[wr.heap.size+1]? =some (.cells #[.string it.name, .int .i64 it.kind, .int .i64 it.mode, .int .i64 it.time, .int .i64 it.size, .string it.link, .slice none 0 0, .string it.node.name, .int .i64 it.node.gen, .int .i64 it.node.size] 28 (0,0)) by
       rw[HY.o,Hu.o,hs];unfold cS;simp only[if_neg hL.o,if_neg Hb.o]
       rfl)
      have hV:it.chunks=[]:=by rw[hs]; unfold cS; simp only[if_neg hL.o]
      have hO:=am (show W3.ownsRow w.heap.size 26 3 (.slice none 0 0) it.chunks.length (it.chunks.flatMap jg) by rw[hV]; exact bM _ _ _ _);have hP:=am (show Ei it by rw[hs]; exact pF hf.o.cut HQ.o HP.o.2 (by decide));have hM:=am (show iw it from⟨by have:=hP.o.nm; unfold maxLen; omega,by have:=hP.o.lk; unfold maxLen; omega,by rw[hs]; unfold cS; simp only[if_neg Hb.o]; exact nN⟩)
      have hN:=am (show ∀r∈it.chunks,dY r by rw[hV]; simp);have Hr:=am (show gX k gs c (gU k gs c tree n) path (e::(gV tree path).drop (j+1)) its cs2=gX k gs c (gU k gs c tree n) path ((gV tree path).drop (j+1)) (its++[it]) cs2 by rw[hs]; exact Jm hL.o Hb.o);have hJ:=Ho;clear hs hV HY;obtain⟨zs4,hq,hh,hG⟩:=hF.o.its.row;have ho:zs4.length=j:=by rw[<-Hi.o,<-hq,aB]
      have hU:=am hq;have hS:=am hh;have hQ:=am hG;have hR:=am ho;have HN:w.heap.size<=(W3).heap.size:=hF.o.kp.below.size;have HJ:j<1099511627775:=by omega
      rw[ho]at hh;have hT:=am hh;clear hq hh hG ho;obtain⟨i0,i1,i2,i3,i4,i5,i6,i7,i8,i9,_⟩:=aU Hc.o;obtain⟨g0,g1,g2,g3,g4,g5,g6,g7,g8,g9,_⟩:=gG Hc.o;go_wp2_with (at_builtin; go_must (refine bO Tryz.appItems rfl _ _ rfl w.heap.size (.slice ia j ic) j (pG zs4) rfl (W3) [.string it.name, .int .i64 it.kind, .int .i64 it.mode, .int .i64 it.time, .int .i64 it.size, .string it.link, .slice none 0 0, .string it.node.name, .int .i64 it.node.gen, .int .i64 it.node.size] _ rfl rfl (kC (it:=it)) hT.o HJ HN ?_); intro v' wc hc hb _ _; obtain⟨ae,ce,rfl,-,-⟩:=aH hc; have Hv:=am (hF.o.push (it:=it) hU.o hS.o hQ.o (by rw[hR.o]; exact hc) hb hO.o hM.o hN.o hd); clear hc hb)
      clear i0 i1 i2 i3 i4 i5 i6 i7 i8 i9 g0 g1 g2 g3 g4 g5 g6 g7 g8 g9
      go_roundw
      case rel=>exact⟨j+1,_,its++[it],cs2,by omega,by go_num,by simp[Hi.o],by rw[<-Hq.o,HO.o,Hr.o],hJ.o,fun y hy=>by
       rcases aT.1 hy with hy | hy
       ·exact HA.o y hy
       ·rw[aM]at hy; subst hy; exact hP.o,Hv.o⟩
      case measure=>simp[intOf]; omega
  ·have hY:j=m:=by omega
   have ya:=am (show gX k gs c (gU k gs c tree n) path (gV tree path) [] []= .ok (its,cs2) by
    rw[<-Hq.o,eV (by rw[<-Yo.o,aB,<-HM.o]; omega)]; rfl)
   have hW:=Da (fun _=>True) its (.slice ia j ic) wr hD.o.its.at (HE.o.keep hD.o.kp.below hf.o.seven).env (Mk HA.o (by rw[Hi.o]; omega)) (fun it hs=>(HA.o it hs).tm);unfold vP at hW
   by_cases hv:jy its=true
   ·simp only[if_pos hv]at hW
    by_cases hl:(fO its).length<=32768
    ·simp only[if_pos hl]at hW;have Ha:=am (show gU k gs c tree (n+1) path= .ok (fO its,cs2++[fO its]) by rw[gU,ya.o]; simp only[if_pos hv,if_pos hl]);have Ht:=am hW;have YL:=am (hf.o.u2 (n+1) path _ hn514 YI.o Ha.o);have YH:=am hl;clear hW hv hl hY;go_wp2_with fail;refine Ht.o.mono ?_;rintro e' w5 ⟨Hd,cv,rfl,yv⟩;obtain⟨ca,cc,rfl,-,-⟩:=aH yv
     have ha:=am (hD.o.below Hd (ay hd hD.o.kp.below.size));have Yb:=Ho.o.len hD.o.bd;have Yc:=hf.o.usz;have H0:=Gg (fun _=>True) base bb kb im k c gs gv v2 _ (dB k gs cs2 bs) (fO its) w5 ha.o.bd hf.o.keys (HG.o.keep (fun i h1 _=>ha.o.kp.below.block i h1)) hf.o.gens
      (cC.weak (cL yv) (fun _ _=>trivial)) YH.o (HE.o.keep ha.o.kp.below hf.o.seven) hf.o.bbb hf.o.bkb (ay hd ha.o.kp.below.size) hf.o.seven (by omega)
     unfold Ee ef at H0;obtain⟨r,hr⟩: ∃r,r=bA k gs (fO its):=⟨_,rfl⟩;rw[<-hr]at H0;have Yk:=am hr;have Yh:=am H0;obtain⟨nl,Yw⟩: ∃nl,nl=(fO its).length:=⟨_,rfl⟩;rw[<-Yw]at Yh ⊢;clear Hd yv Yb Yc H0 hr Yw;go_wp2_with fail;refine Yh.o.mono ?_;rintro e' w6 ⟨rfl,v6,HF,HK⟩;have Hh:=am (ha.o.step HF HK);have hC:=am Hh.o.res
     clear HF HK;obtain⟨z0,z1,z2,_⟩:=aU hC.o;obtain⟨y0,y1,y2,_⟩:=gG hC.o;go_wp2_with fail;refine vH hC.o rfl rfl rfl ?_;rw[Ha.o];refine⟨by rw[<-Yk.o]; rfl, ?_,v6, ?_, ?_⟩
     ·rw[jt];exact Ho.o.put YL.o
     ·rw[jt];exact Hh.o.bd.other hC.o (by decide) (by decide) (by decide) (fun i hi _=>ed hi)
     ·exact((Hh.o.kp.setNew (ak _) hd).setNew (ak _) hd).setNew (ak _) hd
    ·simp only[if_neg hl]at hW;have Ha:=am (show gU k gs c tree (n+1) path= .error 2 by rw[gU,ya.o]; simp only[if_pos hv,if_neg hl]);have Ht:=am hW;clear hW hv hl hY;go_wp2_with fail;refine Ht.o.mono ?_;rintro e' w5 ⟨Hd,rfl⟩;have ha:=am (hD.o.below Hd (ay hd hD.o.kp.below.size));have hC:=am ha.o.res;clear Hd;obtain⟨z0,z1,z2,_⟩:=aU hC.o
     obtain⟨y0,y1,y2,_⟩:=gG hC.o;go_wp2_with fail;refine vH hC.o rfl rfl rfl ?_;rw[Ha.o];exact⟨rfl,by decide,v2,_,ha.o.bd.other hC.o (by decide) (by decide) (by decide) (fun i hi _=>ed hi),((ha.o.kp.setNew (ak _) hd).setNew (ak _) hd).setNew (ak _) hd⟩
   ·simp only[if_neg hv]at hW;have Ha:=am (show gU k gs c tree (n+1) path= .error 1 by rw[gU,ya.o]; simp only[if_neg hv]);have hl:=hv;have Ht:=am hW;clear hW hv hl hY;go_wp2_with fail;refine Ht.o.mono ?_;rintro e' w5 ⟨Hd,rfl⟩;have ha:=am (hD.o.below Hd (ay hd hD.o.kp.below.size));have hC:=am ha.o.res;clear Hd;obtain⟨z0,z1,z2,_⟩:=aU hC.o
    obtain⟨y0,y1,y2,_⟩:=gG hC.o;go_wp2_with fail;refine vH hC.o rfl rfl rfl ?_;rw[Ha.o];exact⟨rfl,by decide,v2,_,ha.o.bd.other hC.o (by decide) (by decide) (by decide) (fun i hi _=>ed hi),((ha.o.kp.setNew (ak _) hd).setNew (ak _) hd).setNew (ak _) hd⟩
theorem AX {base bb kb im:Nat} {k:dh} {c:fN} {gs:List (ByteArray×Int)} {tree:List dl} {gv:Value} {UR:List cy} (hX:KM base bb kb im k c gs tree UR): ∀n,n<=514->Nx base bb kb im k c gs tree gv UR n
 | 0,_=>LB hX
 | n+1,h=>LA n hX h (AX hX n (by omega))
theorem fW.hitM {S:Nat->Prop} {w:World} {cv:Value} {cs:List (ByteArray×List UInt8)} (h:fW S w cv cs) {n:ByteArray} {bs:List UInt8} (hn:n.size<=maxLen) (hf:gE cs n=some bs):
  ∃v,(Instr.lookup 55 cv (.string n) true).run Tryz.prog w= .ok (.tuple #[v, .bool true]) w/\bH S w v bs:=by
 rcases h with⟨_,rfl⟩ | ⟨b,m,rfl,_,h2,h3⟩
 ·simp[gE]at hf
 ·obtain⟨v,hv,hb⟩:=h3.hit hf;exact⟨v,h2.hit uj (t:=55) (e:=29) (by kernel_rfl) (ui hn) hv true,hb⟩
theorem fW.missM {S:Nat->Prop} {w:World} {cv:Value} {cs:List (ByteArray×List UInt8)} (h:fW S w cv cs) {n:ByteArray} (hn:n.size<=maxLen) (hf:gE cs n=none):
  (Instr.lookup 55 cv (.string n) true).run Tryz.prog w= .ok (.tuple #[.slice none 0 0, .bool false]) w:=by
 obtain⟨l,hl⟩:=ui hn
 rcases h with⟨rfl,_⟩ | ⟨b,m,rfl,_,h2,h3⟩
 ·exact Maps.look_nil true uj (t:=55) (e:=29) (by kernel_rfl) (by kernel_rfl) hl
 ·exact h2.miss uj (t:=55) (e:=29) (by kernel_rfl) (by kernel_rfl) (ui hn) (h3.miss hf) true
def lq (cs:List (ByteArray×List UInt8)) (r:cy):Except Int (List cg):=match gh cs r with
 | .error x=>if x=10 then .ok []else .error x
 | .ok l=> .ok l
def NF (cs:List (ByteArray×List UInt8)) (r:cy) (w:World) (e:Ending) (w':World):Prop:=Below w.heap.size w w'/\match lq cs r with
 | .error x=>e= .returned (.tuple #[.slice none 0 0, .int .i64 x])/\x≠0
 | .ok l=> ∃v,e= .returned (.tuple #[v, .int .i64 0])/\ew (w.heap.size<= ·) w' v l
theorem Dn (S:Nat->Prop) (cv:Value) (cs:List (ByteArray×List UInt8)) (r:cy) (w:World) (hc:fW S w cv cs) (hr:dY r) (henv:nY w):Calls Tryz.prog 95 #[cv,ef r] w (NF cs r w):=by
 have HB:=am ((au w.heap.size w).alloc (ak _) (.cells #[.string r.name, .int .i64 r.gen, .int .i64 r.size] 26));have HC:=am (hc.below HB.o);have HR:=am hr;have HE:=am (henv.below HB.o);unfold ef;clear hc hr henv
 go_enter Tryz.func95,Tryz.ntmps95
 go_wp2_with fail;refine(tr S cv cs r _ HC.o HR.o HE.o).mono ?_;rintro e w1 ⟨hf,ha⟩;have he:=am (ar HB.o hf);have hz:=hf.size;simp at hz;clear hf
 cases hb:gh cs r with
 | error x=>
  rw[hb]at ha;obtain⟨rfl,hx⟩:=ha
  by_cases hd:x=10
  ·subst hd;have HN:=am (show lq cs r= .ok [] by unfold lq; rw[hb]; rfl);clear hb hx;go_wp2_with fail
   go_ret2
   exact⟨he.o,by rw[HN.o]; exact⟨_,rfl,cP.nil⟩⟩
  ·have HN:=am (show lq cs r= .error x by unfold lq; rw[hb]; simp only[if_neg hd]);have e1:(x == 10)=false:=by simp[hd]
   have HX:=am hx;clear hb hx hd;go_wp2_with fail
   go_ret2
   exact⟨he.o,by rw[HN.o]; exact⟨rfl,HX.o⟩⟩
 | ok l=>
  rw[hb]at ha;obtain⟨v,rfl,hv⟩:=ha;have HN:=am (show lq cs r= .ok l by unfold lq; rw[hb]);have HV:=am hv;have hh:=am (show ew (w.heap.size<= ·) w1 v l from by
   obtain⟨cells,h1,h2⟩:=hv;have hg:w.heap.size<=(w.alloc (.cells #[.string r.name, .int .i64 r.gen, .int .i64 r.size] 26)).heap.size:=by simp
   exact⟨cells,h1.weak (fun k hk=>ay hg hk),h2.mono (fun c x _ hx=>hx.same (fun k _ hS=>⟨ay hg hS,rfl⟩))⟩)
  obtain⟨a,cap,rfl,-,-,-⟩:=cP.shape hv kO.len;clear hb hv;go_wp2_with fail
  go_ret2
  exact⟨he.o,by rw[HN.o]; exact⟨_,rfl,hh.o⟩⟩
end Go.Proofs.YtpffpjbkbaleiaaGreatDoor
namespace Go.Proofs.YtpffpjbkbaleiaaGreatDoor
open Go.RowKit
theorem Ox (l:List UInt8):(Bn l).length<=4*l.length:=by
 have h1:=yE l;have: ∀rs:List Int,(rs.flatMap Lib.encodeRune).length<=4*rs.length:=by
  intro rs
  induction rs with
  | nil=>simp
  | cons r rs ih=>rw[bu,an,aD]; have:=wC r; omega
 have h2:=this (uw l);unfold Bn; omega
theorem Cl (s:ByteArray) (pos:Nat):Lib.decodeL ((bl s).drop pos)=Utf8.decode s pos:=Lib.decodeL_drop s pos
theorem NX {s:ByteArray} {pos:Nat} (h:pos<s.size):(bl s).drop pos≠[]:=by
 intro e; have:=List.drop_eq_nil_iff.1 e; rw[<-bh]at this; omega
theorem KA {s o:ByteArray} {pos:Nat} (hp:pos<s.size) (h:bl o++Bn ((bl s).drop pos)=Bn (bl s)):
  bl (o++Utf8.encode ((Utf8.decode s pos).1:Int))++Bn ((bl s).drop (pos+(Utf8.decode s pos).2))=Bn (bl s):=by
 rw[qU,<-h,Dy _ (NX hp),Cl,fJ,<-EB,NU,bi]
theorem Fo (s:ByteArray) (w:World) (hs:s.size<=16777216):
  Calls Tryz.prog 164 #[.string s] w fun e w'=>e= .returned (.bool (Lib.validD (bl s)))/\Below w.heap.size w w':=by
 go_enter Tryz.func164,Tryz.ntmps164
 go_wp2
 go_loopw [3] (fun v wr=> ∃(pos:Nat) (o:ByteArray),v= .string o/\wr=w.iter s pos/\o.size<=67108864/\bl o++Bn ((bl s).drop pos)=Bn (bl s)) (fun _ wr=>s.size-wr.iterPos w.heap.size)
 case atStart=>exact⟨0,⟨#[]⟩,rfl,rfl,by simp[ByteArray.size],by simp[bl]⟩
 case round=>
  obtain⟨pos,o,rfl,rfl,ho,ha⟩:=hrel;have HR:=am ha;clear ha
  by_cases hp:pos<s.size
  ·have hb: ∀ty,(Instr.next (.pointer (some ⟨w.heap.size,0,none⟩)) true ty).run Tryz.prog (w.iter s pos)=_:=fun ty=>run_next_any w s pos ty hp
   obtain⟨r,hr⟩: ∃r,r=(Utf8.decode s pos).1:=⟨_,rfl⟩;obtain⟨E,hE⟩: ∃E,E=Utf8.encode (r:Int):=⟨_,rfl⟩;have he: ∀w',(convert 21 9 (.int .i32 (r:Int))).run Tryz.prog w'= .ok (.string E) w':=fun w'=>by rw[hE]; exact run_convert_int_string w' _ _ .i32 _ (by rw[Tryz.underlying21]; rfl) dQ
   have hd:E.size<=4:=by rw[hE]; exact encode_size_le _
   simp only[<-hr]at hb;have HE:=am hE;have hc:=am hr;clear hE hr
   go_wp2
   go_roundw
   case rel=>
    have hn:bl (o++E)++Bn ((bl s).drop (pos+(Utf8.decode s pos).2))=Bn (bl s):=by rw[HE.o,hc.o]; exact KA hp HR.o
    refine⟨pos+(Utf8.decode s pos).2,o++E,rfl,rfl, ?_,hn⟩;have h1:=congrArg List.length hn;have h2:=Ox (bl s);rw[an,<-bh]at h1;rw[<-bh]at h2;omega
   case measure=>
    rw[World.iterPos_iter,World.iterPos_iter];have:=Lib.width_pos s pos;omega
  ·have hb: ∀ty,(Instr.next (.pointer (some ⟨w.heap.size,0,none⟩)) true ty).run Tryz.prog (w.iter s pos)=_:=fun ty=>run_next_end w s pos ty hp
   go_wp2
   go_ret;refine⟨bW ?_,eK⟩;have h1:bl o=Bn (bl s):=by
    rw[<-HR.o,dN (by rw[<-bh]; omega),Bo,bY]
   rw[fp,fp,h1];exact JR (bl s)
theorem CW {s:ByteArray} {j:Nat} (hj:j<s.size) (h:(s[j].toNat:Int)<32):qZ (bl s)=false:=by
 refine CY hj ?_;rw[rX s j hj,<-kA s j hj]; omega
theorem Du (s:ByteArray) (w:World) (hs:s.size<=16777216):
  Calls Tryz.prog 138 #[.string s] w fun e w'=>e= .returned (.bool (xM (bl s)))/\Below w.heap.size w w':=by
 go_enter Tryz.func138,Tryz.ntmps138
 go_wp2
 go_loop [3] (fun i=> ∃k:Nat,k<=s.size/\i= .int .i64 k/\ ∀j,j<k->j<s.size->32<=(s.get! j).toNat) (fun i=>s.size-(intOf i).toNat)
 case atStart=>exact⟨0,aW _,rfl,fun j hj=>by omega⟩
 case round=>
  obtain⟨k,hk,rfl,ha⟩:=hrel;have HL:=am ha;clear ha
  by_cases hp:k<s.size
  ·go_wp2
   ·have hd:(s[k].toNat:Int)<32:=by assumption
    go_ret;exact⟨bW (by simp[xM,CW hp hd]),au _ _⟩
   ·have he:(32:Int)<=(s[k].toNat:Int):=by assumption
    go_round
    case rel=>
     refine⟨k+1,by omega,by go_num,fun j hj hc=> ?_⟩
     rcases dK j k with h | h
     ·exact HL.o j h hc
     ·obtain rfl:j=k:=by omega
      rw[rX s j hp,<-kA s j hp]; omega
    case measure=>simp[intOf]<;> omega
  ·go_wp2_with (go_at_call 164; refine(Fo s _ hs).mono ?_; rintro e w' ⟨rfl,hb⟩);go_ret;refine⟨bW ?_,hb⟩;simp only[xM,GF (fun j hj=>HL.o j (by omega) hj),gT]
def KN (c:UInt8) (s:ByteArray) (w:World) (e:Ending) (w':World):Prop:=
 ∃v xs,e= .returned v/\xs.map bl=de c (bl s)/\lz (w.heap.size<= ·) w' v xs/\Below w.heap.size w w'
theorem Co {s:ByteArray} {c:UInt8} {ys:List ByteArray} {f k:Nat} (hk:k<s.size) (hf:f<=k) (h:de c (bl s)=ys.map bl++de c ((bl s).drop f)) (hn: ∀j,f<=j->j<k->(s.get! j)≠c) (hc:s[k]=c):
  de c (bl s)=(ys++[s.extract f k]).map bl++de c ((bl s).drop (k+1)):=by
 have ha:k<(bl s).length:=by rw[<-bh]; exact hk
 have e:(bl s).drop f=bl (s.extract f k)++c::(bl s).drop (k+1):=by
  rw[px,<-hc,kA s k hk,List.getElem_cons_drop,List.drop_take];have h2:=du (k-f) ((bl s).drop f);rw[fJ,show f+(k-f)=k by omega]at h2;exact h2.symm
 have hm:c∉bl (s.extract f k):=by
  intro hm;obtain⟨j,hj,ej⟩:=dT hm;simp only[px]at hj ej;rw[bw,bm]at hj;rw[List.getElem_drop,List.getElem_take]at ej;exact hn (f+j) (by omega) (by omega) (by rw[rX s _ (by omega)]; exact ej)
 rw[h,e,oO _ _ _ hm]; simp
theorem Cn {s:ByteArray} {c:UInt8} {ys:List ByteArray} {f:Nat} (hf:f<=s.size) (h:de c (bl s)=ys.map bl++de c ((bl s).drop f)) (hn: ∀j,f<=j->j<s.size->(s.get! j)≠c):
  de c (bl s)=(ys++[s.extract f s.size]).map bl:=by
 have e:(bl s).drop f=bl (s.extract f s.size):=by rw[px,bh,dj]
 have hm:c∉(bl s).drop f:=by
  intro hm;obtain⟨j,hj,ej⟩:=dT hm;rw[bw,<-bh]at hj;rw[List.getElem_drop]at ej;exact hn (f+j) (by omega) (by omega) (by rw[rX s _ (by omega)]; exact ej)
 rw[h,gI _ _ hm,e]; simp
theorem ng (s:ByteArray) (w:World) (hs:s.size<=16777216):Calls Tryz.prog 87 #[.string s] w (KN 47 s w):=by
 go_enter Tryz.func87,Tryz.ntmps87
 go_wp2_with fail
 go_loopw [3,4,5] (fun v fr i wr=> ∃(k f:Nat) (ys:List ByteArray),k<=s.size+1/\f<=k/\ys.length<=k/\i= .int .i64 k/\fr= .int .i64 f/\wr.ownsRow w.heap.size 9 1 v ys.length (ys.map Value.string)/\Below w.heap.size w wr/\
   (k<=s.size->de 47 (bl s)=ys.map bl++de 47 ((bl s).drop f)/\ ∀j,f<=j->j<k->(s.get! j)≠47)/\(k=s.size+1->de 47 (bl s)=ys.map bl)) (fun _ _ i _=>s.size+1-(intOf i).toNat)
 case atStart=>exact⟨0,0,[],aW _,ak _,ak _,rfl,rfl,bM _ _ _ _,au _ _,fun _=>⟨by simp,fun j _ hj=>by omega⟩,fun h=>by omega⟩
 case round=>
  obtain⟨k,f,ys,hk,hf,hy,rfl,rfl,hh,hb,hu,hv⟩:=hrel;have HO:=am hh;have HB:=am hb;have he:=am hu;have hw:=am hv;have hl:w.heap.size<=wr.heap.size:=hb.size;clear hh hb hu hv
  by_cases hg:k<=s.size
  ·by_cases hr:k<s.size
   ·have e1:((k:Int) == (s.size:Int))=false:=by rw[fV]; omega
    by_cases hc:s[k]=47
    ·have e2:((s[k].toNat:Int) == (47:UInt8).toNat)=true:=by rw[hc]; rfl
     have e2':((s[k].toNat:Int) == 47)=true:=e2;have ho:=am hc;clear hc e2;go_wp2_with (at_builtin; go_must (refine iL Tryz.appStrings rfl _ _ rfl w.heap.size u3 ys.length (ys.map Value.string) rfl wr [.string (s.extract f k)] _ rfl rfl (by simp; rfl) HO.o (by omega) hl ?_); intro v' w1 hd ha _);have hq:=am hd;have hp:=am ha;clear hd ha;go_wp2_with fail
     go_roundw
     case rel=>
      refine⟨k+1,k+1,ys++[s.extract f k],by omega,ak _,by simp; omega,by go_num,by go_num, ?_,bX HB.o HO.o hp.o (ak _) hl,fun _=>⟨Co hr hf (he.o hg).1 (he.o hg).2 ho.o,fun j h1 h2=>by omega⟩,fun h=>by omega⟩;have:=hq.o; simpa using this
     case measure=>simp[intOf]<;> omega
    ·have e2':((s[k].toNat:Int) == 47)=false:=by
      rw[fV]; intro e; apply hc; apply gM.1; have:s[k].toNat=47:=by omega
      rw[this]; rfl
     have ho:=am hc;clear hc;go_wp2_with fail
     go_roundw
     case rel=>
      refine⟨k+1,f,ys,by omega,by omega,by omega,by go_num,rfl,HO.o,HB.o,fun _=>⟨(he.o hg).1,fun j h1 h2=> ?_⟩,fun h=>by omega⟩
      rcases dK j k with h | h
      ·exact(he.o hg).2 j h1 h
      ·obtain rfl:j=k:=by omega
       rw[rX s j hr,<-kA s j hr]; exact ho.o
     case measure=>simp[intOf]<;> omega
   ·obtain rfl:k=s.size:=by omega
    have e1:((s.size:Int) == (s.size:Int))=true:=by simp
    go_wp2_with (at_builtin; go_must (refine iL Tryz.appStrings rfl _ _ rfl w.heap.size u3 ys.length (ys.map Value.string) rfl wr [.string (s.extract f s.size)] _ rfl rfl (by simp; rfl) HO.o (by omega) hl ?_); intro v' w1 hd ha _);have hq:=am hd;have hp:=am ha;clear hd ha;go_wp2_with fail
    go_roundw
    case rel=>
     refine⟨s.size+1,s.size+1,ys++[s.extract f s.size],by omega,ak _,by simp; omega,by go_num,by go_num, ?_,bX HB.o HO.o hp.o (ak _) hl,fun h=>by omega,fun _=>Cn hf (he.o hg).1 (he.o hg).2⟩;have:=hq.o; simpa using this
    case measure=>simp[intOf]<;> omega
  ·obtain⟨a,cap,rfl,hn,hm⟩:=aH HO.o;go_wp2_with fail;go_ret;exact⟨_,ys,rfl,(hw.o (by omega)).symm,(cL HO.o).weak (fun k hk=>hk.1),HB.o⟩
end Go.Proofs.YtpffpjbkbaleiaaGreatDoor
