/- Texts of this proof, one after the other: RefB, PresA, PresB, MissM, MissL, Refs24, AwP, BldF, BldG, AwQ, R3D, R5, R11, LookB, Luk24, PreP, LastP. -/
import Derived.Test.YtpffpjbkbaleiaaGreatDoorCBlobsF
set_option maxRecDepth 100000
set_option maxHeartbeats 8000000
namespace Go.Proofs.YtpffpjbkbaleiaaGreatDoor
open Go.RowKit
theorem xL {xs:List ByteArray} {k:Nat} {x:ByteArray} (hx:xs[k]? =some x):jF ((xs.take (k+1)).map bl)=if k=0 then bl x else jF ((xs.take k).map bl)++[47]++bl x:=by
 have hk:=(aG.1 hx).1;have e:(xs.take (k+1)).map bl=(xs.take k).map bl++[bl x]:=by rw[ci,hx]; simp
 rw[e,DV]
 by_cases h:k=0
 ·subst h; simp
 ·have h2:(xs.take k).map bl≠[]:=by
   intro e; have:=congrArg List.length e; simp only[aB,bm,bo]at this; omega
  rw[if_neg h,if_neg h2]
theorem xR (xs:List ByteArray) (m:Nat) (h: ∀x∈xs,x.size<=m) (k:Nat):(jF ((xs.take k).map bl)).length<=xs.length*(m+1):=by
 have h1:=FN ((xs.take k).map bl) m (fun p hp=>by
  obtain⟨y,hy,rfl⟩:=aS.1 hp;have:=h y (List.mem_of_mem_take hy);rw[<-bh]; exact this)
 have h2:((xs.take k).map bl).length<=xs.length:=by simp; omega
 exact ay h1 (cY _ h2)
theorem Dv (xs:List ByteArray) (S:Nat->Prop) (v:Value) (w:World) (hv:lz S w v xs) (hn:xs.length<=65536) (hsz: ∀x∈xs,x.size<=65536):
  Calls Tryz.prog 132 #[v] w fun e w'=>e= .returned (.string ⟨(jF (xs.map bl)).toArray⟩)/\w=w':=by
 obtain⟨a,cap,rfl,hc,hb,ha⟩:=hv.shape;have HC:=am ha;have HS:=am hsz;clear hv ha hsz;unfold maxLen at hb
 go_enter Tryz.func132,Tryz.ntmps132
 go_wp2_with fail
 go_loop [3,8] (fun o i=> ∃(k:Nat) (t:ByteArray),k<=xs.length/\i= .int .i64 k/\o= .string t/\bl t=jF ((xs.take k).map bl)) (fun _ i=>xs.length-(intOf i).toNat)
 case atStart=>exact⟨0,⟨#[]⟩,aW _,rfl,rfl,by simp[bl,jF,Lib.join_nil]⟩
 case round=>
  obtain⟨k,t,hk,rfl,rfl,ht⟩:=hrel;have hh:t.size<=4295032832:=by
   rw[bh,ht];have:=xR xs 65536 HS.o k;have h2:xs.length*(65536+1)<=65536*(65536+1):=cY _ hn;omega
  have HT:=am ht;clear ht
  by_cases hd:k<xs.length
  ·obtain⟨x,hx⟩: ∃x,xs[k]? =some x:=⟨xs[k],by simp[hd]⟩;obtain⟨b,o,rfl,_,hf⟩:=HC.o k x hx;have hj:=HS.o x (aQ hx);have HX:=am hx;clear hx
   by_cases h0:k=0
   ·have e0:decide ((0:Int)<(k:Int))=false:=by simp[h0]
    have hg: ¬(0:Int)<(k:Int):=by omega
    have H0:=am h0;clear h0;go_wp2_with fail
    go_round
    case rel=>
     refine⟨k+1,t++x,by omega,by go_num,rfl, ?_⟩;rw[xL HX.o,if_pos H0.o,qU,HT.o,H0.o]; simp[jF,Lib.join_nil]
    case measure=>simp[intOf]; omega
   ·have h1:(0:Int)<(k:Int):=by omega
    have he:0<k:=by omega
    have H0:=am h0;clear h0;go_wp2_with fail
    go_round
    case rel=>
     refine⟨k+1,(t++⟨#[47]⟩)++x,by omega,by go_num,rfl, ?_⟩;rw[xL HX.o,if_neg H0.o,qU,qU,HT.o]; rfl
    case measure=>simp[intOf]; omega
  ·go_wp2_with fail;go_ret;refine⟨?_,rfl⟩;have:jF (xs.map bl)=bl t:=by rw[HT.o,bB (by omega)]
   rw[this,tn]; rfl
theorem Gv {xs:List ByteArray} {s:ByteArray} (hx:xs.map bl=de 47 (bl s)):((xs.length:Int) == 1)= !(bl s).contains 47:=by
 rw[<-Cg,<-hx,aB,dk,jP,jP]; omega
theorem qi (s:ByteArray) (w:World) (hs:s.size<=16777216):
  Calls Tryz.prog 102 #[.string s] w fun e w'=>e= .returned (.bool (iI (bl s)))/\Below w.heap.size w w':=by
 go_enter Tryz.func102,Tryz.ntmps102
 go_wp2_with (first
  | (go_at_call 138; refine(Du s _ hs).mono ?_; rintro e w1 ⟨rfl,hb⟩)
  | (go_at_call 87; refine(ng s _ hs).mono ?_; rintro e w2 ⟨v2,xs2,rfl,hd,hc,he⟩; obtain⟨a2,c2,rfl,-,-,-⟩:=hc.shape; have ha:=am hd; clear hd hc))
 all_goals (go_ret; refine⟨bW ?_,by first | exact au _ _ | exact ar hb he | exact hb⟩)
 all_goals (rw[dk]; simp only[fp]at *)
 all_goals (first | (have hq:=Gv ha.o; simp_all [iI,bh]; done) | (simp_all [iI,bh]; done) | (simp_all [iI,bh]; omega) | (have hq:=Gv ha.o; simp_all [iI,bh]; intro _; omega))
theorem Dw (s:ByteArray) (w:World) (hs:s.size<=16777216):
  Calls Tryz.prog 86 #[.string s] w fun e w'=>e= .returned (.bool (dD (bl s)))/\Below w.heap.size w w':=by
 go_enter Tryz.func86,Tryz.ntmps86
 go_wp2_with fail;refine(ng s w hs).mono ?_;rintro e w1 ⟨v,xs,rfl,hx,hv,ho⟩;obtain⟨a,cap,rfl,hc,hr,hd⟩:=hv.shape;have hw:xs.length<=16777217:=by
  have h1:(de 47 (bl s)).length=xs.length:=by rw[<-hx]; simp
  have h2:=oP 47 (bl s);rw[<-bh]at h2;omega
 have HX:=am hx;have HC:=am hd;have hn:=am ho;clear hx hd ho hv;unfold maxLen at hr;go_wp2_with fail
 go_loopw [10] (fun i wr=> ∃k:Nat,k<=xs.length/\i= .int .i64 k/\Below w1.heap.size w1 wr/\ ∀(j:Nat) x,j<k->xs[j]? =some x->iI (bl x)=true) (fun i _=>xs.length-(intOf i).toNat)
 case atStart=>exact⟨0,aW _,rfl,au _ _,fun j x hj=>by omega⟩
 case round=>
  obtain⟨k,hk,rfl,hb,hf⟩:=hrel;have HA:=am hf;have HB:=am hb;clear hf hb
  by_cases hu:k<xs.length
  ·obtain⟨x,hx⟩: ∃x,xs[k]? =some x:=⟨xs[k],by simp[hu]⟩;obtain⟨b,o,rfl,_,hh⟩:=HC.o k x hx;have hd:wr.cell? ⟨b,o+k,none⟩=some (.string x):=(HB.o.cell (p:=⟨b,o+k,none⟩) (cF hh)).trans hh;have HK:=am hx;have hq:x.size<=16777216:=by have:=zU HX.o hx; omega
   clear hx hh
   cases hc:iI (bl x)
   ·have he:=am hc;clear hc;go_wp2_with (go_at_call 102; refine(qi x wr hq).mono ?_; rintro e w' ⟨rfl,hg⟩; rw[he.o]);go_ret;exact⟨bW (Ak HX.o HK.o he.o).symm,ar (ar hn.o HB.o) hg⟩
   ·have he:=am hc;clear hc;go_wp2_with (go_at_call 102; refine(qi x wr hq).mono ?_; rintro e w' ⟨rfl,hg⟩; rw[he.o])
    go_roundw
    case rel=>
     refine⟨k+1,by omega,by go_num,ar HB.o hg,fun j x' hj hp=> ?_⟩
     rcases dK j k with h | h
     ·exact HA.o j x' h hp
     ·obtain rfl:j=k:=by omega
      have:=HK.o.symm.trans hp
      cases this
      exact he.o
    case measure=>simp[intOf]; omega
  ·go_wp2_with fail
   all_goals (go_ret; refine⟨bW ?_,ar hn.o HB.o⟩)
   all_goals (
    have ha:(de 47 (bl s)).all iI=true:=by
     rw[<-HX.o,List.all_map,cj];intro x hm;obtain⟨j,hj,rfl⟩:=dT hm;exact HA.o j _ (by omega) (by simp)
    have hl:(de 47 (bl s)).length=xs.length:=by rw[<-HX.o]; simp
    rw[dD,ha,hl,Bool.and_true,<-bh,dk]
    simp_all<;> omega)
theorem FT (visit:cy->Except Int (List cg)) (cv:Value) (I:World->Prop) (B n:Nat) (hI:vO I B) (hV:BJ visit 95 cv I) (IH:yP visit 95 cv I B n):yP visit 95 cv I B (n+1):=by
 intro r st x st' base wb eb sb v w hw Hj h hr hi hB hq;have HI:=am hI;have HV:=am hV;have HH:=am IH;have HB:=am hB;have HR:=am hr;have H:=am h;have Hq:=am hi;have HK:=am Hj;have He:=am hw;have HW:(cO r st.2).length<=st'.2.length:=by
  rw[fq]at hw
  split at hw
  ·simp only[aV,cI]at hw;obtain⟨_,rfl⟩:=hw;exact ak _
  ·split at hw
   ·simp only[aV,cI]at hw;obtain⟨_,rfl⟩:=hw;exact ak _
   ·exact lE (mH visit n) _ _ x st' hw
 have ya:=ox r st.2;have Ho:=am ((au w.heap.size w).alloc (ak _) (.cells #[.string r.name, .int .i64 r.gen, .int .i64 r.size] 26));have Hr:=am (h.below Ho.o);have hC:=am (aF w (.cells #[.string r.name, .int .i64 r.gen, .int .i64 r.size] 26));have yc:wb<w.heap.size:=aw h.box;unfold ef;clear hw h hr hi hI hV IH hB
 go_enter Tryz.func133,Tryz.ntmps133
 go_wp2_with fail;refine(oy base wb eb sb _ v st.1 st.2 r _ Hr.o HR.o (by omega) (by simp; omega)).mono ?_;rintro e w1 ⟨rfl,v1,Hz,hY,HA⟩;have Ha:=am Hz;have hu:=am (show w1.heap[w.heap.size]? =some (.cells #[.string r.name, .int .i64 r.gen, .int .i64 r.size] 26 (0,0))from(hY.block w.heap.size (by simp) (fun ho=>by
  rcases ho with e | e | e | e
  ·omega
  ·have:=H.o.exs.map.lt; omega
  ·have:=H.o.see.map.lt; omega
  ·have:=(H.o.row.lt _ e).2; omega)).trans hC.o)
 have HZ:=hY.size;simp at HZ;have Hp:=am (show fX (mO wb eb sb v) w w1 from(fX.of_below Ho.o (S:=mO wb eb sb v)).trans hY (fun _ _ h=>h));have Hc:=am (show ∀k,v1.ownBlock=some k->v.ownBlock=some k\/w.heap.size<=k from fun k hk=>by
  rcases HA k hk with e | e
  ·exact .inl e
  ·simp at e; exact .inr (by omega))
 clear Hz hY HA Hr hC;have c1:=bL (k:=1) Ha.o.box;obtain⟨q0,q1,q2,_⟩:=aU hu.o;simp only[ai,aj,ah]at c1;go_wp2_with fail;refine bF [some 6] (by kernel_rfl) (by kernel_rfl) (by kernel_rfl) ?_;simp only[dJ,aR,aX];obtain⟨W1,Hg⟩: ∃W1:World,W1=w1.drew:=⟨_,rfl⟩
 rw[<-Hg];have hf:Below w1.heap.size w1 W1:=by rw[Hg]; exact(au _ _).drew
 have hl:=am (Ha.o.below hf);have hd:=am ((hf.block w.heap.size (by omega)).trans hu.o);have h7:=am (Hp.o.trans (fX.of_below hf (S:=fun _=>False)) (fun _ _ h=>False.elim h));have yl:=hf.size;clear hf Ha hu Hp c1 q0 q1 q2;have c1:=bL (k:=1) hl.o.box;have q0:=bL (k:=0) hd.o;have q1:=bL (k:=1) hd.o;have q2:=bL (k:=2) hd.o;have hZ:=hl.o.exs.look HR.o
 unfold ef at hZ;simp only[ai,aj,ah]at c1 q0 q1 q2;clear Hg
 by_cases hm:r∈st.1
 ·have e1:decide (r∈st.1)=true:=by simp[hm]
  rw[e1]at hZ;have hb:=am (show(x,st')=(0,(st.1,cO r st.2)) by have:=He.o; rw[fq,if_pos hm]at this; exact(bC this).symm);clear e1 hm
  repeat (first | (refine bZ rfl ?_; simp only[Act.put,aa,ag,ab]) | (refine cK rfl (fun K hK=> ?_); go_simp; refine hK _ ?_; clear hK K))
  refine cJ ?_;go_wp2_with fail;go_ret;obtain⟨e1,e2⟩:=gm hb.o;exact⟨dA e1.symm,v1,by rw[e2]; exact hl.o,h7.o,Hc.o⟩
 ·have e1:decide (r∈st.1)=false:=by simp[hm]
  rw[e1]at hZ;have HL:=am hm;have Hf:=am (show(match visit r with | .error x=>some (x,(st.1++[r],cO r st.2)) | .ok l=>jc (fq visit n) l (st.1++[r],cO r st.2))=some (x,st') by have:=He.o; rw[fq,if_neg hm]at this; exact this);clear e1 hm He
  repeat (first | (refine bZ rfl ?_; simp only[Act.put,aa,ag,ab]) | (refine cK rfl (fun K hK=> ?_); go_simp; refine hK _ ?_; clear hK K))
  refine cJ ?_;go_wp2_with fail;refine bF [some 5,none] (by kernel_rfl) (by kernel_rfl) (by kernel_rfl) ?_;simp only[dJ,aR,aX,bz,bQ]
  repeat (first | (refine bZ rfl ?_; simp only[Act.put,aa,ag,ab]) | (refine cK rfl (fun K hK=> ?_); go_simp; refine hK _ ?_; clear hK K))
  refine cJ ?_;refine ee rfl (fun K hK=> ?_);have Hs:=am (hl.o.below ((au _ W1).drew));go_wp2_with (at_mapUpdate; go_must (refine ld rfl _ _ _ rfl eb st.1 Hs.o.exs rfl r HR.o rfl rfl HL.o ?_); intro w2 hR Hx);have H6:eb<w.heap.size:=H.o.exs.map.lt;have yb:sb<w.heap.size:=H.o.see.map.lt;have Hl:=H.o.wne;have hP:=H.o.ne;refine bF [some 5,none,some 5] (by kernel_rfl) (by kernel_rfl) (by kernel_rfl) ?_
  simp only[dJ,aR,aX,bz,bQ];obtain⟨W2,hW⟩: ∃W2:World,W2=w2.drew:=⟨_,rfl⟩;rw[<-hW];have hv:W1.grownBy W2 (some eb):=by rw[hW]; exact bV (b:=W1.drew) ⟨rfl,rfl,rfl,ak _,fun _ _ _=>rfl⟩ (bV Hx ⟨rfl,rfl,rfl,ak _,fun _ _ _=>rfl⟩)
  have hs:jC W2 eb (st.1++[r]):=by rw[hW]; exact hR.same rfl
  have hT:=am (show my W2 base wb eb sb (.func (.func 95) #[cv] #[]) v1 (st.1++[r]) (cO r st.2)from⟨lQ hv hl.o.box Hl.1,hs,hl.o.see.same (hv.block sb hl.o.see.map.lt (by simp; exact jX hP)),hl.o.row.kept hv (.inr (fun e=>(hl.o.own e).2.1 rfl)),hP⟩);have hD:=am (lQ hv hd.o (by omega));have h8:=am (show fX (mO wb eb sb v) w W2 from h7.o.trans (fX.of_grown (S:=fun k=>k=eb) hv (fun k hk=>by cases hk; rfl)) (fun i _ h=> .inr (.inl h)))
  have yn:=hv.size;have HF:=am (HI.o w W2 Hq.o (pD h8.o (fun k hk=>un H.o HB.o hk)));clear hW hv hs hR Hx Hs hl hd h7 c1 q0 q1 q2 hZ;have c0:=bL (k:=0) hT.o.box;obtain⟨q0,q1,q2,_⟩:=aU hD.o;simp only[ai,ah]at c0
  repeat (first | (refine bZ rfl ?_; simp only[Act.put,aa,ag,ab]) | (refine cK rfl (fun K hK=> ?_); go_simp; refine hK _ ?_; clear hK K))
  refine cJ ?_;refine ee rfl (fun K hK=> ?_);go_wp2_with fail;refine(HV.o W2 r HF.o HR.o).mono ?_;rintro e w3 ⟨hJ,ha⟩;have Hb:=am (hT.o.below hJ);have h9:=am (h8.o.trans (fX.of_below hJ (S:=fun _=>False)) (fun _ _ h=>False.elim h));have H5:=am hJ;have H0:=hJ.size;clear hJ c0 q0 q1 q2
  cases hA:visit r with
  | error y=>
   rw[hA]at ha;obtain⟨rfl,hy⟩:=ha;have hb:=am (show(x,st')=(y,(st.1++[r],cO r st.2)) by have:=Hf.o; rw[hA]at this; exact(bC this).symm);have e1:(y != 0)=true:=by simp[hy]
   clear hA hy;go_wp2_with fail
   repeat (first | (refine bZ rfl ?_; simp only[Act.put,aa,ag,ab]) | (refine cK rfl (fun K hK=> ?_); go_simp; refine hK _ ?_; clear hK K))
   refine cJ ?_;go_wp2_with fail;go_ret;obtain⟨e1,e2⟩:=gm hb.o;exact⟨dA e1.symm,v1,by rw[e2]; exact Hb.o,h9.o,Hc.o⟩
  | ok l=>
   rw[hA]at ha;obtain⟨itv,rfl,hx⟩:=ha;have HN:=am (show jc (fq visit n) l (st.1++[r],cO r st.2)=some (x,st') by have:=Hf.o; rw[hA]at this; exact this);obtain⟨ia,ic,rfl,H7,HQ,-⟩:=cP.shape hx kO.len;unfold maxLen at HQ;have HJ:=am (show sJ w B W2.heap.size w3.heap.size base wb eb sb (.func (.func 95) #[cv] #[]) v (.slice ia l.length ic) l w3 v1 (st.1++[r]) (cO r st.2)from
    ⟨Hb.o,h9.o,Hc.o,fun k hk=> .inl (hT.o.row.lt k hk).2,⟨by omega,by omega,by omega⟩,⟨by omega,H0,ak _⟩,ew.lt hx⟩)
   clear hA hx Hf hT Hb h8 h9 hD;go_wp2_with fail
   repeat (first | (refine bZ rfl ?_; simp only[Act.put,aa,ag,ab]) | (refine cK rfl (fun K hK=> ?_); go_simp; refine hK _ ?_; clear hK K))
   refine cJ ?_;go_wp2_with fail
   go_loopw [40] (fun i wr=> ∃(k:Nat) (v2:Value) (ex2 rs2:List cy),k<=l.length/\i= .int .i64 k/\jc (fq visit n) (l.drop k) (ex2,rs2)=some (x,st')/\sJ w B W2.heap.size w3.heap.size base wb eb sb (.func (.func 95) #[cv] #[]) v (.slice ia l.length ic) l wr v2 ex2 rs2) (fun i _=>l.length-(intOf i).toNat)
   case atStart=>exact⟨0,v1,_,_,aW _,rfl,HN.o,HJ.o⟩
   case round=>
    obtain⟨k,v2,ex2,rs2,hk,rfl,HD,Hy⟩:=hrel;have Hv:=am HD;have hF:=am Hy;clear HD Hy
    by_cases HU:k<l.length
    ·obtain⟨it,Hm⟩: ∃it,l[k]? =some it:=⟨l[k],by simp[HU]⟩;obtain⟨b,o,ca,cc,rfl,HC,Hn,-,-,hg⟩:=lB hF.o.its (au _ _) Hm;have hG:=am (show jc (fq visit n) (it::l.drop (k+1)) (ex2,rs2)=some (x,st') by
      obtain⟨HS,rfl⟩:=aG.1 Hm;rw[<-cz HS]; exact Hv.o)
     have H9:=zS hG.o;have HM:=am HC;have q0:=hg 0 (by omega);have q1:=hg 1 (by omega);have q2:=hg 2 (by omega);have q3:=hg 3 (by omega);have q4:=hg 4 (by omega);have q5:=hg 5 (by omega);have q6:=hg 6 (by omega);have q7:=hg 7 (by omega);have q8:=hg 8 (by omega);have q9:=hg 9 (by omega);simp only[eW,ah,aj,cT]at q0 q1 q2 q3 q4 q5 q6 q7 q8 q9
     obtain⟨wo,HY⟩: ∃wo:World,wo=wr:=⟨_,rfl⟩;subst HY;have h0:=am ((au wo.heap.size wo).alloc (ak _) (.cells #[.string it.name, .int .i64 it.kind, .int .i64 it.mode, .int .i64 it.time, .int .i64 it.size, .string it.link, .slice ca it.chunks.length cc, .string it.node.name, .int .i64 it.node.gen, .int .i64 it.node.size] 28));have Ht:=am (hF.o.below h0.o)
     have Hu:=am (show dy (fun k=>W2.heap.size<=k/\k<w3.heap.size) _ (.slice ca it.chunks.length cc) it.chunks from cP.below Hn (by omega) h0.o (fun _ _ _ h=>h));obtain⟨a',cap',HX,HP,Hh,-⟩:=cP.shape Hn oU.len
     cases HX
     unfold maxLen at Hh;clear Hm HC Hn hg;have hE:=am (aF wo (.cells #[.string it.name, .int .i64 it.kind, .int .i64 it.mode, .int .i64 it.time, .int .i64 it.size, .string it.link, .slice ca it.chunks.length cc, .string it.node.name, .int .i64 it.node.gen, .int .i64 it.node.size] 28));go_wp2_with fail;clear q0 q1 q2 q3 q4 q5 q6 q7 q8 q9
     go_loopw [47] (fun i wq=> ∃(j:Nat) (v3:Value),j<=it.chunks.length/\i= .int .i64 j/\sJ w B W2.heap.size w3.heap.size base wb eb sb (.func (.func 95) #[cv] #[]) v (.slice (some ⟨b,o,none⟩) l.length ic) l wq v3 ex2 (fi (it.chunks.take j) rs2)/\dy (fun k=>W2.heap.size<=k/\k<w3.heap.size) wq (.slice ca it.chunks.length cc) it.chunks/\wq.heap[wo.heap.size]? =some (.cells #[.string it.name, .int .i64 it.kind, .int .i64 it.mode, .int .i64 it.time, .int .i64 it.size, .string it.link, .slice ca it.chunks.length cc, .string it.node.name, .int .i64 it.node.gen, .int .i64 it.node.size] 28 (0,0))) (fun i _=>it.chunks.length-(intOf i).toNat)
     case atStart=>exact⟨0,v2,aW _,rfl,Ht.o,Hu.o,hE.o⟩
     case round=>
      obtain⟨j,v3,hj,rfl,hN,hQ,hL⟩:=hrel;have hp:=am hN;have hH:=am hQ;have he:=am hL;clear hN hQ hL Ht Hu hE h0
      by_cases Hk:j<it.chunks.length
      ·obtain⟨c,hc⟩: ∃c,it.chunks[j]? =some c:=⟨it.chunks[j],by simp[Hk]⟩;obtain⟨b2,o2,rfl,hM,p0,p1,p2⟩:=lH hH.o (au _ _) hc;have HE:=am hM;have HO:=am (show fi (it.chunks.take (j+1)) rs2=cO c (fi (it.chunks.take j) rs2) by rw[dL hc,vd]);have H8:=qA it.chunks rs2 j;have hn:=am ((au wr.heap.size wr).alloc (ak _) (.cells #[.string c.name, .int .i64 c.gen, .int .i64 c.size] 26))
       have hU:=am (hp.o.below hn.o);have Hw:base<=(wr.alloc (.cells #[.string c.name, .int .i64 c.gen, .int .i64 c.size] 26)).heap.size:=ay hq (ay hp.o.gr.size hn.o.size);have h4:=am Hw;clear hc hM Hw;go_wp2_with fail;refine(oy base wb eb sb _ v3 ex2 _ c _ hU.o.at' HE.o (by omega) h4.o).mono ?_;rintro e w4 ⟨rfl,ha⟩;obtain⟨v4,hh,Hi⟩:=hU.o.step ha
       have hz:=am hh;have H4:=hn.o.size;have Hd:=am (show dy (fun k=>W2.heap.size<=k/\k<w3.heap.size) w4 (.slice (some ⟨b2,o2,none⟩) it.chunks.length cc) it.chunks from dy.same hH.o (fun k hk hS=>⟨hS,(Hi.block k (aP hk H4) (hU.o.notown hS)).trans (hn.o.block k hk)⟩));have hX:=lW he.o (.cells #[.string c.name, .int .i64 c.gen, .int .i64 c.size] 26)
       have h3:=am ((Hi.block wo.heap.size ((aO.1 hX).1) (hU.o.at'.notown hX (by decide) (by decide))).trans hX);clear ha hh Hi hX p0 p1 p2;go_wp2_with fail
       go_roundw
       case rel=>exact⟨j+1,v4,by omega,by go_num,by rw[HO.o]; exact hz.o,Hd.o,h3.o⟩
       case measure=>simp[intOf]; omega
      ·obtain rfl:j=it.chunks.length:=by omega
       rw[bB (ak _)]at hp;have c1:=bL (k:=1) he.o;have c7:=bL (k:=7) he.o;have c8:=bL (k:=8) he.o;have c9:=bL (k:=9) he.o;simp only[ai,aj,ah]at c1 c7 c8 c9
       rcases ss hG.o with⟨hO,h2⟩ | ⟨hO,y,st2,h1,h2⟩
       ·have e2:(it.kind != 2)=true:=by simp[hO]
        have H2:=am h2;clear hO h2;go_wp2_with fail
        go_roundw
        case rel=>exact⟨k+1,v3,_,_,by omega,by go_num,H2.o,hp.o⟩
        case measure=>simp[intOf]; omega
       ·have e2:(it.kind != 2)=false:=by simp[hO]
        have H1:=am h1;have H2:=am h2;have HT:st2.2.length<=st'.2.length:=by
         rcases h2 with⟨_,h2⟩ | ⟨_,h2⟩
         ·obtain⟨_,rfl⟩:=gm h2;exact ak _
         ·exact lE (mH visit n) _ _ x st' h2
        have HG:=am (HI.o w wr Hq.o (pD hp.o.gr (fun k hk=>un H.o HB.o hk)));have h4:=am (ay hq hp.o.gr.size);clear hO h1 h2;go_wp2_with fail;refine(HH.o it.node (ex2,fi it.chunks rs2) y st2 base wb eb sb v3 wr H1.o (by omega) hp.o.at' HM.o.nd HG.o HB.o h4.o).mono ?_;rintro e w4 ⟨rfl,ha⟩;obtain⟨v4,hh,-⟩:=hp.o.step ha;have hz:=am hh
        clear ha hh c1 c7 c8 c9
        rcases H2.o with⟨hy,h2⟩ | ⟨hy,h2⟩
        ·have e3:(y != 0)=true:=by simp[hy]
         have hb:=am h2;clear hy h2;go_wp2_with fail;go_ret;obtain⟨e1,e2⟩:=gm hb.o;exact⟨dA e1.symm,v4,by rw[e2]; exact hz.o.at',hz.o.gr,hz.o.own⟩
        ·subst hy;have H3:=am h2;clear h2;go_wp2_with fail
         go_roundw
         case rel=>exact⟨k+1,v4,st2.1,st2.2,by omega,by go_num,H3.o,hz.o⟩
         case measure=>simp[intOf]; omega
    ·obtain rfl:k=l.length:=by omega
     have hb:=am (show(x,st')=(0,(ex2,rs2)) by have:=Hv.o; rw[eV (ak _)]at this; exact(bC this).symm);go_wp2_with fail;go_ret;obtain⟨e1,e2⟩:=gm hb.o;exact⟨dA e1.symm,v2,by rw[e2]; exact hF.o.at',hF.o.gr,hF.o.own⟩
theorem Ar (visit:cy->Except Int (List cg)) (cv:Value) (I:World->Prop) (B:Nat) (hI:vO I B) (hV:BJ visit 95 cv I): ∀n,yP visit 95 cv I B n
 | 0=>by intro r st x st' base wb eb sb v w hw; simp[fq]at hw
 | n+1=>FT visit cv I B n hI hV (Ar visit cv I B hI hV n)
open Go Go.RowKit Go.Maps
theorem Fb (visit:cy->Except Int (List cg)) (cv:Value) (I:World->Prop) (n:Nat) (root:cy) (res:Except Int (List cy)) (w:World) (hI:vO I w.heap.size) (hV:BJ visit 95 cv I) (hi:I w) (hr:dY root)
  (hn:lT visit n root=some res) (hl: ∀p,fq visit n root ([],[])=some p->p.2.2.length<1099511627775):
  Calls Tryz.prog 94 #[ef root, .func (.func 95) #[cv] #[]] w (sH res w):=by
 have HI:=am hI;have HV:=am hV;have hB:=am hi;have HR:=am hr;have HL:=am hl;have hG:= @run_makeMap Tryz.prog;have hu:=am ((au w.heap.size w).alloc (ak _) (.cells #[.string root.name, .int .i64 root.gen, .int .i64 root.size] 26));have hd:=am (aF w (.cells #[.string root.name, .int .i64 root.gen, .int .i64 root.size] 26));unfold ef;clear hI hV hi hr hl
 cases hv:lm root
 ·have ha:=am (show res= .error 1 by rw[lT,if_neg (by rw[hv]; simp)]at hn; exact(bC hn).symm);have hp:=am hv;clear hv hn
  go_enter Tryz.func94,Tryz.ntmps94
  go_wp2_with fail;refine(io root false _ HR.o hp.o).mono ?_;rintro e w1 ⟨rfl,hc⟩;have hj:=am (ar hu.o hc);clear hc;go_wp2_with fail
  go_ret2
  exact⟨hj.o,by rw[ha.o]; exact⟨rfl,by decide⟩⟩
 ·have hp:=am hv;obtain⟨⟨x,st⟩,hs,hf⟩: ∃p,fq visit n root ([],[])=some p/\res=(if p.1=0 then .ok p.2.2 else .error p.1):=by
   rw[lT,if_pos hv,gk]at hn;obtain⟨p,h1,h2⟩:=hn;exact⟨p,h1,h2.symm⟩
  have hD:=am hs;have ha:=am hf;have hC:=am (HL.o _ hs);clear hv hn hs hf
  go_enter Tryz.func94,Tryz.ntmps94
  go_wp2_with fail;refine(io root true _ HR.o hp.o).mono ?_;rintro e w1 ⟨rfl,hc⟩;have hj:=am (ar hu.o hc);have hb:=(hc.block w.heap.size (by simp)).trans hd.o;have he:=am hb;have hF:=aw hb;clear hc hb hd;obtain⟨W,hW⟩: ∃W:World,W=((w1.alloc (.map #[] 0)).alloc (.map #[] 0)).alloc (.cells #[.func (.func 95) #[cv] #[], .map (some w1.heap.size), .map (some (w1.heap.size+1)), .slice none 0 0] 191):=⟨_,rfl⟩
  have HK:=am (show my W w.heap.size (w1.heap.size+1+1) w1.heap.size (w1.heap.size+1) (.func (.func 95) #[cv] #[]) (.slice none 0 0) [] [] by rw[hW]; exact DZ);have hq:Below w1.heap.size w1 W:=by rw[hW]; exact((eK).alloc (by simp) _).alloc (by simp; omega) _
  have hg:=am (ar hj.o hq);have hm:=am ((hq.block w.heap.size hF).trans he.o);obtain⟨q0,q1,q2,_⟩:=aU hm.o;obtain⟨r0,r1,r2,_⟩:=aU he.o;have hA:=am (HI.o w W hB.o (fX.of_below hg.o));clear hq
  go_upto_region 4 with(fail)
  rw[<-hW];clear hW;go_wp2_with fail;refine(Ar visit cv I w.heap.size HI.o HV.o n root ([],[]) x st w.heap.size (w1.heap.size+1+1) w1.heap.size (w1.heap.size+1) (.slice none 0 0) W hD.o hC.o HK.o HR.o hA.o ⟨ak _,by omega,by omega,by omega⟩ hg.o.size).mono ?_;rintro e w2 ⟨rfl,v2,hh,hz,hE⟩;have hy:=am hh;have hw:=am (show Below w.heap.size w w2 from hg.o.trans (hz.below hg.o.size (fun k hk=>un HK.o ⟨ak _,by omega,by omega,by omega⟩ hk)))
  obtain⟨a2,c2,rfl⟩:=hh.shape;have d3:=bL (k:=3) hh.box;simp only[ai,aj,ah]at d3;clear hh hz hE q0 q1 q2 r0 r1 r2
  by_cases hx:x=0
  ·subst hx;have ho:=am (show res= .ok st.2 by rw[ha.o]; simp);go_wp2_with fail
   go_ret2
   exact⟨hw.o,by rw[ho.o]; exact⟨_,rfl,dy.same (nT hy.o.row hy.o.ok) (fun k _ hS=>⟨hS.1,rfl⟩)⟩⟩
  ·have e1:(x != 0)=true:=by simp[hx]
   have ho:=am (show res= .error x by rw[ha.o]; simp[hx]);have HX:=am hx;clear hx;go_wp2_with fail
   go_ret2
   exact⟨hw.o,by rw[ho.o]; exact⟨rfl,HX.o⟩⟩
theorem kE.pres {B:Nat} {cv:Value} {cs:List (ByteArray×List UInt8)} :BJ (lq cs) 95 cv (kE B cv cs):=fun W r hI hr=>(Dn (· <B) cv cs r W hI.cont hr hI.env).mono fun _ _ h=>h
def kR (cs:List (ByteArray×List UInt8)) (rs:List cy):List cy:=rs.filter fun r=>(gE cs r.name).isNone
def OR (cs:List (ByteArray×List UInt8)) (res:Except Int (List cy)):Except Int (List cy):=match res with
 | .error x=> .error x
 | .ok rs=> .ok (kR cs rs)
theorem Bv {P:Program} {ops:Array Oper} {rest:List Oper} {o:Oper} {a:Act} {Q:Exit->Act->World->Prop} {t e:TypeId} {sz bytes:Nat} (T:kf P t e sz bytes) (hgd:o.guard=none) (s x:Operand)
  (ho:o.op= .call {callee:= .builtin .append,args:= #[s,x],argTypes:= #[t,t]}) (base:Nat) (v:Value) (n:Nat) (xs:List Value) (hs:a.eval s=v) (w0:World) (news:List Value) (e2:TypeId)
  (hx:a.eval x= .slice (some ⟨w0.heap.size,0,none⟩) 1 1) (hl:news.length=sz) (h1: ∀u∈news,u.oneCell'=true) (hown:w0.ownsRow base e sz v n xs) (h63:n+1<=maxLen) (hby:(n+1)*bytes<=140737488355328) (hbase:base<=w0.heap.size)
  (h: ∀v' w',w'.ownsRow base e sz v' (n+1) (xs++news)->w0.grownBy w' v.ownBlock->v'≠ .slice none 0 0->wpList P ops Q rest (a.put o.dst v') w'):wpList P ops Q (o::rest) a (w0.alloc (.cells news.toArray e2)):=by
 obtain⟨ht,⟨i,z,hc,hd,he,hf,hm⟩,hb,hq⟩:=T;have ha: ∀(j:Nat) u,news[j]? =some u->(w0.alloc (.cells news.toArray e2)).cell? ((⟨w0.heap.size,0,none⟩:Addr).add j)=some u:=by
  intro j u hj;rw[vB,bS];have hh:=aF w0 (.cells news.toArray e2);simp only[World.cell?,hh];simp[hj]
 have hn:news.length=1*sz:=by rw[hl,Nat.one_mul]
 obtain⟨v',w',hr,h2,hg,hv⟩:=run_append_own (P:=P) (w0.alloc (.cells news.toArray e2)) base t o.type e i z sz bytes ht hc hd he hf hm hb v n xs (hown.alloc _) ⟨w0.heap.size,0,none⟩ 1 1 news hn ha h1 h63 hby (by simp; omega);refine gw hgd fun K hK=> ?_
 unfold Oper.wp execOp;simp only[ho,resolve,invoke,builtin,Sem.run_bind,Sem.run_pure,iE,iU,cB,eE,hs,hx,hr];refine hK _ _ (h v' w' h2 ⟨hg.os,hg.tape,hg.output,by have:=hg.size; simp at this; omega,fun k hk hp=> ?_⟩ (fun e=>by have:=(hv.1 e).2; omega));rw[hg.block k (by simp; omega) hp];exact cN _ _ _ hk
theorem EE (cs:List (ByteArray×List UInt8)) (rs:List cy) (r:cy):kR cs (rs++[r])=if(gE cs r.name).isNone=true then kR cs rs++[r]else kR cs rs:=by
 unfold kR; rw[gD]
 by_cases h:(gE cs r.name).isNone=true<;> simp[List.filter,h]
theorem LL (cs:List (ByteArray×List UInt8)) (rs:List cy):(kR cs rs).length<=rs.length:=dH _ _
theorem Bd (S:Nat->Prop) (cv:Value) (cs:List (ByteArray×List UInt8)) (n:Nat) (root:cy) (res:Except Int (List cy)) (w:World) (hc:fW S w cv cs) (henv:nY w) (hr:dY root)
  (hn:lT (lq cs) n root=some res) (hl: ∀p,fq (lq cs) n root ([],[])=some p->p.2.2.length<1099511627775) (hle: ∀rs,res= .ok rs->rs.length<1099511627775):
  Calls Tryz.prog 37 #[ef root,cv] w (sH (OR cs res) w):=by
 have hQ: ∀(fn:Fn) (first cap:Array Value) (w:World),(Instr.makeFunc fn first cap).run Tryz.prog w= .ok (.func fn first cap) w:=fun _ _ _ _=>rfl
 have hs:=am ((au w.heap.size w).alloc (ak _) (.cells #[.string root.name, .int .i64 root.gen, .int .i64 root.size] 26));have HC:=am hc;have HI:=am (kE.start (hc.below hs.o) (henv.below hs.o));have HR:=am hr;have HN:=am hn;have HL:=am hl;unfold ef;clear hc henv hr hn hl
 go_enter Tryz.func37,Tryz.ntmps37
 go_wp2_with fail;refine(Fb (lq cs) cv _ n root res _ kE.keep kE.pres HI.o HR.o HN.o HL.o).mono ?_;rintro e w1 ⟨hD,hj⟩;have ho:=am (ar hs.o hD);clear hD
 cases res with
 | error x=>
  obtain⟨rfl,hx⟩:=hj;have HX:=am hx;have e1:(x != 0)=true:=by simp[hx]
  clear hx;go_wp2_with fail
  go_ret2
  exact⟨ho.o,rfl,HX.o⟩
 | ok rs=>
  obtain⟨v,rfl,hv⟩:=hj;have hT:=hle rs rfl;obtain⟨a,cap,rfl,hO,hm,-⟩:=cP.shape hv oU.len;unfold maxLen at hm;have HV:=am hv;clear hv hle;go_wp2_with fail
  go_loopw [8,25] (fun o i wr=> ∃k:Nat,k<=rs.length/\i= .int .i64 k/\wr.ownsRow w1.heap.size 26 3 o (kR cs (rs.take k)).length ((kR cs (rs.take k)).flatMap jg)/\Below w1.heap.size w1 wr/\ ∀r∈kR cs (rs.take k),dY r) (fun _ i _=>rs.length-(intOf i).toNat)
  case atStart=>exact⟨0,aW _,rfl,bM _ _ _ _,au _ _,by simp[kR]⟩
  case round=>
   obtain⟨k,hk,rfl,hg,hb,hE⟩:=hrel;have HO:=am hg;have HB:=am hb;have hu:=am hE;obtain⟨ao,co,rfl,hR,hP⟩:=aH hg;have hA:=LL cs (rs.take k);rw[bm]at hA;clear hg hb hE
   by_cases hN:k<rs.length
   ·obtain⟨r,hr⟩: ∃r,rs[k]? =some r:=⟨rs[k],by simp[hN]⟩;obtain⟨b,o,rfl,hh,q0,q1,q2⟩:=lH HV.o HB.o hr;have hJ:=am hh;have hC:=am (show kR cs (rs.take (k+1))=if(gE cs r.name).isNone=true then kR cs (rs.take k)++[r]else kR cs (rs.take k) by rw[dL hr,EE]);have hq:=hh.nm;clear hr hh
    go_upto_region 8 with(fail)
    obtain⟨W,hW⟩: ∃W:World,W=wr.alloc (.cells #[.string r.name, .int .i64 r.gen, .int .i64 r.size] 26):=⟨_,rfl⟩;rw[<-hW];have hy:Below wr.heap.size wr W:=by rw[hW]; exact eK
    have hH:=am (show W.heap[wr.heap.size]? =some (.cells #[.string r.name, .int .i64 r.gen, .int .i64 r.size] 26 (0,0)) by rw[hW]; exact aF wr _);have hp:=am (ar HB.o hy);have hw:=am (jv HO.o hy);have hB:=am (HC.o.below (ar ho.o hp.o));have hF:=hp.o.size;obtain⟨p0,p1,p2,_⟩:=aU hH.o;clear hW hy q0 q1 q2
    cases hf:gE cs r.name with
    | none=>
     have hM:=hB.o.missM hq hf;have ha:=am (hC.o.trans (if_pos (by rw[hf]; rfl)));clear hf hq;go_wp2_with (at_builtin; go_must (refine Bv Tryz.appRefs rfl _ _ rfl w1.heap.size (.slice ao (kR cs (rs.take k)).length co) (kR cs (rs.take k)).length ((kR cs (rs.take k)).flatMap jg) rfl W [.string r.name, .int .i64 r.gen, .int .i64 r.size] _ rfl rfl (qF (r:=r)) hw.o (by unfold maxLen; omega) (by omega) hF ?_); intro v' wc he hd _; have hG:=am (bX hp.o hw.o hd (ak _) hF); have hI:=am (show wc.ownsRow w1.heap.size 26 3 v' (kR cs (rs.take (k+1))).length ((kR cs (rs.take (k+1))).flatMap jg) by rw[ha.o,an,bP]; simpa [jg]using he); obtain⟨ae,ce,rfl,-,-⟩:=aH he; clear he hd)
     go_roundw
     case rel=>
      refine⟨k+1,by omega,by go_num,hI.o,hG.o, ?_⟩;rw[ha.o];intro x hx
      rcases aT.1 hx with hx | hx
      ·exact hu.o x hx
      ·simp only[aM]at hx; subst hx; exact hJ.o
     case measure=>simp[intOf]; omega
    | some bs=>
     obtain⟨v,hM,-⟩:=hB.o.hitM hq hf;have ha:=am (hC.o.trans (if_neg (by rw[hf]; simp)));clear hf hq;go_wp2_with fail
     go_roundw
     case rel=>exact⟨k+1,by omega,by go_num,by rw[ha.o]; exact hw.o,hp.o,by rw[ha.o]; exact hu.o⟩
     case measure=>simp[intOf]; omega
   ·obtain rfl:k=rs.length:=by omega
    have hL:=am (show kR cs (rs.take rs.length)=kR cs rs by rw[bB (ak _)]);have hz:=ho.o.size;go_wp2_with fail
    go_ret2
    refine⟨ar ho.o HB.o, ?_⟩
    show ∃v,_/\dy _ _ v (kR cs rs)
    rw[<-hL.o];exact⟨_,rfl,dy.same (nT HO.o hu.o) (fun k _ hS=>⟨ay hz hS.1,rfl⟩)⟩
end Go.Proofs.YtpffpjbkbaleiaaGreatDoor
namespace Go.Proofs.YtpffpjbkbaleiaaGreatDoor
open Go.RowKit
def NE (cs:List (ByteArray×List UInt8)) (miss:cy->Except Int (List cy)):Prop:= ∀(S:Nat->Prop) (cv:Value) (root:cy) (w:World),fW S w cv cs->nY w->dY root->Calls Tryz.prog 37 #[ef root,cv] w (sH (miss root) w)
open Go Go.RowKit Go.Maps
theorem Fi {cs:List (ByteArray×List UInt8)} {r:cy} {l:List cg} (h:lq cs r= .ok l) {it:cg} (hit:it∈l): ∀c∈qy it,c∈oK cs:=by
 unfold lq at h
 cases hn:gh cs r with
 | error x=>
  rw[hn]at h;simp only at h
  split at h
  ·simp only[dp]at h; subst h; simp at hit
  ·simp at h
 | ok l'=>
  rw[hn]at h;simp only[dp]at h;subst h;exact xg hn hit
theorem xX {cs:List (ByteArray×List UInt8)} {U:List cy} (hU: ∀c∈oK cs,c∈U): ∀n,La U (fq (lq cs) n) n
 | 0=>fun r st hr hi hn=>by
  have:=mD hi.e1 hi.e2;omega
 | n+1=>fun r st hr hi hn=>by
  have hm:tP U (st.1,cO r st.2):=⟨hi.e1,hi.e2,nM hi.l1,fun x hx=>by
   rcases lC.1 hx with hx | rfl
   ·exact hi.l2 x hx
   ·exact hr⟩
  rw[fq]
  split
  ·exact⟨0,_,rfl,hm,ak _⟩
  ·rename_i hne;have he:tP U (st.1++[r],cO r st.2):=⟨fc.2 ⟨hi.e1,by simp,fun a ha b hb e=>by simp only[aM]at hb; subst hb e; exact hne ha⟩,fun x hx=>by
    rcases aT.1 hx with hx | hx
    ·exact hi.e2 x hx
    ·simp only[aM]at hx; subst hx; exact hr,hm.l1,hm.l2⟩
   cases hv:lq cs r with
   | error x=>exact⟨x,_,rfl,he,by simp⟩
   | ok l=>
    obtain⟨x,st',h1,h2,h3⟩:=pN (xX hU n) l (st.1++[r],cO r st.2) (fun it hit c hc=>hU c (Fi hv hit c hc)) he (by simp; omega);exact⟨x,st',h1,h2,by simp at h3; omega⟩
theorem xw (cs:List (ByteArray×List UInt8)) (r:cy): ∃x st',fq (lq cs) (mQ cs) r ([],[])=some (x,st')/\tP (r::oK cs) st':=by
 obtain⟨x,st',h1,h2,_⟩:=xX (cs:=cs) (U:=r::oK cs) (fun c hc=>by simp[hc]) (mQ cs) r ([],[]) (by simp) ⟨by simp,by simp,by simp,by simp⟩ (by simp[mQ]);exact⟨x,st',h1,h2⟩
def GT (cs:List (ByteArray×List UInt8)) (r:cy):Except Int (List cy):=(lT (lq cs) (mQ cs) r).getD (.error 0)
def Me (cs:List (ByteArray×List UInt8)) (r:cy):Except Int (List cy):=OR cs (GT cs r)
theorem xu {cs:List (ByteArray×List UInt8)} (h:cs.length<=80) (r:cy):lT (lq cs) (mQ cs) r=some (GT cs r)/\ ∀p,fq (lq cs) (mQ cs) r ([],[])=some p->p.2.2.length<=1000000000:=by
 obtain⟨x,st',h1,h2⟩:=xw cs r;refine⟨?_,fun p hp=> ?_⟩
 ·unfold GT;have: ∃y,lT (lq cs) (mQ cs) r=some y:=by
   unfold lT
   split
   ·rw[h1]; exact⟨_,rfl⟩
   ·exact⟨_,rfl⟩
  obtain⟨y,hy⟩:=this;rw[hy]; rfl
 ·rw[h1]at hp;simp only[aV]at hp;subst hp;have h3:=mD h2.l1 h2.l2;have h4:=zb (cs:=cs);have h5:cs.length*3948544<=80*3948544:=cY _ h;simp only[aD]at h3;simp only;omega
theorem Mx {cs:List (ByteArray×List UInt8)} (h:cs.length<=80) {r:cy} {l:List cy} (hl:GT cs r= .ok l):l.length<=1000000000:=by
 obtain⟨h1,h2⟩:=xu h r;obtain⟨x,st',h3,_⟩:=xw cs r;have h4:=h2 _ h3;rw[hl]at h1;unfold lT at h1
 split at h1
 ·rw[h3]at h1;simp only[eo,aV]at h1
  split at h1
  ·simp only[dp]at h1; subst h1; exact h4
  ·simp at h1
 ·simp at h1
theorem yt {cs:List (ByteArray×List UInt8)} (h:cs.length<=80):NE cs (Me cs):=fun S cv root w hc he hr=>by
 obtain⟨h1,h2⟩:=xu h root;exact Bd S cv cs (mQ cs) root _ w hc he hr h1 (fun p hp=>by have:=h2 p hp; omega) (fun rs hrs=>by have:=Mx h hrs; omega)
end Go.Proofs.YtpffpjbkbaleiaaGreatDoor
namespace Go.Proofs.YtpffpjbkbaleiaaGreatDoor
open Go.RowKit
def wV (c:UInt8):ByteArray:=⟨#[c,49,50,51,52,53,54,55,56,57,97,98,99,100,101,102,48,49,50,51,52,53,54,55,56,57,97,98,99,100,101,102]⟩
def eX :dh:=⟨wV 110,wV 115,wV 99,wV 105,wV 116⟩
def kP :fN:=⟨2,6,1,1,0⟩
def oE :List dl:=[⟨⟨#[97]⟩,1,0,0,[],⟨#[]⟩⟩,⟨⟨#[100]⟩,2,0,0,[],⟨#[]⟩⟩,⟨⟨#[100,47,108]⟩,3,5,6,[],⟨#[97]⟩⟩]
def rA :List UInt8:=[1,1,108,3,5,6,1,97]
def qG :cy:=bA eX [] rA
def sY :cg:=⟨⟨#[97]⟩,1,0,0,0,⟨#[]⟩,[],er⟩
def KJ :cg:=⟨⟨#[100]⟩,2,0,0,0,⟨#[]⟩,[],qG⟩
def itL :cg:=⟨⟨#[108]⟩,3,5,6,0,⟨#[97]⟩,[],er⟩
def tY :List UInt8:=fO [sY,KJ]
def mL :cy:=bA eX [] tY
def wu :List (ByteArray×List UInt8):=[(mL.name,tY)]
theorem CM :jx eX=true:=by decide+kernel
theorem Gt :jG kP=true:=by decide+kernel
theorem Ng :iy oE=0:=by decide+kernel
theorem NS :fO [itL]=rA:=by decide+kernel
theorem Pk :gV oE ⟨#[]⟩=[⟨⟨#[97]⟩,1,0,0,[],⟨#[]⟩⟩,⟨⟨#[100]⟩,2,0,0,[],⟨#[]⟩⟩]:=by decide+kernel
theorem Pl :gV oE ⟨#[100]⟩=[⟨⟨#[100,47,108]⟩,3,5,6,[],⟨#[97]⟩⟩]:=by decide+kernel
theorem Pi :jf [0]=some []:=by kernel_rfl
theorem vn0 :jy []=true:=by decide+kernel
theorem vnL :jy [itL]=true:=by decide+kernel
theorem vnT :jy [sY,KJ]=true:=by decide+kernel
theorem PT :qG≠mL:=by decide+kernel
theorem Pr :qG.name≠mL.name:=by decide+kernel
theorem PY (n:Nat):gU eX [] kP [] (n+1) ⟨#[]⟩= .ok ([0],[[0]]):=by
 rw[gU,show gX eX [] kP (gU eX [] kP [] n) ⟨#[]⟩ (gV [] ⟨#[]⟩) [] []= .ok ([],[])from rfl];simp only[if_pos vn0];rw[if_pos (show(fO []).length<=32768 by decide)]
 rfl
theorem Qd :dB eX [] [[0]] []=[⟨bA eX [] [0],[0]⟩]:=by
 show jK eX [] [] [0]=_
 unfold jK;rw[if_neg (by simp),aJ]
theorem Pc :ij eX kP [] []= .ok (bA eX [] [0],[⟨bA eX [] [0],[0]⟩]):=by
 unfold ij;rw[if_pos ⟨CM,Gt⟩,if_pos (show([]:List (ByteArray×Int)).all (fun p=>decide (0<=p.2) && decide (p.2<=1099511627776))=true from rfl),if_pos (show iy []=0 from rfl),PY 513]
 dsimp only
 rw[Qd]
theorem PS :dB eX [] [rA,tY] []=[⟨qG,rA⟩,⟨mL,tY⟩]:=by
 unfold dB;rw[ei,ei,List.foldl_nil];have h1:jK eX [] [] rA=[⟨qG,rA⟩]:=by
  unfold jK;rw[if_neg (by simp),aJ]
  rfl
 rw[h1];unfold jK;rw[if_neg]
 ·rfl
 ·intro h;simp only[cB,eE,aM]at h;exact PT h.symm
theorem PZ (n:Nat):gU eX [] kP oE (n+1) ⟨#[100]⟩= .ok (rA,[rA]):=by
 have h:gX eX [] kP (gU eX [] kP oE n) ⟨#[100]⟩ (gV oE ⟨#[100]⟩) [] []= .ok ([itL],[]):=by
  rw[Pl]; rfl
 rw[gU,h];simp only[if_pos vnL,NS]
 rfl
theorem Qa (n:Nat):gU eX [] kP oE (n+2) ⟨#[]⟩= .ok (tY,[rA,tY]):=by
 have h:gX eX [] kP (gU eX [] kP oE (n+1)) ⟨#[]⟩ (gV oE ⟨#[]⟩) [] []= .ok ([sY,KJ],[rA]):=by
  rw[Pk];rw[zD (by rfl),wX (by rfl),show gU eX [] kP oE (n+1) ⟨#[100]⟩= .ok (rA,[rA])from PZ n]
  rfl
 rw[gU,h];simp only[if_pos vnT];rw[if_pos (show(fO [sY,KJ]).length<=32768 by decide+kernel)]
 rfl
theorem Pd :ij eX kP oE []= .ok (mL,[⟨qG,rA⟩,⟨mL,tY⟩]):=by
 unfold ij;rw[if_pos ⟨CM,Gt⟩,if_pos (by rfl),if_pos Ng,show(514:Nat)=512+2 from rfl,Qa 512]
 show Except.ok (mL,dB eX [] [rA,tY] [])=_
 rw[PS]
theorem Pj :jf tY=some [sY,KJ]:=by kernel_rfl
theorem Qc :((tY.length:Nat):Int)=mL.size:=by kernel_rfl
theorem Ml :gh wu mL= .ok [sY,KJ]:=by
 have h:je wu mL= .ok tY:=by
  unfold je wu;rw[gE,if_pos rfl]
  show(if((tY.length:Nat):Int)=mL.size then Except.ok tY else .error 9)=_
  rw[if_pos Qc]
 unfold gh;rw[h];simp only[Pj]
theorem OT :gh wu qG= .error 10:=by
 have h:je wu qG= .error 10:=by
  unfold je wu;rw[gE,if_neg (fun e=>Pr e.symm),gE]
 unfold gh;rw[h]
theorem Nl :lm mL=true:=by decide+kernel
theorem PL (n:Nat):kH wu (jn wu (n+1)) ⟨#[]⟩ [sY,KJ] []=(10,[⟨⟨#[97]⟩,1,0,0,[],⟨#[]⟩⟩,⟨⟨#[100]⟩,2,0,0,[],⟨#[]⟩⟩]):=by
 rw[sC (p:=⟨#[97]⟩) (bs:=[]) rfl (by decide+kernel) (by decide) rfl rfl,ux (p:=⟨#[100]⟩) rfl (by decide+kernel) (by decide) rfl];have h1: ∀X,jn wu (n+1) ⟨#[100]⟩ KJ.node X=(10,X):=fun X=>by
  rw[jn,show KJ.node=qG from rfl,OT]
 rw[h1]
 rfl
theorem PM (n:Nat):jn wu (n+2) ⟨#[]⟩ mL []=(10,[⟨⟨#[97]⟩,1,0,0,[],⟨#[]⟩⟩,⟨⟨#[100]⟩,2,0,0,[],⟨#[]⟩⟩]):=by
 rw[jn,Ml];exact PL n
theorem PK :uZ wu mL= .error 10:=by
 unfold uZ;rw[if_pos Nl,show(514:Nat)=512+2 from rfl,PM 512]
 rfl
theorem PN :kS wu mL ⟨#[97]⟩= .ok sY:=by
 unfold kS;rw[if_pos ⟨by decide+kernel,Nl⟩,show jE (bl ⟨#[97]⟩)=[⟨#[97]⟩] by decide+kernel];rw[pd,if_pos (show(mY mL).kind=2 from rfl),show(mY mL).node=mL from rfl,Ml]
 rfl
theorem Pn :kS wu mL ⟨#[100,47,108]⟩= .error 10:=by
 unfold kS;rw[if_pos ⟨by decide+kernel,Nl⟩,show jE (bl ⟨#[100,47,108]⟩)=[⟨#[100]⟩,⟨#[108]⟩] by decide+kernel];rw[pd,if_pos (show(mY mL).kind=2 from rfl),show(mY mL).node=mL from rfl,Ml]
 show pd wu [⟨#[108]⟩] KJ=_
 rw[pd,if_pos (show KJ.kind=2 from rfl),show KJ.node=qG from rfl,OT]
theorem PO :Me wu mL= .ok [qG]:=by kernel_rfl
open Go Go.RowKit Go.Maps
theorem ow {tree:List dl} {j:Nat} {e:dl} (h:tree[j]? =some e) (d:ByteArray):gV (tree.take (j+1)) d=gV (tree.take j) d++(if cr (bl e.path)=bl d then [e]else []):=by
 unfold gV;rw[dL h,gD]
 congr 1
 by_cases hp:cr (bl e.path)=bl d
 ·simp[hp]
 ·simp[hp]
theorem uQ {G:List Bx} {d:ByteArray} (h:G.find? (fun g=>decide (g.dir=d))=none):mg G d=[]:=by unfold mg; rw[h]
theorem ol {G:List Bx} {d:ByteArray} {g:Bx} (h:G.find? (fun g=>decide (g.dir=d))=some g):mg G d=g.ents.map Prod.snd:=by unfold mg; rw[h]
theorem uR {A B:List Bx} {g g':Bx} (hd:g'.dir=g.dir) (hA: ∀x∈A,x.dir≠g.dir) (d:ByteArray):mg (A++g'::B) d=if g.dir=d then g'.ents.map Prod.snd else mg (A++g::B) d:=by
 by_cases h:g.dir=d
 ·rw[if_pos h];refine ol ?_;rw[iC,eM.2 (fun x hx=>by rw[aL]; intro e; exact hA x hx (e.trans h.symm))];simp[hd,h]
 ·rw[if_neg h];unfold mg;rw[iC,iC,List.find?_cons,List.find?_cons,cD (show ¬g'.dir=d by rw[hd]; exact h),cD h]
theorem wI {G:List Bx} {g:Bx} (h:G.find? (fun x=>decide (x.dir=g.dir))=none) (d:ByteArray):mg (G++[g]) d=if g.dir=d then g.ents.map Prod.snd else mg G d:=by
 by_cases hd:g.dir=d
 ·rw[if_pos hd];refine ol ?_;rw[<-hd,iC,h];simp
 ·rw[if_neg hd];unfold mg;rw[iC]
  cases G.find? (fun x=>decide (x.dir=d))with
  | none=>simp[hd]
  | some x=>simp
section
variable {w w1 w2 : World} {base im : Nat} {A B G : List Bx} {g : Bx} {v' : Value} {y : pw} {q : ByteArray}
theorem qm.over (h:qm w base im (A++g::B)) (hb:base<=im) (hd:eH (· <base) w y.1 y.2.data/\mN y.2) (hown:w1.ownsRow base 79 6 v' (g.ents.length+1) (jl g.ents++wF y.1 y.2)) (hg:w.grownBy w1 g.val.ownBlock) (hpl: ∀i,v'.ownBlock=some i->g.val.ownBlock=some i\/w.heap.size<=i)
  (hm:ja Tryz.prog 9 w2 im (A.map nH++(.string g.dir,v')::B.map nH)) (hg2:w1.grownBy w2 (some im)):qm w2 base im (A++⟨g.dir,v',g.ents++[y]⟩::B):=by
 have hj:w.ownsRow base 79 6 g.val g.ents.length (jl g.ents):=h.own g (by simp);have hq:w.heap[im]? =w1.heap[im]? ->True:=fun _=>trivial
 have hh: ∀ {u:Value} {n:Nat} {xs:List Value} {t:TypeId} {sz:Nat},w1.ownsRow base t sz u n xs->w2.ownsRow base t sz u n xs:=fun {u n xs t sz} hr=>by
  refine hr.kept hg2 (.inr (fun e=> ?_));obtain⟨cs,hc⟩:=bI hr e;have h0:=h.map.lt;have hi:w1.heap[im]? =w.heap[im]? :=hg.block im h0 (fun e2=>by
   obtain⟨cs2,hk⟩:=bI hj e2.symm;exact h.map.ncells hk)
  exact h.map.ncells (hi.symm.trans hc)
 have he: ∀x,x∈A\/x∈B-> ∀i,x.val.ownBlock=some i->g.val.ownBlock≠some i:=by
  intro x hx i hi;have hp:=em.1 h.apart
  rcases hx with hx | hx
  ·exact hp.2.2 x hx g (by simp) i hi
  ·intro e;exact(fB.1 hp.2.1).1 x hx i e hi
 have ha: ∀ {u:Value} {bs:List UInt8},eH (· <base) w u bs->eH (· <base) w2 u bs:=fun {u bs} hu=>by
  refine cC.same hu (fun i hi=>(hg2.block i ?_ ?_).trans (hg.block i ?_ ?_))
  ·by_cases hl:i<w.heap.size
   ·exact aP hl hg.size
   ·exact absurd h.map.lt (by omega)
  ·intro e;have:i=im:=by simpa using e
   omega
  ·have:=h.map.lt;omega
  ·intro e;have:=(hj.lt i e.symm).1;omega
 have hn: ∀x,x∈A++g::B->(x∈A\/x∈B)\/x=g:=by
  intro x hx;simp only[aT,aZ]at hx
  rcases hx with hx | hx | hx
  ·exact .inl (.inl hx)
  ·exact .inr hx
  ·exact .inl (.inr hx)
 refine⟨by simpa [nH]using hm,fun x hx=> ?_,fun x hx z hz=> ?_, ?_,fun x hx=> ?_⟩
 ·simp only[aT,aZ]at hx
  rcases hx with hx | hx | hx
  ·refine hh ((h.own x (by simp[hx])).kept hg ?_)
   cases hv:x.val.ownBlock with
   | none=>exact .inl rfl
   | some i=>exact .inr (fun e=>he x (.inl hx) i hv e.symm)
  ·subst hx;simp only;rw[an,bT,wH];exact hh hown
  ·refine hh ((h.own x (by simp[hx])).kept hg ?_)
   cases hv:x.val.ownBlock with
   | none=>exact .inl rfl
   | some i=>exact .inr (fun e=>he x (.inr hx) i hv e.symm)
 ·simp only[aT,aZ]at hx
  rcases hx with hx | hx | hx
  ·have:=h.dat x (by simp[hx]) z hz;exact⟨ha this.1,this.2⟩
  ·subst hx
   rcases aT.1 hz with hz | hz
   ·have:=h.dat g (by simp) z hz;exact⟨ha this.1,this.2⟩
   ·rw[aM]at hz;subst hz;exact⟨ha hd.1,hd.2⟩
  ·have:=h.dat x (by simp[hx]) z hz;exact⟨ha this.1,this.2⟩
 ·have hp:=em.1 h.apart;have hc:=fB.1 hp.2.1;have hf: ∀x,x∈A\/x∈B-> ∀i,x.val.ownBlock=some i->i<w.heap.size:=by
   intro x hx i hi;have ho:x∈A++g::B:=by rcases hx with hx | hx<;> simp[hx]
   exact((h.own x ho).lt i hi).2
  refine em.2 ⟨hp.1,fB.2 ⟨fun x hx i hi e=> ?_,hc.2⟩,fun x hx z hz i hi e=> ?_⟩
  ·rcases hpl i hi with h2 | h2
   ·exact hc.1 x hx i h2 e
   ·have:=hf x (.inr hx) i e;omega
  ·rcases aZ.1 hz with hz | hz
   ·subst hz
    rcases hpl i e with h2 | h2
    ·exact he x (.inl hx) i hi h2
    ·have:=hf x (.inl hx) i hi;omega
   ·exact hp.2.2 x hx z (by simp[hz]) i hi e
 ·simp only[aT,aZ]at hx
  rcases hx with hx | hx | hx
  ·exact h.key x (by simp[hx])
  ·subst hx;exact h.key g (by simp)
  ·exact h.key x (by simp[hx])
theorem qm.new (h:qm w base im G) (hb:base<=im) (hq:q.size<=maxLen) (hd:eH (· <base) w y.1 y.2.data/\mN y.2) (hown:w1.ownsRow base 79 6 v' 1 (wF y.1 y.2)) (hg:w.grownBy w1 none) (hpl: ∀i,v'.ownBlock=some i->w.heap.size<=i)
  (hm:ja Tryz.prog 9 w2 im (G.map nH++[(.string q,v')])) (hg2:w1.grownBy w2 (some im)):qm w2 base im (G++[⟨q,v',[y]⟩]):=by
 have he: ∀ {u:Value} {n:Nat} {xs:List Value} {t:TypeId} {sz:Nat},w1.ownsRow base t sz u n xs->w2.ownsRow base t sz u n xs:=fun {u n xs t sz} hr=>by
  refine hr.kept hg2 (.inr (fun e=> ?_));obtain⟨cs,hc⟩:=bI hr e;have h0:=h.map.lt;have hi:w1.heap[im]? =w.heap[im]? :=hg.block im h0 (by simp);exact h.map.ncells (hi.symm.trans hc)
 have ha: ∀ {u:Value} {bs:List UInt8},eH (· <base) w u bs->eH (· <base) w2 u bs:=fun {u bs} hu=>by
  have h0:=h.map.lt;refine cC.same hu (fun i hi=>(hg2.block i ?_ ?_).trans (hg.block i ?_ (by simp)))
  ·have:=hg.size;omega
  ·intro e;have:i=im:=by simpa using e
   omega
  ·skip
   omega
 refine⟨by simpa [nH]using hm,fun x hx=> ?_,fun x hx z hz=> ?_,em.2 ⟨h.apart,by simp,fun x hx z hz i hi e=> ?_⟩,fun x hx=> ?_⟩
 ·rcases aT.1 hx with hx | hx
  ·exact he ((h.own x hx).kept hg (by cases hv:x.val.ownBlock<;> simp))
  ·rw[aM]at hx;subst hx
   simpa [jl]using he hown
 ·rcases aT.1 hx with hx | hx
  ·have:=h.dat x hx z hz;exact⟨ha this.1,this.2⟩
  ·rw[aM]at hx;subst hx;simp only[aM]at hz;subst hz;exact⟨ha hd.1,hd.2⟩
 ·rw[aM]at hz;subst hz;have h1:=hpl i e;have h2:=((h.own x hx).lt i hi).2;omega
 ·rcases aT.1 hx with hx | hx
  ·exact h.key x hx
  ·rw[aM]at hx;subst hx;exact hq
end
def Is (k:dh) (gs:List (ByteArray×Int)) (c:fN) (tree:List dl):List cy:=
 (tree.flatMap fun e=>(fZ c e.data).map (bA k gs))++(List.range 515).flatMap fun n=>(⟨#[]⟩::tree.map dl.path).flatMap fun d=>match gU k gs c tree n d with
  | .ok p=>[bA k gs p.1]
  | .error _=>[]
theorem Gh {k:dh} {gs:List (ByteArray×Int)} {c:fN} {tree:List dl} (hc:jG c=true) (hl:tree.length<=4096) (hv: ∀e∈tree,ig e=true):(Is k gs c tree).length<=100000000000:=by
 have h1:=mz (fun e:dl=>(fZ c e.data).map (bA k gs)) 1048576 tree (fun e he=>by
  rw[aB];have:=AR hc e.data;have:=(mf (hv e he)).2.2
  omega)
 have h2:=mz (fun n:Nat=>(⟨#[]⟩::tree.map dl.path).flatMap fun d=>match gU k gs c tree n d with
  | .ok p=>[bA k gs p.1]
  | .error _=>[]) 4097 (List.range 515) (fun n _=>by
   have h3:=mz (fun d=>match gU k gs c tree n d with
    | .ok p=>[bA k gs p.1]
    | .error _=>[]) 1 (⟨#[]⟩::tree.map dl.path) (fun d _=>by
     cases gU k gs c tree n d<;> simp)
   simp only[aD,aB]at h3
   omega)
 rw[List.length_range]at h2;have h4:tree.length*1048576<=4096*1048576:=cY _ hl;unfold Is;rw[an];omega
theorem Gi {k:dh} {gs:List (ByteArray×Int)} {c:fN} {tree:List dl} : ∀e∈tree,∀y∈fZ c e.data,bA k gs y∈Is k gs c tree:=fun e he y hy=>
 aT.2 (.inl (dz.2 ⟨e,he,aS.2 ⟨y,hy,rfl⟩⟩))
theorem Gj {k:dh} {gs:List (ByteArray×Int)} {c:fN} {tree:List dl} : ∀(n:Nat) (d:ByteArray) (p:List UInt8×List (List UInt8)),n<=514->(d.size=0\/ ∃e∈tree,e.path=d)->gU k gs c tree n d= .ok p->bA k gs p.1∈Is k gs c tree:=fun n d p hn hd hp=>by
 refine aT.2 (.inr (dz.2 ⟨n,dO.2 (by omega),dz.2 ⟨d, ?_, ?_⟩⟩))
 ·rcases hd with hd | ⟨e,he,rfl⟩
  ·have:d=⟨#[]⟩:=by
    apply kL
    exact bp (by rw[<-bh]; exact hd)
   simp[this]
  ·exact fM _ (aS.2 ⟨e,he,rfl⟩)
 ·rw[hp]; simp
theorem IB {a:Act} {w:World} {b:Nat} {x0 x1 x2 e9 e10:Value} (h:w.heap[b]? =some (.cells #[x0,x1,x2] 26 (0,0)))
  (h8:a.tmps[8]? =some (.pointer (some ⟨b,0,none⟩))) (h9:a.tmps[9]? =some e9) (h10:a.tmps[10]? =some e10):(results Tryz.f22 a.tmps).run Tryz.prog w= .ok (.tuple #[.agg #[x0,x1,x2],e9,e10]) w:=by
 obtain⟨m0,m1,m2,_⟩:=aU h;simp[results,Tryz.results22,go_sem,h8,h9,h10,m0,m1,m2]
theorem jS {a:Act} {w:World} {b:Nat} {a0 a1 a2 x0 x1 x2 e9 e10:Value} {Q:Ending->World->Prop} (h:w.heap[b]? =some (.cells #[a0,a1,a2] 26 (0,0)))
  (h8:a.tmps[8]? =some (.pointer (some ⟨b,0,none⟩))) (h9:a.tmps[9]? =some e9) (h10:a.tmps[10]? =some e10) (hd:a.defers=[])
  (hQ:Q (.returned (.tuple #[.agg #[x0,x1,x2],e9,e10])) (((w.setCell ⟨b,0,none⟩ x0).setCell ⟨b,1,none⟩ x1).setCell ⟨b,2,none⟩ x2)):
  bodyPost Tryz.prog Tryz.f22 Q Exit.ret a (((w.setCell ⟨b,0,none⟩ x0).setCell ⟨b,1,none⟩ x1).setCell ⟨b,2,none⟩ x2):=cM (IB (vj h) h8 h9 h10) hd hQ
def sG (res:Except Int (cy×List cZ)) (w:World) (e:Ending) (w':World):Prop:=Below w.heap.size w w'/\match res with
 | .error x=>e= .returned (.tuple #[.agg #[.string ⟨#[]⟩, .int .i64 0, .int .i64 0], .slice none 0 0, .int .i64 x])/\x≠0
 | .ok p=> ∃v zs,e= .returned (.tuple #[ef p.1,v, .int .i64 0])/\zs.map Prod.snd=p.2/\ii w' w.heap.size v zs
theorem ii.other {w w':World} {base B b:Nat} {v:Value} {zs:List mw} {cs:Array Value} {t:TypeId} {z:Nat×Nat} (h:ii w base v zs) (hb:w.heap[b]? =some (.cells cs t z)) (h1:t≠53) (h2:t≠5) (hB:B<=base) (hs: ∀i,i≠b->w'.heap[i]? =w.heap[i]?):ii w' B v zs:=by
 refine⟨gA (eP h.row (fun i hi hu=>hs i (fun e=> ?_))) hB,fun y hy=>gA (eP (h.dat y hy) (fun i hi hu=>hs i (fun e=> ?_))) hB⟩
 ·subst e;obtain⟨cs2,ha⟩:=bI h.row hu;exact h1 (bU hb ha)
 ·subst e;obtain⟨cs2,ha⟩:=bI (h.dat y hy) hu;exact h2 (bU hb ha)
theorem Gq (S:Nat->Prop) (L:List dl) (v:Value) (x:Int) (w:World) (hv:eI S w v L) (henv:nY w) (hx:iy L=x):Calls Tryz.prog 71 #[v] w fun e w'=>e= .returned (.int .i64 x)/\Below w.heap.size w w':=by
 rw[<-hx]; exact IJ S L v w hv henv
theorem kz.nilKeep {w w':World} {base bb im kb:Nat} {k:dh} {c:fN} {gv:Value} (h:kz w base bb k c gv im kb (.slice none 0 0) []) (hs:w'.heap[bb]? =w.heap[bb]?) (hk:w'.heap[kb]? =w.heap[kb]?):kz w' base bb k c gv im kb (.slice none 0 0) []:=
 ⟨hs.trans h.box,⟨[],rfl,bM _ _ _ _,by simp⟩,h.known.same hk⟩
structure BgI (w4 : World) (base bb im kb : Nat) (k : dh) (c : fN) (gv : Value) (T : List dl) (wr : World) (G : List Bx) : Prop where
 bd:kz wr base bb k c gv im kb (.slice none 0 0) []
 grp:qm wr base im G
 ents: ∀d,mg G d=gV T d
 below:Below base w4 wr
theorem tV (S T:Nat->Prop) (k:dh) (c:fN) (tree:List dl) (gs:List (ByteArray×Int)) (tv gv:Value) (w:World) (hsd:c.seed<18446744073709551616) (ht:eI S w tv tree) (hg:kK T w gv gs) (hE:rz w):
  Calls Tryz.prog 22 #[kq k,kj c,tv,gv] w (sG (ij k c tree gs) w):=by
 obtain⟨ta,tc,rfl,ZP,ZO,-⟩:=cP.shape ht nx.len;unfold maxLen at ZO;obtain⟨n,hn⟩: ∃n,n=tree.length:=⟨_,rfl⟩;rw[<-hn]at ht ZP ⊢;have HN:=am hn;have HT:=am ht;have HG:=am hg;have HE:=am hE;obtain⟨W0,Yj⟩: ∃W0,W0=((w.alloc (.cells #[.string k.nm, .string k.st, .string k.ck, .string k.ix, .string k.tk] 42)).alloc (.cells #[.int .i64 c.mn, .int .i64 c.mx, .int .i64 c.win, .int .i64 c.bits, .int .u64 (c.seed:Int)] 45)).alloc (.cells #[.string ⟨#[]⟩, .int .i64 0, .int .i64 0] 26):=⟨_,rfl⟩
 have Yk:Below w.heap.size w W0:=by rw[Yj]; exact((eK).alloc (by simp) _).alloc (by simp; omega) _
 have Zj:=am Yk;have Zo:=am (show W0.heap[w.heap.size]? =some (.cells #[.string k.nm, .string k.st, .string k.ck, .string k.ix, .string k.tk] 42 (0,0)) by rw[Yj]; exact lW (lW (dZ w _) _) _);have Zy:=am (show W0.heap[w.heap.size+1]? =some (.cells #[.int .i64 c.mn, .int .i64 c.mx, .int .i64 c.win, .int .i64 c.bits, .int .u64 (c.seed:Int)] 45 (0,0)) by rw[Yj]; exact lW (pJ w _ _) _)
 have Zq:=am (show W0.heap[w.heap.size+2]? =some (.cells #[.string ⟨#[]⟩, .int .i64 0, .int .i64 0] 26 (0,0)) by
  rw[Yj];have:=dZ ((w.alloc (.cells #[.string k.nm, .string k.st, .string k.ck, .string k.ix, .string k.tk] 42)).alloc (.cells #[.int .i64 c.mn, .int .i64 c.mx, .int .i64 c.win, .int .i64 c.bits, .int .u64 (c.seed:Int)] 45)) (.cells #[.string ⟨#[]⟩, .int .i64 0, .int .i64 0] 26);rw[show((w.alloc (.cells #[.string k.nm, .string k.st, .string k.ck, .string k.ix, .string k.tk] 42)).alloc (.cells #[.int .i64 c.mn, .int .i64 c.mx, .int .i64 c.win, .int .i64 c.bits, .int .u64 (c.seed:Int)] 45)).heap.size=w.heap.size+2 by simp]at this
  exact this)
 have Ze:=yF k W0 (hE.below Yk).envh;unfold kq at Ze ⊢;unfold kj;have YN:=am Ze;clear ht hg hE hn Yk Ze
 go_enter Tryz.func22,Tryz.ntmps22
 go_upto_region 1 with(fail)
 rw[<-Yj];clear Yj;obtain⟨a0,a1,a2,a3,a4,_⟩:=aU Zo.o
 cases H3:jx k with
 | false=>
  rw[H3]at YN;have HM:=am (show ij k c tree gs= .error 1 by unfold ij; rw[if_neg (by rw[H3]; simp)]);clear H3;go_wp2_with fail;refine YN.o.mono ?_;rintro e w1 ⟨⟨sv,rfl⟩,HS⟩;have YL:=am (ar Zj.o HS);have Yi:=am (dX HS Zq.o);clear HS a0 a1 a2 a3 a4;obtain⟨z0,z1,z2,_⟩:=aU Yi.o;obtain⟨y0,y1,y2,_⟩:=gG Yi.o;go_wp2_with fail;refine jS Yi.o rfl rfl rfl rfl ⟨gZ YL.o (by show w.heap.size<=w.heap.size+2; omega), ?_⟩
  rw[HM.o];exact⟨rfl,by decide⟩
 | true=>
  rw[H3]at YN;have Zn:=am H3;go_wp2_with fail;refine YN.o.mono ?_;rintro e w1 ⟨⟨sv,rfl⟩,HS⟩;have YL:=am (ar Zj.o HS);have ZS:=am HS;have Yi:=am (dX HS Zq.o);have ZB:=am (dX HS Zo.o);have Zk:=am (dX HS Zy.o);clear HS a0 a1 a2 a3 a4;obtain⟨b0,b1,b2,b3,b4,_⟩:=aU Zk.o
  cases H1:jG c with
  | false=>
   have Ym:=am H1;have HM:=am (show ij k c tree gs= .error 1 by unfold ij; rw[if_neg (by rw[H1]; simp)]);have Yb:=oe c false w1 H1;unfold kj at Yb;have Y8:=am Yb;clear H3 H1 Yb;go_wp2_with fail;refine Y8.o.mono ?_;rintro e w2 ⟨rfl,HY⟩;have Yh:=am (ar YL.o HY);have yp:=am (dX HY Yi.o);clear HY b0 b1 b2 b3 b4;obtain⟨z0,z1,z2,_⟩:=aU yp.o
   obtain⟨y0,y1,y2,_⟩:=gG yp.o;go_wp2_with fail;refine jS yp.o rfl rfl rfl rfl ⟨gZ Yh.o (by show w.heap.size<=w.heap.size+2; omega), ?_⟩;rw[HM.o];exact⟨rfl,by decide⟩
  | true=>
   have Ym:=am H1;have Y2:=am (show ij k c tree gs=(if(gs.all fun p=>decide (0<=p.2) && decide (p.2<=1099511627776))=true then
    (if iy tree=0 then(match gU k gs c tree 514 ⟨#[]⟩with
     | .error x=> .error x
     | .ok p=> .ok (bA k gs p.1,dB k gs p.2 []))
    else .error (iy tree))else .error 1) by unfold ij; rw[if_pos ⟨H3,H1⟩]; rfl)
   have Yb:=oe c true w1 H1;unfold kj at Yb;have Y8:=am Yb;clear H3 H1 Yb;go_wp2_with fail;refine Y8.o.mono ?_;rintro e w2 ⟨rfl,HY⟩;have Yh:=am (ar YL.o HY);have yp:=am (dX HY Yi.o);have Zm:=am (dX HY ZB.o);have Zl:=am (dX HY Zk.o);clear HY b0 b1 b2 b3 b4
   rcases HG.o with⟨rfl,Zs⟩ | ⟨gb,rfl,ZE,YP⟩
   ·have ZA:=am Zs;have hr:=fun(w:World)=>run_range_nilMap (P:=Tryz.prog) w 47 9 3 Tryz.underlying47
    have Zt:=fun(w:World) (ty:TypeId) (a b:Nat) (s:Array Nat)=>run_next_nilMap (P:=Tryz.prog) w ty a b s
    clear Zs;go_wp2_with fail;obtain⟨W3,YO⟩: ∃W3:World,W3=w2.alloc (.mapIter none 0 #[] 0):=⟨_,rfl⟩;have ZK: ∀ty,(Instr.next (.pointer (some ⟨w2.heap.size,0,none⟩)) false ty).run Tryz.prog W3= .ok (.tuple #[.bool false]) W3:=by rw[YO]; exact fun ty=>Zt w2 ty _ _ _
    have Yx:Below w2.heap.size w2 W3:=by rw[YO]; exact eK
    have H6:=am (ar Yh.o Yx);have Y5:=am (dX Yx yp.o);have Y0:=am (dX Yx Zm.o);have YU:=am (dX Yx Zl.o);have Ht:=am (show gs.all (fun p=>decide (0<=p.2) && decide (p.2<=1099511627776))=true by rw[ZA.o]; rfl);rw[<-YO];clear hr Zt Yx YO
    go_loopw [14] (fun _ wr=>wr=W3) (fun _ _=>0)
    case atStart=>rfl
    case round=>
     subst hrel
     go_upto_region 9 with(fail)
     have Yq:=am (show ij k c tree gs=(if iy tree=0 then(match gU k gs c tree 514 ⟨#[]⟩with
      | .error x=> .error x
      | .ok p=> .ok (bA k gs p.1,dB k gs p.2 []))
     else .error (iy tree)) by rw[Y2.o,if_pos Ht.o])
     have YH:eI S (wr) (.slice ta n tc) tree:=eI.below HT.o H6.o;have YA:=HE.o.below H6.o;obtain⟨x,hx⟩: ∃x,iy tree=x:=⟨_,rfl⟩;have Yy:=Gq S tree (.slice ta n tc) x (wr) YH YA.env hx;have YW:=am Yy;have hN:=am hx;clear YH YA Yy hx;go_wp2_with fail;refine YW.o.mono ?_;rintro e w4 ⟨rfl,HB⟩;have HU:=am (ar H6.o HB);have Hp:=am (dX HB Y5.o)
     have Y1:=am (dX HB Y0.o);have YV:=am (dX HB YU.o);clear HB
     by_cases Hl:x=0
     ·have e1:(x != 0)=false:=by simp[Hl]
      have Hr:=am (py.1 (hN.o.trans Hl));have Yr:=am (show ij k c tree gs=(match gU k gs c tree 514 ⟨#[]⟩with
       | .error x=> .error x
       | .ok p=> .ok (bA k gs p.1,dB k gs p.2 [])) by rw[Yq.o,if_pos (hN.o.trans Hl)])
      clear Hl;obtain⟨a0,a1,a2,a3,a4,_⟩:=aU Y1.o;obtain⟨b0,b1,b2,b3,b4,_⟩:=aU YV.o;have Za:= @run_makeMap Tryz.prog
      go_upto_region 13 with(fail)
      obtain⟨W5,Hc⟩: ∃W5:World,W5=((w4.alloc (.map #[] 0)).alloc (.map #[] 0)).alloc (.cells #[.string k.nm, .string k.st, .string k.ck, .string k.ix, .string k.tk, .int .i64 c.mn, .int .i64 c.mx, .int .i64 c.win, .int .i64 c.bits, .int .u64 (c.seed:Int), .map none, .map (some w4.heap.size), .slice none 0 0, .map (some (w4.heap.size+1))] 122):=⟨_,rfl⟩;rw[<-Hc];obtain⟨base,hk⟩: ∃base,base=w4.heap.size:=⟨_,rfl⟩
      rw[<-hk]at Hc ⊢;have Zx:=am hk;have HC:BgI w4 base (base+1+1) base (base+1) k c (.map none) [] W5 []:=by
       have e1:(w4.alloc (.map #[] 0)).heap.size=base+1:=by simp[hk]
       have e2:((w4.alloc (.map #[] 0)).alloc (.map #[] 0)).heap.size=base+1+1:=by simp[hk]
       have h1:=ja.made (P:=Tryz.prog) (k:=9) w4;have h2:=jC.made (w4.alloc (.map #[] 0));rw[e1]at h2;rw[<-hk]at h1;have h3:=dZ ((w4.alloc (.map #[] 0)).alloc (.map #[] 0)) (.cells #[.string k.nm, .string k.st, .string k.ck, .string k.ix, .string k.tk, .int .i64 c.mn, .int .i64 c.mx, .int .i64 c.win, .int .i64 c.bits, .int .u64 (c.seed:Int), .map none, .map (some base), .slice none 0 0, .map (some (base+1))] 122)
       rw[e2]at h3;have YG:W5.heap[base]? =(w4.alloc (.map #[] 0)).heap[base]? :=by rw[Hc]; exact(cN _ _ _ (by rw[e2]; omega)).trans (cN _ _ _ (by rw[e1]; omega))
       have Zd:W5.heap[base+1]? =((w4.alloc (.map #[] 0)).alloc (.map #[] 0)).heap[base+1]? :=by rw[Hc]; exact cN _ _ _ (by rw[e2]; omega)
       refine⟨⟨by rw[Hc]; exact h3,⟨[],rfl,bM _ _ _ _,by simp⟩,h2.same Zd⟩,⟨h1.same YG,by simp,by simp,fa,by simp⟩,fun d=>rfl, ?_⟩;rw[Hc,hk];exact((eK).alloc (by simp) _).alloc (by simp; omega) _
      have Yl:=am HC;have hR:w.heap.size+2<base:=by have:=aw Hp.o; omega
      have hL:w.heap.size<=base:=by omega
      clear Hc a0 a1 a2 a3 a4 b0 b1 b2 b3 b4 Za hk HC;go_wp2_with fail
      go_loopw [64] (fun i wr=> ∃(j:Nat) (G:List Bx),j<=n/\i= .int .i64 (j:Int)/\BgI w4 base (base+1+1) base (base+1) k c (.map none) (tree.take j) wr G) (fun i _=>n-(intOf i).toNat)
      case atStart=>exact⟨0,[],aW _,rfl,Yl.o⟩
      case round=>
       obtain⟨j,G,hj,rfl,YC⟩:=hrel;rename_i wq;have hm:=am YC;clear YC Yl
       by_cases z8:j<n
       ·obtain⟨e,he⟩: ∃e,tree[j]? =some e:=⟨tree[j]'(by rw[<-HN.o]; exact z8),by simp⟩;have hM:Below w.heap.size w wr:=HU.o.trans (hm.o.below.mono hL);obtain⟨b,o,dv,rfl,-,-,Yz,HH,-,p0,p1,p2,p3,p4,p5⟩:=ki (eI.below HT.o hM) he;obtain⟨da,dc,rfl,-,-⟩:=eH.slice Yz;have Yn:=am (show eH (· <base) wr (.slice da e.data.length dc) e.data/\mN e from by
         obtain⟨b9,o9,dv9,z4,_,_,z3,_,_,_,_,_,_,YE,_⟩:=ki HT.o he
         cases z4
         have hq:=(hM.cell (p:=⟨b,o+j*6+4,none⟩) (cF (a:=⟨b,o+j*6+4,none⟩) YE)).trans YE;rw[p4]at hq
         cases hq
         have zz:=cC.lt' z3 (by decide);exact⟨cC.same (cC.weak (T:=(· <w.heap.size)) zz (fun _ h=>h)) (fun i hi=>hM.block i hi) |> fun h=>cC.weak h (fun i hi=>aP hi hL),HH⟩)
        have Hj:=Hr.o.val e (aQ he);have y7:=dm Hj;have ZG:e.path.size<=512:=(mf Hj).1;obtain⟨q,hq⟩: ∃q:ByteArray,q=⟨(cr (bl e.path)).toArray⟩:=⟨_,rfl⟩;have HQ:=am hq;have H0:q.size<=maxLen:=by
         have h1:=pO (l:=bl e.path) (fun h=>by have:=pY y7; rw[h]at this; simp at this);rw[hq,bh,jD];rw[<-bh e.path]at h1;unfold maxLen;omega
        have Yo:=am he;have YF:=fun W hE=>kU e.path q W hE y7 hq
        have Y4:=am YF;have He:base<=wr.heap.size:=by have h1:=hm.o.grp.map.lt; omega
        have h7:7<=base:=ay HE.o.seven hL;clear Hj y7 hq Yz HH he YF
        go_upto_region 16 with(fail)
        obtain⟨W6,hB⟩: ∃W6:World,W6=wr.alloc (.cells #[.string e.path, .int .i64 e.kind, .int .i64 e.mode, .int .i64 e.time, .slice da e.data.length dc, .string e.link] 79):=⟨_,rfl⟩;rw[<-hB];have hC:Below wr.heap.size wr W6:=by rw[hB]; exact eK
        have Hu:=am hC;have Yu:=am (show W6.heap[wr.heap.size]? =some (.cells #[.string e.path, .int .i64 e.kind, .int .i64 e.mode, .int .i64 e.time, .slice da e.data.length dc, .string e.link] 79 (0,0)) by rw[hB]; exact dZ wr _);have YX:=am (HE.o.keep (HU.o.trans ((hm.o.below.mono hL).trans (hC.mono (ay hL He)))) HE.o.seven);clear hB hC p0 p1 p2 p3 p4 p5;obtain⟨d0,d1,d2,d3,d4,d5,_⟩:=aU Yu.o
        go_wp2_with fail;refine(Y4.o W6 YX.o.env).mono ?_;rintro e' w7 ⟨rfl,y3⟩;have Y9:=am (dX y3 Yu.o);have YS:=am (ar Hu.o y3);clear y3 d0 d1 d2 d3 d4 d5;go_wp2_with fail;obtain⟨W8,Hz⟩: ∃W8:World,W8=w7.drew:=⟨_,rfl⟩;have y4:Below w7.heap.size w7 W8:=by rw[Hz]; exact(au _ _).drew
        have Hv:=am (ar YS.o y4);have HX:=am (dX y4 Y9.o);have HJ:=jh.ofBelow (bb:=base+1+1) (kb:=base+1) (v:= .slice none 0 0) Hv.o He;have hs:=am (hm.o.bd.below Hv.o);have hu:=am (hm.o.grp.keep hm.o.bd HJ (by omega));have hc:=am hs.o.box;have hd:wr.heap.size<W8.heap.size:=aw HX.o;have Hx:=am (show eH (· <base) W8 (.slice da e.data.length dc) e.data/\mN e from⟨pA Yn.o.1 (Hv.o.mono He),Yn.o.2⟩)
        have ht:Tryz.prog.underlying 119=some (.map 9 46):=Tryz.underlying119;have HW:=am ht;clear ht y4 HJ;have k0:=az (k:=0) hc.o;have k1:=az (k:=1) hc.o;have k2:=az (k:=2) hc.o;have k3:=az (k:=3) hc.o;have k4:=az (k:=4) hc.o;have k10:=az (k:=10) hc.o;have k11:=az (k:=11) hc.o;have k12:=az (k:=12) hc.o;have k13:=az (k:=13) hc.o
        simp only[mV,eC,fU,aK,aJ,ai,aj,ah]at k0 k1 k2 k3 k4 k10 k11 k12 k13;clear k0 k1 k2 k3 k4 k10 k12 k13;obtain⟨d0,d1,d2,d3,d4,d5,_⟩:=aU HX.o
        cases hf:G.find? (fun g=>decide (g.dir=q))with
        | none=>
         have HF:=am hf;clear hf;have Hi: ∀p∈G.map nH,p.1≠Value.string q:=by
          intro p hp e9;obtain⟨g9,z5,rfl⟩:=aS.1 hp;simp only[nH,ep]at e9;have:=eM.1 HF.o g9 z5;simp[e9]at this
         have Hy:=am Hi;have hY:=am (show ∀W:World,W.heap[base]? =W8.heap[base]? ->(Instr.lookup 119 (.map (some base)) (.string q) false).run Tryz.prog W= .ok (.slice none 0 0) W from fun W hW=>by
          have:=(hu.o.map.same hW).is.miss gg HW.o (show(zeroValue 46).run Tryz.prog W= .ok (.slice none 0 0) W by kernel_rfl) (iA H0) Hy.o false
          simpa using this)
         clear Hi;have h8:=am (show(Value.slice none 0 0).ownBlock≠some (base+1+1)/\(Value.slice none 0 0).ownBlock≠some wr.heap.size/\(Value.slice none 0 0).ownBlock≠some base from⟨by simp[Value.ownBlock],by simp[Value.ownBlock],by simp[Value.ownBlock]⟩);have yn:=am (show(Value.slice none 0 0).ownBlock≠some (base+1) by simp[Value.ownBlock]);have h0:=am (show ∀i,(Value.slice none 0 0).ownBlock=some i->base<=i from fun i hi=>by simp[Value.ownBlock]at hi)
         have hZ:=am (show(0:Nat)<1099511627775 by decide);have HK:=hY.o W8 rfl;refine ey (fun w'=>w'.cell? ⟨base+1+1,11,none⟩=some (.map (some base))/\(Instr.lookup 119 (.map (some base)) (.string (q)) false).run Tryz.prog w'= .ok (.slice none 0 0) w'/\w'.cell? ⟨wr.heap.size,0,none⟩=some (.string e.path)/\w'.cell? ⟨wr.heap.size,1,none⟩=some (.int .i64 e.kind)/\w'.cell? ⟨wr.heap.size,2,none⟩=some (.int .i64 e.mode)/\w'.cell? ⟨wr.heap.size,3,none⟩=some (.int .i64 e.time)/\w'.cell? ⟨wr.heap.size,4,none⟩=some (.slice da e.data.length dc)/\w'.cell? ⟨wr.heap.size,5,none⟩=some (.string e.link)) (by kernel_rfl) (by kernel_rfl) ?_
         simp only[br,bt,aD,bo,Nat.reduceAdd,Nat.reduceSub];rw[<-Hz];clear Hz
         iterate 12 (refine cA rfl (by kernel_rfl) (fun _ _ _ h=>h) rfl ⟨k11,HK,d0,d1,d2,d3,d4,d5⟩ (by rintro w' ⟨Yc,Yd,Ye,Yf,YJ,Zg,Zh,Zi⟩; go_simp; rfl) ?_; simp only[Act.put,aa,ag,ab])
         have ho:=am ((au W8.heap.size W8).alloc (ak _) (.cells #[.string e.path, .int .i64 e.kind, .int .i64 e.mode, .int .i64 e.time, .slice da e.data.length dc, .string e.link] 79));have hz:base+1+1<W8.heap.size:=aw hc.o;have hT:=aE ((ho.o.cell (p:=⟨base+1+1,11,none⟩) hz).trans k11) (aE (hY.o _ (ho.o.block base (by omega))) (aE ((ho.o.cell (p:=⟨wr.heap.size,0,none⟩) hd).trans d0) (aE ((ho.o.cell (p:=⟨wr.heap.size,1,none⟩) hd).trans d1) (aE ((ho.o.cell (p:=⟨wr.heap.size,2,none⟩) hd).trans d2) (aE ((ho.o.cell (p:=⟨wr.heap.size,3,none⟩) hd).trans d3) (aE ((ho.o.cell (p:=⟨wr.heap.size,4,none⟩) hd).trans d4) ((ho.o.cell (p:=⟨wr.heap.size,5,none⟩) hd).trans d5)))))))
         have Hq:=am hT;clear hT;refine cn 12 rfl (fun K hK=> ?_);go_wp2_with fail
         (first | (refine⟨Hq.o, ?_⟩) | skip)
         refine cn 13 rfl (fun K hK=> ?_);have Hm:base<=W8.heap.size:=by omega
         go_wp2_with (at_builtin; go_must (refine bO Tryz.appEnts rfl _ _ rfl base (.slice none 0 0) (0) ([]) rfl W8 [.string e.path, .int .i64 e.kind, .int .i64 e.mode, .int .i64 e.time, .slice da e.data.length dc, .string e.link] _ rfl rfl (kQ (e:=e)) ((bM _ _ _ _)) hZ.o Hm ?_); intro v' wc hl ha _ HL; obtain⟨ae,ce,rfl,-,-⟩:=aH hl);have hG:=(ha.block (base+1+1) hz (fun e9=>h8.o.1 e9.symm)).trans hc.o
         have HP:=(ha.block wr.heap.size hd (fun e9=>h8.o.2.1 e9.symm)).trans HX.o;have Hh:=ha.block base (by omega) (fun e9=>h8.o.2.2 e9.symm);have hH:=hY.o wc Hh;have hD:=am hG;have yv:=am HP;have yc:=am Hh;have Ha:=am hl;have hh:=am ha;have Hb:=am HL;clear hG HP Hh hl ha HL HK k11 d0 d1 d2 d3 d4 d5;obtain⟨d0,d1,d2,d3,d4,d5,_⟩:=aU yv.o
         have k11:=az (k:=11) hD.o;simp only[mV,eC,fU,aK,aJ,ai,aj,ah]at k11;refine⟨⟨k11,hH,d0,d1,d2,d3,d4,d5⟩, ?_⟩;refine cE (by kernel_rfl) ?_;refine eD rfl rfl (fun K hK=> ?_);clear k11 hH d0 d1 d2 d3 d4 d5;have yl:=am (hu.o.map.same yc.o);go_wp2_with (at_mapUpdate; go_must (refine kw gg rfl _ _ _ _ rfl HW.o base (G.map nH) yl.o rfl (.string q) (.slice ae (0+1) ce) rfl rfl (iA H0) Hy.o ?_); intro w10 hI hw)
         have hv:=am hw;have hV:=am (hu.o.new (ak _) H0 (y:=(.slice da e.data.length dc,e)) Hx.o Ha.o hh.o (fun i hi=>by
          rcases Hb.o i hi with h9 | h9
          ·simp[Value.ownBlock]at h9
          ·exact h9) hI hw)
         clear hI hw;have Hd:=hm.o.below.trans ((Hv.o.mono He).trans (((au base W8).grown hh.o Hm (fun i hi=>h0.o i hi)).grown hv.o (ay Hm hh.o.size) (fun i hi=>by cases hi; exact ak _)));have hF:=hs.o.nilKeep (w':=w10) ((hv.o.block _ (aP hz hh.o.size) (fun e9=>by have:=bC e9; omega)).trans (hD.o.trans hc.o.symm)) ((hv.o.block _ (aP hs.o.known.map.lt hh.o.size) (fun e9=>by have:=bC e9; omega)).trans (hh.o.block _ hs.o.known.map.lt (fun e9=>yn.o e9.symm)))
         go_roundw
         case rel=>
          refine⟨j+1,(G++[⟨q, .slice ae (0+1) ce,[(.slice da e.data.length dc,e)]⟩]),by omega,by go_num,⟨hF,hV.o,fun d=> ?_,Hd⟩⟩;rw[ow Yo.o];rw[wI (g:=⟨q, .slice ae (0+1) ce,[(.slice da e.data.length dc,e)]⟩) HF.o]
          by_cases hJ:q=d
          ·rw[if_pos hJ,if_pos (show cr (bl e.path)=bl d by rw[<-hJ,HQ.o]; exact(jD _).symm),<-hm.o.ents d,<-hJ,uQ HF.o]
           rfl
          ·rw[if_neg hJ,if_neg (fun h9=>hJ (kL (by rw[HQ.o]; exact(jD _).trans h9))),bY];exact hm.o.ents d
         case measure=>simp[intOf]; omega
        | some g=>
         obtain⟨A,B,zl,z6,hA⟩: ∃A B,G=A++g::B/\g.dir=q/\ ∀x∈A,x.dir≠q:=by
          have h9:=List.find?_eq_some_iff_append.1 hf;obtain⟨h1,A,B,h2,h3⟩:=h9;exact⟨A,B,h2,by simpa using h1,fun x hx=>by simpa using h3 x hx⟩
         have Hf:=ol hf;subst z6;subst zl;have H9:=am Hf;have HA:=am hA;have Hg:=hu.o.own g (by simp);have HI:=hm.o.grp.own g (by simp);obtain⟨ga,gc,hU,ZI,-⟩:=aH Hg;have HZ:g.ents.length<=4096:=by
          have h1:=hm.o.ents g.dir;rw[Hf]at h1;have h2:=congrArg List.length h1;rw[aB]at h2;rw[h2];have h3:(gV (tree.take j) g.dir).length<=(tree.take j).length:=dH _ _;rw[bm]at h3;have h4:=Hr.o.len;omega
         obtain⟨gl,hQ⟩: ∃gl,gl=g.ents.length:=⟨_,rfl⟩;have YY:=am hQ;rw[<-hQ]at hU HZ;have hZ:=am (show gl<1099511627775 by omega);have YZ:=am (show W8.ownsRow base 79 6 (.slice ga gl gc) gl (jl g.ents) by rw[<-hU,hQ]; exact Hg);have Yp:=am hU;have h8:=am (show(Value.slice ga gl gc).ownBlock≠some (base+1+1)/\(Value.slice ga gl gc).ownBlock≠some wr.heap.size/\(Value.slice ga gl gc).ownBlock≠some base from by
          rw[<-hU];refine⟨fun e9=> ?_,fun e9=> ?_,fun e9=> ?_⟩
          ·obtain⟨cs2,HD⟩:=bI Hg e9;exact absurd (bU hc.o HD) (by decide)
          ·have:=(HI.lt _ e9).2;omega
          ·obtain⟨cs2,HD⟩:=bI Hg e9;exact hu.o.map.ncells HD)
         have yn:=am (show(Value.slice ga gl gc).ownBlock≠some (base+1)from by
          rw[<-hU];intro e9;obtain⟨cs2,HD⟩:=bI Hg e9;exact hs.o.known.cells HD)
         have h0:=am (show ∀i,(Value.slice ga gl gc).ownBlock=some i->base<=i from fun i hi=>by
          rw[<-hU]at hi;exact(Hg.lt i hi).1)
         have hY:=am (show ∀W:World,W.heap[base]? =W8.heap[base]? ->(Instr.lookup 119 (.map (some base)) (.string g.dir) false).run Tryz.prog W= .ok (.slice ga gl gc) W from fun W hW=>by
          have:=(hu.o.map.same hW).is.hit gg HW.o (iA H0) (val:=g.val) (aS.2 ⟨g,by simp,rfl⟩) false;rw[hU]at this
          simpa using this)
         clear hf Hf hA Hg HI hU hQ;have HK:=hY.o W8 rfl;refine ey (fun w'=>w'.cell? ⟨base+1+1,11,none⟩=some (.map (some base))/\(Instr.lookup 119 (.map (some base)) (.string (g.dir)) false).run Tryz.prog w'= .ok (.slice ga gl gc) w'/\w'.cell? ⟨wr.heap.size,0,none⟩=some (.string e.path)/\w'.cell? ⟨wr.heap.size,1,none⟩=some (.int .i64 e.kind)/\w'.cell? ⟨wr.heap.size,2,none⟩=some (.int .i64 e.mode)/\w'.cell? ⟨wr.heap.size,3,none⟩=some (.int .i64 e.time)/\w'.cell? ⟨wr.heap.size,4,none⟩=some (.slice da e.data.length dc)/\w'.cell? ⟨wr.heap.size,5,none⟩=some (.string e.link)) (by kernel_rfl) (by kernel_rfl) ?_
         simp only[br,bt,aD,bo,Nat.reduceAdd,Nat.reduceSub];rw[<-Hz];clear Hz
         iterate 12 (refine cA rfl (by kernel_rfl) (fun _ _ _ h=>h) rfl ⟨k11,HK,d0,d1,d2,d3,d4,d5⟩ (by rintro w' ⟨Yc,Yd,Ye,Yf,YJ,Zg,Zh,Zi⟩; go_simp; rfl) ?_; simp only[Act.put,aa,ag,ab])
         have ho:=am ((au W8.heap.size W8).alloc (ak _) (.cells #[.string e.path, .int .i64 e.kind, .int .i64 e.mode, .int .i64 e.time, .slice da e.data.length dc, .string e.link] 79));have hz:base+1+1<W8.heap.size:=aw hc.o;have hT:=aE ((ho.o.cell (p:=⟨base+1+1,11,none⟩) hz).trans k11) (aE (hY.o _ (ho.o.block base (by omega))) (aE ((ho.o.cell (p:=⟨wr.heap.size,0,none⟩) hd).trans d0) (aE ((ho.o.cell (p:=⟨wr.heap.size,1,none⟩) hd).trans d1) (aE ((ho.o.cell (p:=⟨wr.heap.size,2,none⟩) hd).trans d2) (aE ((ho.o.cell (p:=⟨wr.heap.size,3,none⟩) hd).trans d3) (aE ((ho.o.cell (p:=⟨wr.heap.size,4,none⟩) hd).trans d4) ((ho.o.cell (p:=⟨wr.heap.size,5,none⟩) hd).trans d5)))))))
         have Hq:=am hT;clear hT;refine cn 12 rfl (fun K hK=> ?_);go_wp2_with fail
         (first | (refine⟨Hq.o, ?_⟩) | skip)
         refine cn 13 rfl (fun K hK=> ?_);have Hm:base<=W8.heap.size:=by omega
         go_wp2_with (at_builtin; go_must (refine bO Tryz.appEnts rfl _ _ rfl base (.slice ga gl gc) (gl) ((jl g.ents)) rfl W8 [.string e.path, .int .i64 e.kind, .int .i64 e.mode, .int .i64 e.time, .slice da e.data.length dc, .string e.link] _ rfl rfl (kQ (e:=e)) (YZ.o) hZ.o Hm ?_); intro v' wc hl ha _ HL; obtain⟨ae,ce,rfl,-,-⟩:=aH hl);have hG:=(ha.block (base+1+1) hz (fun e9=>h8.o.1 e9.symm)).trans hc.o
         have HP:=(ha.block wr.heap.size hd (fun e9=>h8.o.2.1 e9.symm)).trans HX.o;have Hh:=ha.block base (by omega) (fun e9=>h8.o.2.2 e9.symm);have hH:=hY.o wc Hh;have hD:=am hG;have yv:=am HP;have yc:=am Hh;have Ha:=am hl;have hh:=am ha;have Hb:=am HL;clear hG HP Hh hl ha HL HK k11 d0 d1 d2 d3 d4 d5;obtain⟨d0,d1,d2,d3,d4,d5,_⟩:=aU yv.o
         have k11:=az (k:=11) hD.o;simp only[mV,eC,fU,aK,aJ,ai,aj,ah]at k11;refine⟨⟨k11,hH,d0,d1,d2,d3,d4,d5⟩, ?_⟩;refine cE (by kernel_rfl) ?_;refine eD rfl rfl (fun K hK=> ?_);clear k11 hH d0 d1 d2 d3 d4 d5;have yl:=am (show ja Tryz.prog 9 wc base (A.map nH++(.string g.dir,g.val)::B.map nH)from by
          have:=hu.o.map.same yc.o
          simpa [nH]using this)
         go_wp2_with (at_mapUpdate; go_must (refine qa gg rfl _ _ _ _ rfl HW.o base (A.map nH) (B.map nH) (.string g.dir) (.slice ae (gl+1) ce) g.val yl.o rfl rfl rfl ?_); intro w10 hI hw);have hv:=am hw;have hV:=am (hu.o.over (ak _) (y:=(.slice da e.data.length dc,e)) Hx.o (by rw[<-YY.o]; exact Ha.o) (by rw[Yp.o]; exact hh.o) (by rw[Yp.o]; exact Hb.o) hI hw)
         clear hI hw;have Hd:=hm.o.below.trans ((Hv.o.mono He).trans (((au base W8).grown hh.o Hm (fun i hi=>h0.o i hi)).grown hv.o (ay Hm hh.o.size) (fun i hi=>by cases hi; exact ak _)));have hF:=hs.o.nilKeep (w':=w10) ((hv.o.block _ (aP hz hh.o.size) (fun e9=>by have:=bC e9; omega)).trans (hD.o.trans hc.o.symm)) ((hv.o.block _ (aP hs.o.known.map.lt hh.o.size) (fun e9=>by have:=bC e9; omega)).trans (hh.o.block _ hs.o.known.map.lt (fun e9=>yn.o e9.symm)))
         go_roundw
         case rel=>
          refine⟨j+1,(A++⟨g.dir, .slice ae (gl+1) ce,g.ents++[(.slice da e.data.length dc,e)]⟩::B),by omega,by go_num,⟨hF,hV.o,fun d=> ?_,Hd⟩⟩;rw[ow Yo.o];rw[uR (A:=A) (B:=B) (g:=g) (g':=(⟨g.dir, .slice ae (gl+1) ce,g.ents++[((Value.slice da e.data.length dc,e):pw)]⟩:Bx)) rfl HA.o d]
          by_cases hJ:g.dir=d
          ·rw[if_pos hJ,if_pos (show cr (bl e.path)=bl d by rw[<-hJ,HQ.o]; exact(jD _).symm),<-hm.o.ents d,<-hJ,H9.o,aN]
           rfl
          ·rw[if_neg hJ,if_neg (fun h9=>hJ (kL (by rw[HQ.o]; exact(jD _).trans h9))),bY];exact hm.o.ents d
         case measure=>simp[intOf]; omega
       ·have z7:j=n:=by omega
        have HZ:Eh wr base base tree:=⟨G,hm.o.grp,fun d=>by have:=hm.o.ents d; rwa [show tree.take j=tree by rw[z7,HN.o,dj]]at this⟩;have He:base<=wr.heap.size:=by have h1:=hm.o.grp.map.lt; omega
        have h7:7<=base:=ay HE.o.seven hL;have y8: ∀p∈gs,0<=p.2/\p.2<=1099511627776:=fun p hp=>by have:=cj.1 Ht.o p hp; simpa using this
        have hX:KM base (base+1+1) (base+1) base k c gs tree (Is k gs c tree):=⟨Zn.o,Ym.o,hsd,y8,by omega,by omega,h7,by omega,Hr.o.val,Hr.o.len,Gh Ym.o Hr.o.len Hr.o.val,Gi,Gj⟩;have hM:Below w.heap.size w wr:=HU.o.trans (hm.o.below.mono hL);have YB:kK (· <base) wr (.map none) gs:=by
         rcases HG.o with⟨h1,h2⟩ | ⟨gb9,h1,_,h3⟩
         ·exact .inl ⟨h1,h2⟩
         ·exact .inr ⟨gb9,h1,aP h3.lt hL,h3.same (hM.block _ h3.lt)⟩
        have hP:=AX hX 514 (ak _) ⟨#[]⟩ (.slice none 0 0) [] wr (by show 514<=0+514; omega) (.inl rfl) hm.o.bd YB HZ (by intro b hb; simp at hb) (HE.o.keep hM HE.o.seven) He;unfold AA at hP;clear HZ hX YB
        cases Hs:gU k gs c tree 514 ⟨#[]⟩with
        | error x9=>
         rw[Hs]at hP;have yb:=am (show ij k c tree gs= .error x9 by rw[Yr.o,Hs]);have HV:=am hP;clear hP Hs;go_wp2_with fail;refine HV.o.mono ?_;rintro e' w5 ⟨rfl,Yg,v5,bs5,hO,hy⟩;have HR:=am (hM.trans (hy.below.mono hL));have Hn:=am ((hy.below.block (w.heap.size+2) hR).trans ((hm.o.below.block (w.heap.size+2) hR).trans Hp.o));have za:=am Yg
         have e4:(x9 != 0)=true:=by simp[Yg]
         clear Yg hO hy hM
         go_upto_region 20 with(fail)
         obtain⟨W6,hB⟩: ∃W6:World,W6=w5.alloc (.cells #[.string ⟨#[]⟩, .int .i64 0, .int .i64 0] 26):=⟨_,rfl⟩;rw[<-hB];have hC:Below w5.heap.size w5 W6:=by rw[hB]; exact eK
         have Hu:=am (ar HR.o hC);have hS:=am (dX hC Hn.o);clear hC hB;obtain⟨z0,z1,z2,_⟩:=aU hS.o;obtain⟨y0,y1,y2,_⟩:=gG hS.o;go_wp2_with fail;refine jS hS.o rfl rfl rfl rfl ⟨gZ Hu.o (by show w.heap.size<=w.heap.size+2; omega), ?_⟩;rw[yb.o];exact⟨rfl,za.o⟩
        | ok p=>
         rw[Hs]at hP
         dsimp only at hP
         have yb:=am (show ij k c tree gs= .ok (bA k gs p.1,dB k gs p.2 []) by rw[Yr.o,Hs]);obtain⟨r,hr⟩: ∃r,r=bA k gs p.1:=⟨_,rfl⟩;rw[<-hr]at hP;have Y6:=am hr;have HV:=am hP;unfold ef at HV;clear hP Hs hr;go_wp2_with fail;refine HV.o.mono ?_;rintro e' w5 ⟨rfl,-,v5,hO,hy⟩;have HR:=am (hM.trans (hy.below.mono hL));have Hn:=am ((hy.below.block (w.heap.size+2) hR).trans ((hm.o.below.block (w.heap.size+2) hR).trans Hp.o))
         have H7:=am hO;clear hO hy hM
         go_upto_region 22 with(fail)
         obtain⟨W6,hB⟩: ∃W6:World,W6=(w5.alloc (.cells #[.string r.name, .int .i64 r.gen, .int .i64 r.size] 26)).drew:=⟨_,rfl⟩;have hC:Below w5.heap.size w5 W6:=by rw[hB]; exact(eK).drew
         have Hu:=am (ar HR.o hC);have hS:=am (dX hC Hn.o);have ya:=am (show W6.heap[w5.heap.size]? =some (.cells #[.string r.name, .int .i64 r.gen, .int .i64 r.size] 26 (0,0)) by rw[hB]; exact dZ w5 _);have Hw:=am (H7.o.below hC);obtain⟨zs,YK,y5⟩:=Hw.o.own;obtain⟨va,vc,Zf,-,-⟩:=aH y5.row;subst Zf;have zc:=am YK;have YT:=am y5
         have H8:=am Hw.o.box;clear hC YK y5;have k12:=az (k:=12) H8.o;have f0:=az (k:=0) ya.o;have f1:=az (k:=1) ya.o;have f2:=az (k:=2) ya.o;simp only[mV,eC,fU,aK,aJ,ai,aj,ah]at k12 f0 f1 f2;obtain⟨z0,z1,z2,_⟩:=aU hS.o;obtain⟨y0,y1,y2,_⟩:=gG hS.o
         refine ez (fun w'=>w'.cell? ⟨base+1+1,12,none⟩=some (.slice va zs.length vc)/\w'.cell? ⟨w5.heap.size,0,none⟩=some (.string r.name)/\w'.cell? ⟨w5.heap.size,1,none⟩=some (.int .i64 r.gen)/\w'.cell? ⟨w5.heap.size,2,none⟩=some (.int .i64 r.size)) (by kernel_rfl) ?_;rw[<-hB];clear hB
         iterate 5 (refine cA rfl (by kernel_rfl) (fun _ _ _ h=>h) rfl ⟨k12,f0,f1,f2⟩ (by rintro w' ⟨Yc,Yd,Ye,Yf⟩; go_simp; rfl) ?_; simp only[Act.put,aa,ag,ab])
         refine cn 5 rfl (fun K hK=> ?_);have YJ:w.heap.size+1+1<w5.heap.size:=aw Hn.o;have y6:base+1+1≠w.heap.size+1+1:=by omega
         have Hk:w5.heap.size≠w.heap.size+1+1:=by omega
         have hT:=fun(u0 u1 u2:Value)=>aE ((cu (a:=⟨base+1+1,12,none⟩) (ed (w:=W6) (x0:=u0) (x1:=u1) (x2:=u2) y6)).trans k12) (aE ((cu (a:=⟨w5.heap.size,0,none⟩) (ed (w:=W6) (x0:=u0) (x1:=u1) (x2:=u2) Hk)).trans f0) (aE ((cu (a:=⟨w5.heap.size,1,none⟩) (ed (w:=W6) (x0:=u0) (x1:=u1) (x2:=u2) Hk)).trans f1) ((cu (a:=⟨w5.heap.size,2,none⟩) (ed (w:=W6) (x0:=u0) (x1:=u1) (x2:=u2) Hk)).trans f2)))
         have Hq:=am hT;clear hT k12 f0 f1 f2;go_wp2_with fail;refine⟨Hq.o _ _ _, ?_⟩
         iterate 2 (refine cA rfl (by kernel_rfl) (fun _ _ _ h=>h) rfl (Hq.o _ _ _) (by rintro w' ⟨Yc,Yd,Ye,Yf⟩; go_simp; rfl) ?_; simp only[Act.put,aa,ag,ab])
         refine cE (by kernel_rfl) ?_;go_wp2_with fail;refine jS hS.o rfl rfl rfl rfl ⟨gZ Hu.o (by show w.heap.size<=w.heap.size+2; omega), ?_⟩;rw[yb.o];refine⟨_,zs,by rw[<-Y6.o]; rfl,zc.o,YT.o.other hS.o (by decide) (by decide) hL (fun i hi=>ed hi)⟩
     ·have e1:(x != 0)=true:=by simp[Hl]
      have Yt:=am Hl;clear Hl;obtain⟨z0,z1,z2,_⟩:=aU Hp.o;obtain⟨y0,y1,y2,_⟩:=gG Hp.o;go_wp2_with fail;refine jS Hp.o rfl rfl rfl rfl ⟨gZ HU.o (by show w.heap.size<=w.heap.size+2; omega), ?_⟩;rw[Yq.o,if_neg (by rw[hN.o]; exact Yt.o)];rw[hN.o];exact⟨rfl,Yt.o⟩
   ·have Zz:=am (YP.same (w':=w2) (Yh.o.block gb YP.lt));have ZH:gb<w.heap.size:=YP.lt;clear YP ZE;go_wp2_with (at_range; go_must (refine yL rfl _ _ rfl kT gb _ rfl Zz.o ?_); intro w0 y9 Yk ZN);obtain⟨r9,Zb⟩: ∃r9,r9=w2.heap.size:=⟨_,rfl⟩;rw[<-Zb]at y9 ⊢;have ZD:=am Zb;have YR:=am Yk;clear Zb ZN Yk
    go_frame
    go_loopw [14] (fun _ wr=> ∃vis,qn Tryz.prog 9 wr gb r9 (gs.map Cw) vis/\(∀p∈vis,∃z:Int,p.2= .int .i64 z/\0<=z/\z<=1099511627776)/\Below w2.heap.size w2 wr) (fun _ wr=>wr.rangeLeft gb r9)
    case atStart=>exact⟨[],y9,by simp,YR.o⟩
    case round=>
     obtain⟨vis,Zu,YI,Yw⟩:=hrel;have YM:=am Zu;have Ys:=am YI;have Ho:=am Yw;clear Zu YI Yw;go_wp2_with (at_next; go_must (refine Bw rfl _ rfl gb r9 _ _ rfl YM.o ?_ ?_))
     ·intro H2;have Ht:=am (show gs.all (fun p=>decide (0<=p.2) && decide (p.2<=1099511627776))=true from by
       rw[cj];intro p hp;obtain⟨z,Zw,ZQ,ZR⟩:=Ys.o (Cw p) (H2.mem_iff.2 (aS.2 ⟨p,hp,rfl⟩));simp only[Cw,Value.int.injEq,true_and]at Zw;subst Zw;simp[ZQ,ZR])
      have H6:=am (ar Yh.o Ho.o);have Y5:=am (dX Ho.o yp.o);have Y0:=am (dX Ho.o Zm.o);have YU:=am (dX Ho.o Zl.o);clear H2 YM y9
      go_upto_region 9 with(fail)
      have Yq:=am (show ij k c tree gs=(if iy tree=0 then(match gU k gs c tree 514 ⟨#[]⟩with
       | .error x=> .error x
       | .ok p=> .ok (bA k gs p.1,dB k gs p.2 []))
      else .error (iy tree)) by rw[Y2.o,if_pos Ht.o])
      have YH:eI S (wr) (.slice ta n tc) tree:=eI.below HT.o H6.o;have YA:=HE.o.below H6.o;obtain⟨x,hx⟩: ∃x,iy tree=x:=⟨_,rfl⟩;have Yy:=Gq S tree (.slice ta n tc) x (wr) YH YA.env hx;have YW:=am Yy;have hN:=am hx;clear YH YA Yy hx;go_wp2_with fail;refine YW.o.mono ?_;rintro e w4 ⟨rfl,HB⟩;have HU:=am (ar H6.o HB);have Hp:=am (dX HB Y5.o)
      have Y1:=am (dX HB Y0.o);have YV:=am (dX HB YU.o);clear HB
      by_cases Hl:x=0
      ·have e1:(x != 0)=false:=by simp[Hl]
       have Hr:=am (py.1 (hN.o.trans Hl));have Yr:=am (show ij k c tree gs=(match gU k gs c tree 514 ⟨#[]⟩with
        | .error x=> .error x
        | .ok p=> .ok (bA k gs p.1,dB k gs p.2 [])) by rw[Yq.o,if_pos (hN.o.trans Hl)])
       clear Hl;obtain⟨a0,a1,a2,a3,a4,_⟩:=aU Y1.o;obtain⟨b0,b1,b2,b3,b4,_⟩:=aU YV.o;have Za:= @run_makeMap Tryz.prog
       go_upto_region 13 with(fail)
       obtain⟨W5,Hc⟩: ∃W5:World,W5=((w4.alloc (.map #[] 0)).alloc (.map #[] 0)).alloc (.cells #[.string k.nm, .string k.st, .string k.ck, .string k.ix, .string k.tk, .int .i64 c.mn, .int .i64 c.mx, .int .i64 c.win, .int .i64 c.bits, .int .u64 (c.seed:Int), .map (some gb), .map (some w4.heap.size), .slice none 0 0, .map (some (w4.heap.size+1))] 122):=⟨_,rfl⟩;rw[<-Hc];obtain⟨base,hk⟩: ∃base,base=w4.heap.size:=⟨_,rfl⟩
       rw[<-hk]at Hc ⊢;have Zx:=am hk;have HC:BgI w4 base (base+1+1) base (base+1) k c (.map (some gb)) [] W5 []:=by
        have e1:(w4.alloc (.map #[] 0)).heap.size=base+1:=by simp[hk]
        have e2:((w4.alloc (.map #[] 0)).alloc (.map #[] 0)).heap.size=base+1+1:=by simp[hk]
        have h1:=ja.made (P:=Tryz.prog) (k:=9) w4;have h2:=jC.made (w4.alloc (.map #[] 0));rw[e1]at h2;rw[<-hk]at h1;have h3:=dZ ((w4.alloc (.map #[] 0)).alloc (.map #[] 0)) (.cells #[.string k.nm, .string k.st, .string k.ck, .string k.ix, .string k.tk, .int .i64 c.mn, .int .i64 c.mx, .int .i64 c.win, .int .i64 c.bits, .int .u64 (c.seed:Int), .map (some gb), .map (some base), .slice none 0 0, .map (some (base+1))] 122)
        rw[e2]at h3;have YG:W5.heap[base]? =(w4.alloc (.map #[] 0)).heap[base]? :=by rw[Hc]; exact(cN _ _ _ (by rw[e2]; omega)).trans (cN _ _ _ (by rw[e1]; omega))
        have Zd:W5.heap[base+1]? =((w4.alloc (.map #[] 0)).alloc (.map #[] 0)).heap[base+1]? :=by rw[Hc]; exact cN _ _ _ (by rw[e2]; omega)
        refine⟨⟨by rw[Hc]; exact h3,⟨[],rfl,bM _ _ _ _,by simp⟩,h2.same Zd⟩,⟨h1.same YG,by simp,by simp,fa,by simp⟩,fun d=>rfl, ?_⟩;rw[Hc,hk];exact((eK).alloc (by simp) _).alloc (by simp; omega) _
       have Yl:=am HC;have hR:w.heap.size+2<base:=by have:=aw Hp.o; omega
       have hL:w.heap.size<=base:=by omega
       clear Hc a0 a1 a2 a3 a4 b0 b1 b2 b3 b4 Za hk HC;go_wp2_with fail
       go_loopw [64] (fun i wr=> ∃(j:Nat) (G:List Bx),j<=n/\i= .int .i64 (j:Int)/\BgI w4 base (base+1+1) base (base+1) k c (.map (some gb)) (tree.take j) wr G) (fun i _=>n-(intOf i).toNat)
       case atStart=>exact⟨0,[],aW _,rfl,Yl.o⟩
       case round=>
        obtain⟨j,G,hj,rfl,YC⟩:=hrel;rename_i wq;have hm:=am YC;clear YC Yl
        by_cases z8:j<n
        ·obtain⟨e,he⟩: ∃e,tree[j]? =some e:=⟨tree[j]'(by rw[<-HN.o]; exact z8),by simp⟩;have hM:Below w.heap.size w wr:=HU.o.trans (hm.o.below.mono hL);obtain⟨b,o,dv,rfl,-,-,Yz,HH,-,p0,p1,p2,p3,p4,p5⟩:=ki (eI.below HT.o hM) he;obtain⟨da,dc,rfl,-,-⟩:=eH.slice Yz;have Yn:=am (show eH (· <base) wr (.slice da e.data.length dc) e.data/\mN e from by
          obtain⟨b9,o9,dv9,z4,_,_,z3,_,_,_,_,_,_,YE,_⟩:=ki HT.o he
          cases z4
          have hq:=(hM.cell (p:=⟨b,o+j*6+4,none⟩) (cF (a:=⟨b,o+j*6+4,none⟩) YE)).trans YE;rw[p4]at hq
          cases hq
          have zz:=cC.lt' z3 (by decide);exact⟨cC.same (cC.weak (T:=(· <w.heap.size)) zz (fun _ h=>h)) (fun i hi=>hM.block i hi) |> fun h=>cC.weak h (fun i hi=>aP hi hL),HH⟩)
         have Hj:=Hr.o.val e (aQ he);have y7:=dm Hj;have ZG:e.path.size<=512:=(mf Hj).1;obtain⟨q,hq⟩: ∃q:ByteArray,q=⟨(cr (bl e.path)).toArray⟩:=⟨_,rfl⟩;have HQ:=am hq;have H0:q.size<=maxLen:=by
          have h1:=pO (l:=bl e.path) (fun h=>by have:=pY y7; rw[h]at this; simp at this);rw[hq,bh,jD];rw[<-bh e.path]at h1;unfold maxLen;omega
         have Yo:=am he;have YF:=fun W hE=>kU e.path q W hE y7 hq
         have Y4:=am YF;have He:base<=wr.heap.size:=by have h1:=hm.o.grp.map.lt; omega
         have h7:7<=base:=ay HE.o.seven hL;clear Hj y7 hq Yz HH he YF
         go_upto_region 16 with(fail)
         obtain⟨W6,hB⟩: ∃W6:World,W6=wr.alloc (.cells #[.string e.path, .int .i64 e.kind, .int .i64 e.mode, .int .i64 e.time, .slice da e.data.length dc, .string e.link] 79):=⟨_,rfl⟩;rw[<-hB];have hC:Below wr.heap.size wr W6:=by rw[hB]; exact eK
         have Hu:=am hC;have Yu:=am (show W6.heap[wr.heap.size]? =some (.cells #[.string e.path, .int .i64 e.kind, .int .i64 e.mode, .int .i64 e.time, .slice da e.data.length dc, .string e.link] 79 (0,0)) by rw[hB]; exact dZ wr _);have YX:=am (HE.o.keep (HU.o.trans ((hm.o.below.mono hL).trans (hC.mono (ay hL He)))) HE.o.seven);clear hB hC p0 p1 p2 p3 p4 p5;obtain⟨d0,d1,d2,d3,d4,d5,_⟩:=aU Yu.o
         go_wp2_with fail;refine(Y4.o W6 YX.o.env).mono ?_;rintro e' w7 ⟨rfl,y3⟩;have Y9:=am (dX y3 Yu.o);have YS:=am (ar Hu.o y3);clear y3 d0 d1 d2 d3 d4 d5;go_wp2_with fail;obtain⟨W8,Hz⟩: ∃W8:World,W8=w7.drew:=⟨_,rfl⟩;have y4:Below w7.heap.size w7 W8:=by rw[Hz]; exact(au _ _).drew
         have Hv:=am (ar YS.o y4);have HX:=am (dX y4 Y9.o);have HJ:=jh.ofBelow (bb:=base+1+1) (kb:=base+1) (v:= .slice none 0 0) Hv.o He;have hs:=am (hm.o.bd.below Hv.o);have hu:=am (hm.o.grp.keep hm.o.bd HJ (by omega));have hc:=am hs.o.box;have hd:wr.heap.size<W8.heap.size:=aw HX.o;have Hx:=am (show eH (· <base) W8 (.slice da e.data.length dc) e.data/\mN e from⟨pA Yn.o.1 (Hv.o.mono He),Yn.o.2⟩)
         have ht:Tryz.prog.underlying 119=some (.map 9 46):=Tryz.underlying119;have HW:=am ht;clear ht y4 HJ;have k0:=az (k:=0) hc.o;have k1:=az (k:=1) hc.o;have k2:=az (k:=2) hc.o;have k3:=az (k:=3) hc.o;have k4:=az (k:=4) hc.o;have k10:=az (k:=10) hc.o;have k11:=az (k:=11) hc.o;have k12:=az (k:=12) hc.o;have k13:=az (k:=13) hc.o
         simp only[mV,eC,fU,aK,aJ,ai,aj,ah]at k0 k1 k2 k3 k4 k10 k11 k12 k13;clear k0 k1 k2 k3 k4 k10 k12 k13;obtain⟨d0,d1,d2,d3,d4,d5,_⟩:=aU HX.o
         cases hf:G.find? (fun g=>decide (g.dir=q))with
         | none=>
          have HF:=am hf;clear hf;have Hi: ∀p∈G.map nH,p.1≠Value.string q:=by
           intro p hp e9;obtain⟨g9,z5,rfl⟩:=aS.1 hp;simp only[nH,ep]at e9;have:=eM.1 HF.o g9 z5;simp[e9]at this
          have Hy:=am Hi;have hY:=am (show ∀W:World,W.heap[base]? =W8.heap[base]? ->(Instr.lookup 119 (.map (some base)) (.string q) false).run Tryz.prog W= .ok (.slice none 0 0) W from fun W hW=>by
           have:=(hu.o.map.same hW).is.miss gg HW.o (show(zeroValue 46).run Tryz.prog W= .ok (.slice none 0 0) W by kernel_rfl) (iA H0) Hy.o false
           simpa using this)
          clear Hi;have h8:=am (show(Value.slice none 0 0).ownBlock≠some (base+1+1)/\(Value.slice none 0 0).ownBlock≠some wr.heap.size/\(Value.slice none 0 0).ownBlock≠some base from⟨by simp[Value.ownBlock],by simp[Value.ownBlock],by simp[Value.ownBlock]⟩);have yn:=am (show(Value.slice none 0 0).ownBlock≠some (base+1) by simp[Value.ownBlock]);have h0:=am (show ∀i,(Value.slice none 0 0).ownBlock=some i->base<=i from fun i hi=>by simp[Value.ownBlock]at hi)
          have hZ:=am (show(0:Nat)<1099511627775 by decide);have HK:=hY.o W8 rfl;refine ey (fun w'=>w'.cell? ⟨base+1+1,11,none⟩=some (.map (some base))/\(Instr.lookup 119 (.map (some base)) (.string (q)) false).run Tryz.prog w'= .ok (.slice none 0 0) w'/\w'.cell? ⟨wr.heap.size,0,none⟩=some (.string e.path)/\w'.cell? ⟨wr.heap.size,1,none⟩=some (.int .i64 e.kind)/\w'.cell? ⟨wr.heap.size,2,none⟩=some (.int .i64 e.mode)/\w'.cell? ⟨wr.heap.size,3,none⟩=some (.int .i64 e.time)/\w'.cell? ⟨wr.heap.size,4,none⟩=some (.slice da e.data.length dc)/\w'.cell? ⟨wr.heap.size,5,none⟩=some (.string e.link)) (by kernel_rfl) (by kernel_rfl) ?_
          simp only[br,bt,aD,bo,Nat.reduceAdd,Nat.reduceSub];rw[<-Hz];clear Hz
          iterate 12 (refine cA rfl (by kernel_rfl) (fun _ _ _ h=>h) rfl ⟨k11,HK,d0,d1,d2,d3,d4,d5⟩ (by rintro w' ⟨Yc,Yd,Ye,Yf,YJ,Zg,Zh,Zi⟩; go_simp; rfl) ?_; simp only[Act.put,aa,ag,ab])
          have ho:=am ((au W8.heap.size W8).alloc (ak _) (.cells #[.string e.path, .int .i64 e.kind, .int .i64 e.mode, .int .i64 e.time, .slice da e.data.length dc, .string e.link] 79));have hz:base+1+1<W8.heap.size:=aw hc.o;have hT:=aE ((ho.o.cell (p:=⟨base+1+1,11,none⟩) hz).trans k11) (aE (hY.o _ (ho.o.block base (by omega))) (aE ((ho.o.cell (p:=⟨wr.heap.size,0,none⟩) hd).trans d0) (aE ((ho.o.cell (p:=⟨wr.heap.size,1,none⟩) hd).trans d1) (aE ((ho.o.cell (p:=⟨wr.heap.size,2,none⟩) hd).trans d2) (aE ((ho.o.cell (p:=⟨wr.heap.size,3,none⟩) hd).trans d3) (aE ((ho.o.cell (p:=⟨wr.heap.size,4,none⟩) hd).trans d4) ((ho.o.cell (p:=⟨wr.heap.size,5,none⟩) hd).trans d5)))))))
          have Hq:=am hT;clear hT;refine cn 12 rfl (fun K hK=> ?_);go_wp2_with fail
          (first | (refine⟨Hq.o, ?_⟩) | skip)
          refine cn 13 rfl (fun K hK=> ?_);have Hm:base<=W8.heap.size:=by omega
          go_wp2_with (at_builtin; go_must (refine bO Tryz.appEnts rfl _ _ rfl base (.slice none 0 0) (0) ([]) rfl W8 [.string e.path, .int .i64 e.kind, .int .i64 e.mode, .int .i64 e.time, .slice da e.data.length dc, .string e.link] _ rfl rfl (kQ (e:=e)) ((bM _ _ _ _)) hZ.o Hm ?_); intro v' wc hl ha _ HL; obtain⟨ae,ce,rfl,-,-⟩:=aH hl)
          have hG:=(ha.block (base+1+1) hz (fun e9=>h8.o.1 e9.symm)).trans hc.o;have HP:=(ha.block wr.heap.size hd (fun e9=>h8.o.2.1 e9.symm)).trans HX.o;have Hh:=ha.block base (by omega) (fun e9=>h8.o.2.2 e9.symm);have hH:=hY.o wc Hh;have hD:=am hG;have yv:=am HP;have yc:=am Hh;have Ha:=am hl;have hh:=am ha;have Hb:=am HL
          clear hG HP Hh hl ha HL HK k11 d0 d1 d2 d3 d4 d5;obtain⟨d0,d1,d2,d3,d4,d5,_⟩:=aU yv.o;have k11:=az (k:=11) hD.o;simp only[mV,eC,fU,aK,aJ,ai,aj,ah]at k11;refine⟨⟨k11,hH,d0,d1,d2,d3,d4,d5⟩, ?_⟩;refine cE (by kernel_rfl) ?_;refine eD rfl rfl (fun K hK=> ?_)
          clear k11 hH d0 d1 d2 d3 d4 d5;have yl:=am (hu.o.map.same yc.o);go_wp2_with (at_mapUpdate; go_must (refine kw gg rfl _ _ _ _ rfl HW.o base (G.map nH) yl.o rfl (.string q) (.slice ae (0+1) ce) rfl rfl (iA H0) Hy.o ?_); intro w10 hI hw);have hv:=am hw;have hV:=am (hu.o.new (ak _) H0 (y:=(.slice da e.data.length dc,e)) Hx.o Ha.o hh.o (fun i hi=>by
           rcases Hb.o i hi with h9 | h9
           ·simp[Value.ownBlock]at h9
           ·exact h9) hI hw)
          clear hI hw;have Hd:=hm.o.below.trans ((Hv.o.mono He).trans (((au base W8).grown hh.o Hm (fun i hi=>h0.o i hi)).grown hv.o (ay Hm hh.o.size) (fun i hi=>by cases hi; exact ak _)));have hF:=hs.o.nilKeep (w':=w10) ((hv.o.block _ (aP hz hh.o.size) (fun e9=>by have:=bC e9; omega)).trans (hD.o.trans hc.o.symm)) ((hv.o.block _ (aP hs.o.known.map.lt hh.o.size) (fun e9=>by have:=bC e9; omega)).trans (hh.o.block _ hs.o.known.map.lt (fun e9=>yn.o e9.symm)))
          go_roundw
          case rel=>
           refine⟨j+1,(G++[⟨q, .slice ae (0+1) ce,[(.slice da e.data.length dc,e)]⟩]),by omega,by go_num,⟨hF,hV.o,fun d=> ?_,Hd⟩⟩;rw[ow Yo.o];rw[wI (g:=⟨q, .slice ae (0+1) ce,[(.slice da e.data.length dc,e)]⟩) HF.o]
           by_cases hJ:q=d
           ·rw[if_pos hJ,if_pos (show cr (bl e.path)=bl d by rw[<-hJ,HQ.o]; exact(jD _).symm),<-hm.o.ents d,<-hJ,uQ HF.o]
            rfl
           ·rw[if_neg hJ,if_neg (fun h9=>hJ (kL (by rw[HQ.o]; exact(jD _).trans h9))),bY];exact hm.o.ents d
          case measure=>simp[intOf]; omega
         | some g=>
          obtain⟨A,B,zl,z6,hA⟩: ∃A B,G=A++g::B/\g.dir=q/\ ∀x∈A,x.dir≠q:=by
           have h9:=List.find?_eq_some_iff_append.1 hf;obtain⟨h1,A,B,h2,h3⟩:=h9;exact⟨A,B,h2,by simpa using h1,fun x hx=>by simpa using h3 x hx⟩
          have Hf:=ol hf;subst z6;subst zl;have H9:=am Hf;have HA:=am hA;have Hg:=hu.o.own g (by simp);have HI:=hm.o.grp.own g (by simp);obtain⟨ga,gc,hU,ZI,-⟩:=aH Hg;have HZ:g.ents.length<=4096:=by
           have h1:=hm.o.ents g.dir;rw[Hf]at h1;have h2:=congrArg List.length h1;rw[aB]at h2;rw[h2];have h3:(gV (tree.take j) g.dir).length<=(tree.take j).length:=dH _ _;rw[bm]at h3;have h4:=Hr.o.len;omega
          obtain⟨gl,hQ⟩: ∃gl,gl=g.ents.length:=⟨_,rfl⟩;have YY:=am hQ;rw[<-hQ]at hU HZ;have hZ:=am (show gl<1099511627775 by omega);have YZ:=am (show W8.ownsRow base 79 6 (.slice ga gl gc) gl (jl g.ents) by rw[<-hU,hQ]; exact Hg);have Yp:=am hU;have h8:=am (show(Value.slice ga gl gc).ownBlock≠some (base+1+1)/\(Value.slice ga gl gc).ownBlock≠some wr.heap.size/\(Value.slice ga gl gc).ownBlock≠some base from by
           rw[<-hU];refine⟨fun e9=> ?_,fun e9=> ?_,fun e9=> ?_⟩
           ·obtain⟨cs2,HD⟩:=bI Hg e9;exact absurd (bU hc.o HD) (by decide)
           ·have:=(HI.lt _ e9).2;omega
           ·obtain⟨cs2,HD⟩:=bI Hg e9;exact hu.o.map.ncells HD)
          have yn:=am (show(Value.slice ga gl gc).ownBlock≠some (base+1)from by
           rw[<-hU];intro e9;obtain⟨cs2,HD⟩:=bI Hg e9;exact hs.o.known.cells HD)
          have h0:=am (show ∀i,(Value.slice ga gl gc).ownBlock=some i->base<=i from fun i hi=>by
           rw[<-hU]at hi;exact(Hg.lt i hi).1)
          have hY:=am (show ∀W:World,W.heap[base]? =W8.heap[base]? ->(Instr.lookup 119 (.map (some base)) (.string g.dir) false).run Tryz.prog W= .ok (.slice ga gl gc) W from fun W hW=>by
           have:=(hu.o.map.same hW).is.hit gg HW.o (iA H0) (val:=g.val) (aS.2 ⟨g,by simp,rfl⟩) false;rw[hU]at this
           simpa using this)
          clear hf Hf hA Hg HI hU hQ;have HK:=hY.o W8 rfl;refine ey (fun w'=>w'.cell? ⟨base+1+1,11,none⟩=some (.map (some base))/\(Instr.lookup 119 (.map (some base)) (.string (g.dir)) false).run Tryz.prog w'= .ok (.slice ga gl gc) w'/\w'.cell? ⟨wr.heap.size,0,none⟩=some (.string e.path)/\w'.cell? ⟨wr.heap.size,1,none⟩=some (.int .i64 e.kind)/\w'.cell? ⟨wr.heap.size,2,none⟩=some (.int .i64 e.mode)/\w'.cell? ⟨wr.heap.size,3,none⟩=some (.int .i64 e.time)/\w'.cell? ⟨wr.heap.size,4,none⟩=some (.slice da e.data.length dc)/\w'.cell? ⟨wr.heap.size,5,none⟩=some (.string e.link)) (by kernel_rfl) (by kernel_rfl) ?_
          simp only[br,bt,aD,bo,Nat.reduceAdd,Nat.reduceSub];rw[<-Hz];clear Hz
          iterate 12 (refine cA rfl (by kernel_rfl) (fun _ _ _ h=>h) rfl ⟨k11,HK,d0,d1,d2,d3,d4,d5⟩ (by rintro w' ⟨Yc,Yd,Ye,Yf,YJ,Zg,Zh,Zi⟩; go_simp; rfl) ?_; simp only[Act.put,aa,ag,ab])
          have ho:=am ((au W8.heap.size W8).alloc (ak _) (.cells #[.string e.path, .int .i64 e.kind, .int .i64 e.mode, .int .i64 e.time, .slice da e.data.length dc, .string e.link] 79));have hz:base+1+1<W8.heap.size:=aw hc.o;have hT:=aE ((ho.o.cell (p:=⟨base+1+1,11,none⟩) hz).trans k11) (aE (hY.o _ (ho.o.block base (by omega))) (aE ((ho.o.cell (p:=⟨wr.heap.size,0,none⟩) hd).trans d0) (aE ((ho.o.cell (p:=⟨wr.heap.size,1,none⟩) hd).trans d1) (aE ((ho.o.cell (p:=⟨wr.heap.size,2,none⟩) hd).trans d2) (aE ((ho.o.cell (p:=⟨wr.heap.size,3,none⟩) hd).trans d3) (aE ((ho.o.cell (p:=⟨wr.heap.size,4,none⟩) hd).trans d4) ((ho.o.cell (p:=⟨wr.heap.size,5,none⟩) hd).trans d5)))))))
          have Hq:=am hT;clear hT;refine cn 12 rfl (fun K hK=> ?_);go_wp2_with fail
          (first | (refine⟨Hq.o, ?_⟩) | skip)
          refine cn 13 rfl (fun K hK=> ?_);have Hm:base<=W8.heap.size:=by omega
          go_wp2_with (at_builtin; go_must (refine bO Tryz.appEnts rfl _ _ rfl base (.slice ga gl gc) (gl) ((jl g.ents)) rfl W8 [.string e.path, .int .i64 e.kind, .int .i64 e.mode, .int .i64 e.time, .slice da e.data.length dc, .string e.link] _ rfl rfl (kQ (e:=e)) (YZ.o) hZ.o Hm ?_); intro v' wc hl ha _ HL; obtain⟨ae,ce,rfl,-,-⟩:=aH hl);have hG:=(ha.block (base+1+1) hz (fun e9=>h8.o.1 e9.symm)).trans hc.o
          have HP:=(ha.block wr.heap.size hd (fun e9=>h8.o.2.1 e9.symm)).trans HX.o;have Hh:=ha.block base (by omega) (fun e9=>h8.o.2.2 e9.symm);have hH:=hY.o wc Hh;have hD:=am hG;have yv:=am HP;have yc:=am Hh;have Ha:=am hl;have hh:=am ha;have Hb:=am HL;clear hG HP Hh hl ha HL HK k11 d0 d1 d2 d3 d4 d5;obtain⟨d0,d1,d2,d3,d4,d5,_⟩:=aU yv.o
          have k11:=az (k:=11) hD.o;simp only[mV,eC,fU,aK,aJ,ai,aj,ah]at k11;refine⟨⟨k11,hH,d0,d1,d2,d3,d4,d5⟩, ?_⟩;refine cE (by kernel_rfl) ?_;refine eD rfl rfl (fun K hK=> ?_);clear k11 hH d0 d1 d2 d3 d4 d5;have yl:=am (show ja Tryz.prog 9 wc base (A.map nH++(.string g.dir,g.val)::B.map nH)from by
           have:=hu.o.map.same yc.o
           simpa [nH]using this)
          go_wp2_with (at_mapUpdate; go_must (refine qa gg rfl _ _ _ _ rfl HW.o base (A.map nH) (B.map nH) (.string g.dir) (.slice ae (gl+1) ce) g.val yl.o rfl rfl rfl ?_); intro w10 hI hw);have hv:=am hw;have hV:=am (hu.o.over (ak _) (y:=(.slice da e.data.length dc,e)) Hx.o (by rw[<-YY.o]; exact Ha.o) (by rw[Yp.o]; exact hh.o) (by rw[Yp.o]; exact Hb.o) hI hw)
          clear hI hw;have Hd:=hm.o.below.trans ((Hv.o.mono He).trans (((au base W8).grown hh.o Hm (fun i hi=>h0.o i hi)).grown hv.o (ay Hm hh.o.size) (fun i hi=>by cases hi; exact ak _)));have hF:=hs.o.nilKeep (w':=w10) ((hv.o.block _ (aP hz hh.o.size) (fun e9=>by have:=bC e9; omega)).trans (hD.o.trans hc.o.symm)) ((hv.o.block _ (aP hs.o.known.map.lt hh.o.size) (fun e9=>by have:=bC e9; omega)).trans (hh.o.block _ hs.o.known.map.lt (fun e9=>yn.o e9.symm)))
          go_roundw
          case rel=>
           refine⟨j+1,(A++⟨g.dir, .slice ae (gl+1) ce,g.ents++[(.slice da e.data.length dc,e)]⟩::B),by omega,by go_num,⟨hF,hV.o,fun d=> ?_,Hd⟩⟩;rw[ow Yo.o];rw[uR (A:=A) (B:=B) (g:=g) (g':=(⟨g.dir, .slice ae (gl+1) ce,g.ents++[((Value.slice da e.data.length dc,e):pw)]⟩:Bx)) rfl HA.o d]
           by_cases hJ:g.dir=d
           ·rw[if_pos hJ,if_pos (show cr (bl e.path)=bl d by rw[<-hJ,HQ.o]; exact(jD _).symm),<-hm.o.ents d,<-hJ,H9.o,aN]
            rfl
           ·rw[if_neg hJ,if_neg (fun h9=>hJ (kL (by rw[HQ.o]; exact(jD _).trans h9))),bY];exact hm.o.ents d
          case measure=>simp[intOf]; omega
        ·have z7:j=n:=by omega
         have HZ:Eh wr base base tree:=⟨G,hm.o.grp,fun d=>by have:=hm.o.ents d; rwa [show tree.take j=tree by rw[z7,HN.o,dj]]at this⟩;have He:base<=wr.heap.size:=by have h1:=hm.o.grp.map.lt; omega
         have h7:7<=base:=ay HE.o.seven hL;have y8: ∀p∈gs,0<=p.2/\p.2<=1099511627776:=fun p hp=>by have:=cj.1 Ht.o p hp; simpa using this
         have hX:KM base (base+1+1) (base+1) base k c gs tree (Is k gs c tree):=⟨Zn.o,Ym.o,hsd,y8,by omega,by omega,h7,by omega,Hr.o.val,Hr.o.len,Gh Ym.o Hr.o.len Hr.o.val,Gi,Gj⟩;have hM:Below w.heap.size w wr:=HU.o.trans (hm.o.below.mono hL);have YB:kK (· <base) wr (.map (some gb)) gs:=by
          rcases HG.o with⟨h1,h2⟩ | ⟨gb9,h1,_,h3⟩
          ·exact .inl ⟨h1,h2⟩
          ·exact .inr ⟨gb9,h1,aP h3.lt hL,h3.same (hM.block _ h3.lt)⟩
         have hP:=AX hX 514 (ak _) ⟨#[]⟩ (.slice none 0 0) [] wr (by show 514<=0+514; omega) (.inl rfl) hm.o.bd YB HZ (by intro b hb; simp at hb) (HE.o.keep hM HE.o.seven) He;unfold AA at hP;clear HZ hX YB
         cases Hs:gU k gs c tree 514 ⟨#[]⟩with
         | error x9=>
          rw[Hs]at hP;have yb:=am (show ij k c tree gs= .error x9 by rw[Yr.o,Hs]);have HV:=am hP;clear hP Hs;go_wp2_with fail;refine HV.o.mono ?_;rintro e' w5 ⟨rfl,Yg,v5,bs5,hO,hy⟩;have HR:=am (hM.trans (hy.below.mono hL));have Hn:=am ((hy.below.block (w.heap.size+2) hR).trans ((hm.o.below.block (w.heap.size+2) hR).trans Hp.o));have za:=am Yg
          have e4:(x9 != 0)=true:=by simp[Yg]
          clear Yg hO hy hM
          go_upto_region 20 with(fail)
          obtain⟨W6,hB⟩: ∃W6:World,W6=w5.alloc (.cells #[.string ⟨#[]⟩, .int .i64 0, .int .i64 0] 26):=⟨_,rfl⟩;rw[<-hB];have hC:Below w5.heap.size w5 W6:=by rw[hB]; exact eK
          have Hu:=am (ar HR.o hC);have hS:=am (dX hC Hn.o);clear hC hB;obtain⟨z0,z1,z2,_⟩:=aU hS.o;obtain⟨y0,y1,y2,_⟩:=gG hS.o;go_wp2_with fail;refine jS hS.o rfl rfl rfl rfl ⟨gZ Hu.o (by show w.heap.size<=w.heap.size+2; omega), ?_⟩;rw[yb.o];exact⟨rfl,za.o⟩
         | ok p=>
          rw[Hs]at hP
          dsimp only at hP
          have yb:=am (show ij k c tree gs= .ok (bA k gs p.1,dB k gs p.2 []) by rw[Yr.o,Hs]);obtain⟨r,hr⟩: ∃r,r=bA k gs p.1:=⟨_,rfl⟩;rw[<-hr]at hP;have Y6:=am hr;have HV:=am hP;unfold ef at HV;clear hP Hs hr;go_wp2_with fail;refine HV.o.mono ?_;rintro e' w5 ⟨rfl,-,v5,hO,hy⟩;have HR:=am (hM.trans (hy.below.mono hL));have Hn:=am ((hy.below.block (w.heap.size+2) hR).trans ((hm.o.below.block (w.heap.size+2) hR).trans Hp.o))
          have H7:=am hO;clear hO hy hM
          go_upto_region 22 with(fail)
          obtain⟨W6,hB⟩: ∃W6:World,W6=(w5.alloc (.cells #[.string r.name, .int .i64 r.gen, .int .i64 r.size] 26)).drew:=⟨_,rfl⟩;have hC:Below w5.heap.size w5 W6:=by rw[hB]; exact(eK).drew
          have Hu:=am (ar HR.o hC);have hS:=am (dX hC Hn.o);have ya:=am (show W6.heap[w5.heap.size]? =some (.cells #[.string r.name, .int .i64 r.gen, .int .i64 r.size] 26 (0,0)) by rw[hB]; exact dZ w5 _);have Hw:=am (H7.o.below hC);obtain⟨zs,YK,y5⟩:=Hw.o.own;obtain⟨va,vc,Zf,-,-⟩:=aH y5.row;subst Zf;have zc:=am YK;have YT:=am y5
          have H8:=am Hw.o.box;clear hC YK y5;have k12:=az (k:=12) H8.o;have f0:=az (k:=0) ya.o;have f1:=az (k:=1) ya.o;have f2:=az (k:=2) ya.o;simp only[mV,eC,fU,aK,aJ,ai,aj,ah]at k12 f0 f1 f2;obtain⟨z0,z1,z2,_⟩:=aU hS.o;obtain⟨y0,y1,y2,_⟩:=gG hS.o
          refine ez (fun w'=>w'.cell? ⟨base+1+1,12,none⟩=some (.slice va zs.length vc)/\w'.cell? ⟨w5.heap.size,0,none⟩=some (.string r.name)/\w'.cell? ⟨w5.heap.size,1,none⟩=some (.int .i64 r.gen)/\w'.cell? ⟨w5.heap.size,2,none⟩=some (.int .i64 r.size)) (by kernel_rfl) ?_;rw[<-hB];clear hB
          iterate 5 (refine cA rfl (by kernel_rfl) (fun _ _ _ h=>h) rfl ⟨k12,f0,f1,f2⟩ (by rintro w' ⟨Yc,Yd,Ye,Yf⟩; go_simp; rfl) ?_; simp only[Act.put,aa,ag,ab])
          refine cn 5 rfl (fun K hK=> ?_);have YJ:w.heap.size+1+1<w5.heap.size:=aw Hn.o;have y6:base+1+1≠w.heap.size+1+1:=by omega
          have Hk:w5.heap.size≠w.heap.size+1+1:=by omega
          have hT:=fun(u0 u1 u2:Value)=>aE ((cu (a:=⟨base+1+1,12,none⟩) (ed (w:=W6) (x0:=u0) (x1:=u1) (x2:=u2) y6)).trans k12) (aE ((cu (a:=⟨w5.heap.size,0,none⟩) (ed (w:=W6) (x0:=u0) (x1:=u1) (x2:=u2) Hk)).trans f0) (aE ((cu (a:=⟨w5.heap.size,1,none⟩) (ed (w:=W6) (x0:=u0) (x1:=u1) (x2:=u2) Hk)).trans f1) ((cu (a:=⟨w5.heap.size,2,none⟩) (ed (w:=W6) (x0:=u0) (x1:=u1) (x2:=u2) Hk)).trans f2)))
          have Hq:=am hT;clear hT k12 f0 f1 f2;go_wp2_with fail;refine⟨Hq.o _ _ _, ?_⟩
          iterate 2 (refine cA rfl (by kernel_rfl) (fun _ _ _ h=>h) rfl (Hq.o _ _ _) (by rintro w' ⟨Yc,Yd,Ye,Yf⟩; go_simp; rfl) ?_; simp only[Act.put,aa,ag,ab])
          refine cE (by kernel_rfl) ?_;go_wp2_with fail;refine jS hS.o rfl rfl rfl rfl ⟨gZ Hu.o (by show w.heap.size<=w.heap.size+2; omega), ?_⟩;rw[yb.o];refine⟨_,zs,by rw[<-Y6.o]; rfl,zc.o,YT.o.other hS.o (by decide) (by decide) hL (fun i hi=>ed hi)⟩
      ·have e1:(x != 0)=true:=by simp[Hl]
       have Yt:=am Hl;clear Hl;obtain⟨z0,z1,z2,_⟩:=aU Hp.o;obtain⟨y0,y1,y2,_⟩:=gG Hp.o;go_wp2_with fail;refine jS Hp.o rfl rfl rfl rfl ⟨gZ HU.o (by show w.heap.size<=w.heap.size+2; omega), ?_⟩;rw[Yq.o,if_neg (by rw[hN.o]; exact Yt.o)];rw[hN.o];exact⟨rfl,Yt.o⟩
     ·intro key v1 w1' a0 e0 YD Zv Hi Ya Zr YG ZT;simp only[Cw,cI]at Zv;obtain⟨rfl,rfl⟩:=Zv;have Y3:=am YD;have Y7:=am Ya;have Zc:w2.heap.size<=r9:=by have:=ZD.o; omega
      have Yv:Below w2.heap.size w2 w1':=Ho.o.grown Zr Ho.o.size (fun i hi=>by cases hi; exact Zc);have H5:=am Yv;have z9:wr.rangeLeft gb r9=(gs.map Cw).length-vis.length:=by have:=YM.o.left; omega
      have H4:w1'.rangeLeft gb r9+(vis++[(Value.string a0,Value.int .i64 e0)]).length=(gs.map Cw).length:=Ya.left;have ZC:=am (show w1'.rangeLeft gb r9<wr.rangeLeft gb r9 by
       have h1:=YM.o.left;rw[an,bT]at H4
       omega)
      clear YD Hi Ya Zr YG Yv z9 H4
      by_cases YQ:0<=e0/\e0<=1099511627776
      ·obtain⟨ZL,ZM⟩:=YQ;have HO:=am (aE ZL ZM);go_wp2_with fail
       go_roundw
       case rel=>
        refine⟨_,Y7.o,fun p hp=> ?_,H5.o⟩
        rcases aT.1 hp with hp | hp
        ·exact Ys.o p hp
        ·rw[aM]at hp;subst hp;exact⟨e0,rfl,HO.o.1,HO.o.2⟩
       case measure=>exact ZC.o
      ·have Zp:=am (show ij k c tree gs= .error 1 by
        rw[Y2.o,if_neg];intro h9;have:=cj.1 h9 _ Y3.o;simp only[aI,aL]at this;exact YQ this)
       have Hn:=am (dX H5.o yp.o);have HR:=am (ar Yh.o H5.o);obtain⟨z0,z1,z2,_⟩:=aU Hn.o;obtain⟨y0,y1,y2,_⟩:=gG Hn.o
       by_cases ZJ:e0<0
       ·clear YQ;go_wp2_with fail;refine jS Hn.o rfl rfl rfl rfl ⟨gZ HR.o (by show w.heap.size<=w.heap.size+2; omega), ?_⟩;rw[Zp.o];exact⟨rfl,by decide⟩
       ·have ZF:1099511627776<e0:=by omega
        clear YQ;go_wp2_with fail;refine jS Hn.o rfl rfl rfl rfl ⟨gZ HR.o (by show w.heap.size<=w.heap.size+2; omega), ?_⟩;rw[Zp.o];exact⟨rfl,by decide⟩
theorem vL {W:World} {b n sz:Nat} {cells:List Value} {t:TypeId} (h:W.heap[b]? =some (.cells cells.toArray t (0,0))) (hl:cells.length=n*sz) (hn:n<=maxLen):cC (fun k=>k=b) W sz (.slice (some ⟨b,0,none⟩) n n) n cells:=
 ⟨hl,some ⟨b,0,none⟩,n,rfl,ak _,hn, .inr ⟨b,0,rfl,rfl,fun j u hj=>by rw[bL h,bS,ai]; exact hj⟩⟩
theorem iz {S:Nat->Prop} {w:World} {v:Value} {bs:List UInt8} (h:bH S w v bs):(convert 29 9 v).run Tryz.prog w= .ok (.string ⟨bs.toArray⟩) w:=by
 have h1:=IP (S:=S) (w:=w) (v:=v) (bs:=bs) h;rw[xK]at h1;exact h1
theorem Lv (w:World) (c:UInt8):(convert 29 9 (.slice (some ⟨w.heap.size,0,none⟩) 1 1)).run Tryz.prog (w.alloc (.cells #[.int .u8 (c.toNat:Int)] 5))= .ok (.string ⟨#[c]⟩) (w.alloc (.cells #[.int .u8 (c.toNat:Int)] 5)):=by
 have h:=iz (S:=fun _=>True) (bs:=[c]) (w:=w.alloc (.cells #[.int .u8 (c.toNat:Int)] 5)) (v:= .slice (some ⟨w.heap.size,0,none⟩) 1 1) ((vL (cells:=[aY c]) (aF w _) rfl (by decide)).weak (fun _ _=>trivial));exact h
theorem te (c:UInt8) (w:World):Calls Tryz.prog 93 #[.int .u8 (c.toNat:Int)] w fun e w'=>e= .returned (.string (wV c))/\Below w.heap.size w w':=by
 have ha:=Lv w c
 go_enter Tryz.func93,Tryz.ntmps93
 go_wp2_with fail;go_ret;refine⟨?_,eK⟩
 rfl
theorem tf (w:World):Calls Tryz.prog 33 #[] w fun e w'=>e= .returned (kq eX)/\Below w.heap.size w w':=by
 have hc:=am ((au w.heap.size w).alloc (ak _) (.cells #[.string ⟨#[]⟩, .string ⟨#[]⟩, .string ⟨#[]⟩, .string ⟨#[]⟩, .string ⟨#[]⟩] 42));have he:=am (dZ w (.cells #[.string ⟨#[]⟩, .string ⟨#[]⟩, .string ⟨#[]⟩, .string ⟨#[]⟩, .string ⟨#[]⟩] 42))
 go_enter Tryz.func33,Tryz.ntmps33
 go_wp2_with fail;refine(te 110 _).mono ?_;rintro e wk ⟨rfl,ha⟩;have hd:=am (ar hc.o ha);have hf:=am (dX ha he.o);clear ha hc he;have hc:=hd;have he:=hf;clear hd hf;go_wp2_with fail;refine(te 115 _).mono ?_;rintro e wk ⟨rfl,ha⟩;have hd:=am (ar hc.o ha);have hf:=am (dX ha he.o);clear ha hc he;have hc:=hd;have he:=hf;clear hd hf
 go_wp2_with fail;refine(te 99 _).mono ?_;rintro e wk ⟨rfl,ha⟩;have hd:=am (ar hc.o ha);have hf:=am (dX ha he.o);clear ha hc he;have hc:=hd;have he:=hf;clear hd hf;go_wp2_with fail;refine(te 105 _).mono ?_;rintro e wk ⟨rfl,ha⟩;have hd:=am (ar hc.o ha);have hf:=am (dX ha he.o);clear ha hc he;have hc:=hd;have he:=hf;clear hd hf
 go_wp2_with fail;refine(te 116 _).mono ?_;rintro e wk ⟨rfl,ha⟩;have hd:=am (ar hc.o ha);have hx:=dX ha he.o;obtain⟨c0,c1,c2,c3,c4,_⟩:=aU hx;obtain⟨f0,f1,f2,f3,f4,_⟩:=gG hx;have h5:=jb (k:=4) (jb (k:=3) (jb (k:=2) (jb (k:=1) (jb (k:=0) hx (.string (wV 110))) (.string (wV 115))) (.string (wV 99))) (.string (wV 105))) (.string (wV 116))
 simp only[aa,ag,ab]at h5;have H5:=am h5;clear ha hx h5;go_wp2_with fail;obtain⟨m0,m1,m2,m3,m4,_⟩:=aU H5.o;refine cM (v:=kq eX) (by simp[results,Tryz.results33,go_sem,m0,m1,m2,m3,m4]; rfl) rfl ⟨rfl, ?_⟩;have hb:w.heap.size<=w.heap.size:=ak _;exact cw (cw (cw (cw (cw hd.o hb _) hb _) hb _) hb _) hb _
theorem og (w:World):Calls Tryz.prog 34 #[] w fun e w'=>e= .returned (kj kP)/\Below w.heap.size w w':=by
 have hx:=dZ w (.cells #[.int .i64 2, .int .i64 6, .int .i64 1, .int .i64 1, .int .u64 0] 45);obtain⟨m0,m1,m2,m3,m4,_⟩:=aU hx;have M:=am (aE m0 (aE m1 (aE m2 (aE m3 m4))));clear hx m0 m1 m2 m3 m4
 go_enter Tryz.func34,Tryz.ntmps34
 go_wp2_with fail;obtain⟨m0,m1,m2,m3,m4⟩:=M.o;exact cM (v:=kj kP) (by simp[results,Tryz.results34,go_sem,m0,m1,m2,m3,m4]; rfl) rfl ⟨rfl,eK⟩
end Go.Proofs.YtpffpjbkbaleiaaGreatDoor
namespace Go.Proofs.YtpffpjbkbaleiaaGreatDoor
open Go Go.RowKit
def rx :Array Value:=(pX.list.map eU).toArray
theorem Nk :Tryz.prog.built 216 ((pX.list.map eU).zipIdx.map fun p=>(p.2,p.1))=some rx:=by kernel_rfl
section
variable {P : Program} {ops : Array Oper} {Q : Exit → Act → World → Prop} {S : World → Prop}
theorem Je {dst:Option Tmp} {op:Op} {ty:TypeId} {pos:String} {aft:Array Edge} {g:Option (Nat×Bool)} {v:Value} {fuel:Nat} {listed:Array Bool} {a:Act} {w:World} (i:Nat) (hi:ops[i]? =some ⟨dst,op,ty,pos,aft,g⟩)
  (hs:Region.noSelect ops=true) (hf:Region.free .any ops listed i=true) (hr:(Region.ready .any ops listed).contains i=true)
  (hQ: ∀c a w,Q (.panic c) (a.put dst v) w->Q (.panic c) a w) (hY:YieldsIf P ops S ⟨dst,op,ty,pos,aft,g⟩ v a) (hS:S w)
  (h:ql P ops Q S fuel (listed.setIfInBounds i true) (a.put dst v) w):ql P ops Q S (fuel+1) listed a w:=
 ql.of (wpAnyH_take (oi:=⟨dst,op,ty,pos,aft,g⟩) hi hs hf hr hQ hY hS h.out)
end
theorem Eo {S:Nat->Prop} {w:World} {a:Option Addr} {n cap:Nat} {bs:List UInt8} (h:bH S w (.slice a n cap) bs) (h0:0<bs.length): ∃b o,a=some ⟨b,o,none⟩/\n=bs.length/\n<=cap/\cap<=maxLen/\ ∀j x,bs[j]? =some x->w.cell? ⟨b,o+j,none⟩=some (u8W x):=by
 obtain⟨hl,a0,cap0,hv,hn,hm,h1⟩:=h
 cases hv
 rcases h1 with h1 | ⟨b,o,rfl,hS,hc⟩
 ·omega
 ·exact⟨b,o,rfl,rfl,hn,hm,fun j x hj=>hc j _ (by rw[bn,hj]; rfl)⟩
theorem DO (S:Nat->Prop) (v:Value) (data:List UInt8) (w:World) (hv:bH S w v data) (hl:data.length<549755813888):
  Calls Tryz.prog 206 #[v] w fun e w'=>e= .returned (.string ⟨(pV data).toArray⟩)/\Below w.heap.size w w':=by
 obtain⟨W0,hy⟩: ∃W0:World,W0=(w.alloc (.cells (List.replicate 8 (eU 0)).toArray 216)).setRow w.heap.size rx:=⟨_,rfl⟩;have hM:=am (show Below w.heap.size w W0 by rw[hy]; exact eq (eK) (ak _) _);have hP:=am (show W0.heap[w.heap.size]? =some (.cells rx 216 (0,0)) by rw[hy]; exact dW _ _ _ _ _ _ (aF w _));have HV:=am hv
 clear hv
 go_enter Tryz.func206,Tryz.ntmps206
 go_upto_region 2 with(first | (refine iG rfl 216 _ rfl ((pX.list.map eU).zipIdx.map fun p=>(p.2,p.1)) (by kernel_rfl) rx Nk ?_) | (refine dr rfl 216 _ _ rfl w.heap.size rx rfl rfl _ _ (aF w _) (by kernel_rfl) (by kernel_rfl) (by kernel_rfl) ?_) | fail)
 change Code.wp _ _ _ _ ((w.alloc (.cells (List.replicate 8 (eU 0)).toArray 216)).setRow w.heap.size rx)
 rw[<-hy];clear hy;go_wp2_with fail;refine(Ms S v data W0 (cC.below HV.o (by omega) hM.o) hl).mono ?_;rintro e w1 ⟨a,c,rfl,ho,hI⟩;have HO:=am ho;have hN:=am (ar hM.o hI);have Hb:=am (dX hI hP.o);obtain⟨p,hp⟩: ∃p,p=data++pj data.length:=⟨_,rfl⟩;rw[<-hp]at HO ⊢;have HP:=am hp;have hL:p.length%64=0:=by rw[hp]; exact JK data
 have hr:p.length<1099511627775:=by rw[hp,an,xp]; unfold iH; omega
 obtain⟨q,hq⟩: ∃q,q=p.length/64:=⟨_,rfl⟩;obtain⟨n,hn⟩: ∃n,n=p.length:=⟨_,rfl⟩;rw[<-hn]at HO hL hr hq ⊢;have HN:=am hn;have HQ:=am hq;clear ho hI hp hn;have hF:=am (show ln w.heap.size w1 w1 (jM p 0)from⟨Hb.o,⟨rfl,rfl,rfl,ak _,fun _ _ _=>rfl⟩⟩);go_wp2_with fail
 go_loopw [5] (fun i wr=> ∃k:Nat,k<=q/\i= .int .i64 (((64*k:Nat):Int))/\ln w.heap.size w1 wr (jM p k)) (fun i _=>64*q-(intOf i).toNat)
 case atStart=>exact⟨0,by omega,rfl,hF.o⟩
 case round=>
  obtain⟨k,hk,rfl,h2⟩:=hrel;have hd:=am h2;clear h2;obtain⟨j,hj⟩: ∃j,j=64*k:=⟨_,rfl⟩;rw[<-hj];have HJ:=am hj
  by_cases HA:k<q
  ·have Hz:j+64<=n:=by omega
   have HC:(j:Int)<n:=by omega
   obtain⟨j2,hY⟩: ∃j2,j2=j+64:=⟨_,rfl⟩;have hD:=am hY;have Hs:IntKind.i64.wrap ((j:Int)+64)=(j2:Int):=by rw[bE]; omega
   have hw:bH (fun _=>True) wr (.slice a n c) p:=by
    have h1:=cL HO.o;exact(cC.same h1 (fun i hS=>hd.o.grown.block i (HO.o.lt i hS.2).2 (fun e=>by cases e; have:=aw hP.o; have:=hS.1; omega))).weak (fun _ _=>trivial)
   obtain⟨a3,c3,hA,hz⟩:=rq hw (show j<j2 by omega) (by rw[<-HN.o]; omega);have h0:iQ p j j2=(p.drop (64*k)).take 64:=by unfold iQ; rw[hD.o,fP,HJ.o]
   have hr:((p.drop (64*k)).take 64).length=64:=by rw[bm,bw,<-HN.o]; omega
   rw[h0]at hz hA;obtain⟨bk,o3,rfl,HB,hX,Hp,hc⟩:=Eo hz (by rw[hr]; decide);rw[hr]at hz hA hX;clear hj hY;have Hu:=am hc;obtain⟨V,hV⟩: ∃V,V=jM p k:=⟨_,rfl⟩;rw[<-hV]at hd;have hG:=am hV;have hT:=am (show V.Ok by rw[hV]; exact sO p k);obtain⟨W6,he⟩: ∃W6,W6=wr.drew:=⟨_,rfl⟩;have ha:=am (show ln w.heap.size w1 W6 V by rw[he]; exact hd.o.next ((au _ _).drew))
   have hs:=am (show ∀i x,((p.drop (64*k)).take 64)[i]? =some x->W6.cell? ⟨bk,o3+i,none⟩=some (u8W x) by rw[he]; exact hc);have Hc:=am (show(Tryz.prog.info? 216).map (·.size)=some (V.list.map eU).length by kernel_rfl);have Hv:=am (show(Tryz.prog.info? 216).map (·.size)=some (V.list.map eU).toArray.size by kernel_rfl);clear hV hw hz hc h0
   go_upto_region 6 with(fail)
   refine ey (fun w'=>w'.heap[w.heap.size]? =some (.cells (V.list.map eU).toArray 216 (0,0))) (by kernel_rfl) (by kernel_rfl) ?_;simp only[br,bt,aD,bo,Nat.reduceAdd,Nat.reduceSub];rw[<-he];clear he;refine Je 0 rfl (by kernel_rfl) (by kernel_rfl) (by kernel_rfl) (fun _ _ _ h=>h) (yieldsIf_load_mid rfl 216 _ rfl w.heap.size 0 rfl (V.list.map eU) _ (fun w' hh=>ml hh) fD rfl Hc.o) ha.o.box ?_
   simp only[Act.put,aa,ag,ab];refine bN 1 rfl (by kernel_rfl) (by kernel_rfl) (by kernel_rfl) (fun _ _ _ h=>h) rfl ha.o.box (by intro w' hh; go_simp; rfl) ?_;simp only[Act.put,aa,ag,ab];refine bN 2 rfl (by kernel_rfl) (by kernel_rfl) (by kernel_rfl) (fun _ _ _ h=>h) rfl ha.o.box (by intro w' hh; go_simp; rfl) ?_
   simp only[Act.put,aa,ag,ab];refine bN 3 rfl (by kernel_rfl) (by kernel_rfl) (by kernel_rfl) (fun _ _ _ h=>h) rfl ha.o.box (by intro w' hh; go_simp; rfl) ?_;simp only[Act.put,aa,ag,ab];refine bN 4 rfl (by kernel_rfl) (by kernel_rfl) (by kernel_rfl) (fun _ _ _ h=>h) rfl ha.o.box (by intro w' hh; go_simp; rfl) ?_
   simp only[Act.put,aa,ag,ab];refine bN 5 rfl (by kernel_rfl) (by kernel_rfl) (by kernel_rfl) (fun _ _ _ h=>h) rfl ha.o.box (by intro w' hh; go_simp; first | rfl | (rw[hA]; rfl)) ?_;simp only[Act.put,aa,ag,ab];have hJ:=El V bk o3 c3 _ W6 hT.o hr hX Hp hs.o
   obtain⟨V2,hH⟩: ∃V2,V2=rN V ((p.drop (64*k)).take 64):=⟨_,rfl⟩;rw[<-hH]at hJ;have Hi:=am hH;have Ha:=am hJ;clear hJ hA hr hH;refine cn 6 rfl (fun K hK=> ?_);go_wp2_with fail;refine Ha.o.mono ?_;rintro e w7 ⟨rfl,hW⟩;have hg:=am (ha.o.next hW);have h4:=am (show(V2.list.map eU).toArray.all (·.oneCell')=true from dU (fun x hx=>by obtain⟨y,-,rfl⟩:=aS.1 hx; rfl))
   have Hd:=am (show(Tryz.prog.info? 216).map (·.size)=some (V2.list.map eU).toArray.size by kernel_rfl);clear hW;go_wp2_with fail;refine⟨hg.o.box, ?_⟩;refine cE (by kernel_rfl) ?_;refine eD rfl rfl (fun K hK=> ?_);go_wp2_with (refine dr rfl 216 _ _ rfl w.heap.size (V2.list.map eU).toArray rfl rfl _ _ hg.o.box Hd.o rfl h4.o ?_)
   go_roundw
   case rel=>
    refine⟨k+1,by omega, ?_,hg.o.put (r':=V2) rfl |> fun h=>by rw[show jM p (k+1)=rN (jM p k) ((p.drop (64*k)).take 64)from rfl,<-hG.o,<-Hi.o]; exact h⟩;rw[hD.o,HJ.o]; exact congrArg (Value.int .i64) (by omega)
   case measure=>
    have:=HJ.o;have:=hD.o;simp only[intOf,eZ];omega
  ·have Hm:k=q:=by omega
   subst Hm;have Hx: ¬(j:Int)<n:=by omega
   obtain⟨w5,Hr⟩: ∃x,x=wr:=⟨_,rfl⟩;subst Hr;obtain⟨V,hV⟩: ∃V,V=jM p k:=⟨_,rfl⟩;rw[<-hV]at hd;have hT:=am (show V.Ok by rw[hV]; exact sO p k);have hG:=am (show pV data=V.out by unfold pV; rw[<-HP.o,<-HN.o,<-HQ.o,hV]);have He:=am (show(w5.alloc (.cells #[] 5)).ownsRow w5.heap.size 5 1 (.slice (some ⟨w5.heap.size,0,none⟩) 0 0) 0 []from dg (e:=5) (size:=1) (base:=w5.heap.size) w5 #[] 0 (ak _) (aW _) (by simp))
   have h9:=am ((au w5.heap.size w5).alloc (ak _) (.cells #[] 5));clear hV hj;go_wp2_with fail
   go_loopw [6,7] (fun o i wr=> ∃(j:Nat) (a c:_),j<=8/\i= .int .i64 (j:Int)/\o= .slice a (4*j) c/\wr.ownsRow w5.heap.size 5 1 (.slice a (4*j) c) (4*j) (((V.list.take j).flatMap AH).map aY)/\Below w5.heap.size w5 wr) (fun _ i _=>8-(intOf i).toNat)
   case atStart=>exact⟨0,_,_,by omega,rfl,rfl,He.o,h9.o⟩
   case round=>
    obtain⟨j,a6,c6,hj,rfl,rfl,ho,hb⟩:=hrel;have hE:=am ho;have hB:=am hb;have HD:=hb.size;clear ho hb;obtain⟨m,hm⟩: ∃m,m=4*j:=⟨_,rfl⟩;rw[<-hm]at hE ⊢;have HM:=am hm
    by_cases h8:j<8
    ·obtain⟨x,hx⟩: ∃x,V.list[j]? =some x:=⟨_,bJ (show j<V.list.length from h8)⟩;have HX:=am hx;have cx:=(hB.o.cell (p:=⟨w.heap.size,j,none⟩) (aw hd.o.box)).trans (hd.o.get hx);have Hy:(j:Int)<8:=by omega
     clear hx hm;obtain⟨W6,he⟩: ∃W6,W6=wr.drew:=⟨_,rfl⟩;have hR:=am (show W6.cell? ⟨w.heap.size,j,none⟩=some (.int .u32 (x:Int)) by rw[he]; exact cx);have Hf:=am (show W6.ownsRow w5.heap.size 5 1 (.slice a6 m c6) m (((V.list.take j).flatMap AH).map aY) by rw[he]; exact hE.o);have hC:=am (show Below w5.heap.size w5 W6 by rw[he]; exact hB.o.drew);have Ht:=hC.o.size
     go_upto_region 11 with(fail)
     refine ey (fun w'=>w'.cell? ⟨w.heap.size,j,none⟩=some (.int .u32 (x:Int))) (by kernel_rfl) (by kernel_rfl) ?_;simp only[br,bt,aD,bo,Nat.reduceAdd,Nat.reduceSub];rw[<-he];clear he cx
     iterate 20 (refine cA rfl (by kernel_rfl) (fun _ _ _ h=>h) rfl hR.o (by intro w' hh; go_simp; rfl) ?_; simp only[Act.put,aa,ag,ab])
     refine cn 20 rfl (fun K hK=> ?_);go_wp2_with fail;have Ho:w.heap.size<W6.heap.size:=aP (aw hd.o.box) Ht;have h7:=am ((au W6.heap.size W6).alloc (ak _) (.cells #[.int .u8 ((x:Int)/16777216%256), .int .u8 ((x:Int)/65536%256), .int .u8 ((x:Int)/256%256), .int .u8 ((x:Int)%256)] 5));have Hj:=(h7.o.cell (p:=⟨w.heap.size,j,none⟩) Ho).trans hR.o
     have Hh:=am (vL (n:=4) (sz:=1) (cells:=[.int .u8 ((x:Int)/16777216%256), .int .u8 ((x:Int)/65536%256), .int .u8 ((x:Int)/256%256), .int .u8 ((x:Int)%256)]) (aF W6 (.cells #[.int .u8 ((x:Int)/16777216%256), .int .u8 ((x:Int)/65536%256), .int .u8 ((x:Int)/256%256), .int .u8 ((x:Int)%256)] 5)) rfl (by decide));have hQ:=am (Hf.o.alloc (.cells #[.int .u8 ((x:Int)/16777216%256), .int .u8 ((x:Int)/65536%256), .int .u8 ((x:Int)/256%256), .int .u8 ((x:Int)%256)] 5))
     have Hg:=am (show ∀u∈([.int .u8 ((x:Int)/16777216%256), .int .u8 ((x:Int)/65536%256), .int .u8 ((x:Int)/256%256), .int .u8 ((x:Int)%256)]:List Value),u.oneCell'=true by intro u hu; simp only[aZ,dq,or_false]at hu; rcases hu with rfl | rfl | rfl | rfl<;> rfl);have Hq:m+4<1099511627775:=by have:=HM.o; omega
     have h3:w5.heap.size<=(W6.alloc (.cells #[.int .u8 ((x:Int)/16777216%256), .int .u8 ((x:Int)/65536%256), .int .u8 ((x:Int)/256%256), .int .u8 ((x:Int)%256)] 5)).heap.size:=by simp; omega
     refine⟨Hj, ?_⟩;refine cn 21 rfl (fun K hK=> ?_);go_wp2_with (at_builtin; go_must (refine eh Tryz.appBytes rfl _ _ rfl w5.heap.size (.slice a6 m c6) m (((V.list.take j).flatMap AH).map aY) rfl hQ.o _ 4 [.int .u8 ((x:Int)/16777216%256), .int .u8 ((x:Int)/65536%256), .int .u8 ((x:Int)/256%256), .int .u8 ((x:Int)%256)] rfl Hh.o Hg.o Hq h3 ?_); intro v9 w9 hf Hl; obtain⟨a9,c9,rfl,-,-⟩:=aH hf)
     have hO:=am (bX (hC.o.alloc hC.o.size (.cells #[.int .u8 ((x:Int)/16777216%256), .int .u8 ((x:Int)/65536%256), .int .u8 ((x:Int)/256%256), .int .u8 ((x:Int)%256)] 5)) hQ.o Hl (ak _) h3);have Hn:w.heap.size<w5.heap.size:=aw hd.o.box;have Hk:w9.cell? ⟨w.heap.size,j,none⟩=some (.int .u32 (x:Int)):=(hO.o.cell (p:=⟨w.heap.size,j,none⟩) Hn).trans (hd.o.get HX.o)
     refine⟨Hk, ?_⟩;refine cE (by kernel_rfl) ?_;refine eD rfl rfl (fun K hK=> ?_);go_wp2_with fail
     go_roundw
     case rel=>
      have hZ:m+4=4*(j+1):=by rw[HM.o]; omega
      refine⟨j+1,a9,c9,by omega,by simp,by rw[hZ], ?_,hO.o⟩;rw[<-hZ,dL HX.o,bP,aN];have e4:([x].flatMap AH).map aY=[.int .u8 ((x:Int)/16777216%256), .int .u8 ((x:Int)/65536%256), .int .u8 ((x:Int)/256%256), .int .u8 ((x:Int)%256)]:=by
       have e0:=lf (x:=x/2^24) (y:=(x:Int)/16777216%256) (by omega);have e1:=lf (x:=x/2^16) (y:=(x:Int)/65536%256) (by omega);have e2:=lf (x:=x/2^8) (y:=(x:Int)/256%256) (by omega);have e3:=lf (x:=x) (y:=(x:Int)%256) rfl;rw[e0,e1,e2,e3]
       rfl
      rw[e4];exact hf
     case measure=>simp[intOf]; omega
    ·obtain rfl:j=8:=by omega
     obtain rfl:m=V.out.length:=by rw[HM.o,GQ]
     have Hw:=iz (bs:=V.out) (cL (show wr.ownsRow w5.heap.size 5 1 (.slice a6 V.out.length c6) V.out.length (V.out.map aY)from hE.o));clear hm;go_wp2_with fail;go_ret;have hU:Below w.heap.size w w5:=lX hN.o hd.o.grown (ak _) hN.o.size;exact⟨by rw[hG.o]; rfl,hU.trans (hB.o.mono hU.size)⟩
def uo (k:List UInt8) (x:UInt8) (i:Nat):List UInt8:=(List.range i).map fun j=>(k.getD j 0)^^^x
theorem zT (k:List UInt8) (x:UInt8) (i:Nat):uo k x (i+1)=uo k x i++[(k.getD i 0)^^^x]:=by simp[uo,List.range_succ]
theorem Mv (k:List UInt8) (x:UInt8) (i:Nat):(uo k x i).length=i:=by simp[uo]
theorem Mu {k:List UInt8} (x:UInt8) (h:k.length<=64):uo k x 64=(k++List.replicate (64-k.length) 0).map (fun b=>b^^^x):=by
 apply List.ext_getElem?
 intro j;unfold uo;rw[bn,bn]
 by_cases hj:j<64
 ·rw[List.getElem?_range hj]
  by_cases hk:j<k.length
  ·rw[bK hk,bJ hk];simp[List.getD_eq_getElem?_getD,hk]
  ·rw[bG (by omega),List.getElem?_replicate,if_pos (by omega)];simp[List.getD_eq_getElem?_getD,List.getElem?_eq_none (show k.length<=j by omega)]
 ·rw[dG (by simp; omega),dG (by simp; omega)]
  rfl
theorem Mt (s:ByteArray) (x:UInt8) (w:World):Calls Tryz.prog 207 #[.string s, .int .u8 (x.toNat:Int)] w fun e w'=> ∃a c,e= .returned (.slice a 64 c)/\lO w' w.heap.size (.slice a 64 c) (uo (bl s) x 64)/\Below w.heap.size w w':=by
 have hl:=am (show(w.alloc (.cells #[] 5)).ownsRow w.heap.size 5 1 (.slice (some ⟨w.heap.size,0,none⟩) 0 0) 0 ((uo (bl s) x 0).map aY)from dg (e:=5) (size:=1) (base:=w.heap.size) w #[] 0 (ak _) (aW _) (by simp));have hj:=am ((au w.heap.size w).alloc (ak _) (.cells #[] 5))
 go_enter Tryz.func207,Tryz.ntmps207
 go_wp2_with fail
 go_loopw [5,6] (fun o i wr=> ∃(k:Nat) (a:Option Addr) (c:Nat),k<=64/\i= .int .i64 (k:Int)/\o= .slice a k c/\wr.ownsRow w.heap.size 5 1 (.slice a k c) k ((uo (bl s) x k).map aY)/\Below w.heap.size w wr) (fun _ i _=>64-(intOf i).toNat)
 case atStart=>exact⟨0,_,_,by omega,rfl,rfl,hl.o,hj.o⟩
 case round=>
  obtain⟨k,a,c,hk,rfl,rfl,ho,hb⟩:=hrel;have HO:=am ho;have HB:=am hb;have hz:=hb.size;clear ho hb hl hj
  by_cases hq:k<64
  ·have hp:(k:Int)<64:=by omega
   have hd:k<1099511627775:=by omega
   by_cases hm:k<s.size
   ·have hh:(k:Int)<(s.size:Int):=by omega
    have HZ:=am (show ∀u∈[Value.int .u8 (bits BinOp.xor IntKind.u8 (s[k].toNat:Int) (x.toNat:Int))],u.oneCell'=true by simp[Value.oneCell']);have hg:=am (show [Value.int .u8 (bits BinOp.xor IntKind.u8 (s[k].toNat:Int) (x.toNat:Int))]=[(bl s).getD k 0^^^x].map aY by
     rw[FW,cH,bJ (show k<(bl s).length by rw[<-bh]; exact hm),Option.getD_some,kA s k hm]; rfl)
    go_wp2_with (at_builtin; go_loud (refine bO Tryz.appBytes rfl _ _ rfl w.heap.size (.slice a k c) k ((uo (bl s) x k).map aY) rfl wr [Value.int .u8 (bits BinOp.xor IntKind.u8 (s[k].toNat:Int) (x.toNat:Int))] _ rfl rfl HZ.o HO.o hd hz ?_); intro v' wc ha hc _ _; obtain⟨ae,ce,rfl,-,-⟩:=aH ha; rw[hg.o,<-aN,<-zT]at ha; have hf:=am ha; have he:=am (bX HB.o HO.o hc (ak _) hz); clear ha hc)
    go_roundw
    case rel=>exact⟨k+1,_,_,by omega,by go_num,rfl,hf.o,he.o⟩
    case measure=>simp[intOf]; omega
   ·have hh: ¬(k:Int)<(s.size:Int):=by omega
    have HZ:=am (show ∀u∈[Value.int .u8 (bits BinOp.xor IntKind.u8 0 (x.toNat:Int))],u.oneCell'=true by simp[Value.oneCell']);have hg:=am (show [Value.int .u8 (bits BinOp.xor IntKind.u8 0 (x.toNat:Int))]=[(bl s).getD k 0^^^x].map aY by
     rw[cH,dG (show(bl s).length<=k by rw[<-bh]; omega),Option.getD_none];have h1:=FW 0 x;rw[show(((0:UInt8).toNat:Nat):Int)=0 from rfl]at h1;rw[h1]; rfl)
    go_wp2_with (at_builtin; go_loud (refine bO Tryz.appBytes rfl _ _ rfl w.heap.size (.slice a k c) k ((uo (bl s) x k).map aY) rfl wr [Value.int .u8 (bits BinOp.xor IntKind.u8 0 (x.toNat:Int))] _ rfl rfl HZ.o HO.o hd hz ?_); intro v' wc ha hc _ _; obtain⟨ae,ce,rfl,-,-⟩:=aH ha; rw[hg.o,<-aN,<-zT]at ha; have hf:=am ha; have he:=am (bX HB.o HO.o hc (ak _) hz); clear ha hc)
    go_roundw
    case rel=>exact⟨k+1,_,_,by omega,by go_num,rfl,hf.o,he.o⟩
    case measure=>simp[intOf]; omega
  ·have hn:k=64:=by omega
   subst hn;go_wp2_with fail;go_ret;refine⟨a,c,rfl, ?_,HB.o⟩;unfold lO;rw[Mv];exact HO.o
theorem GR (s:ByteArray) (x:UInt8) (n:Int) (w:World) (hn:n=(x.toNat:Int)) (hs:s.size<=64):Calls Tryz.prog 207 #[.string s, .int .u8 n] w fun e w'=> ∃a c,e= .returned (.slice a 64 c)/\lO w' w.heap.size (.slice a 64 c) (gy (iN (bl s)) x)/\Below w.heap.size w w':=by
 subst hn;have hk:uo (bl s) x 64=gy (iN (bl s)) x:=by
  rw[Mu x (by rw[<-bh]; exact hs)];unfold gy iN;rw[if_neg (by rw[<-bh]; omega)]
 rw[<-hk];exact Mt s x w
theorem MY (S:Nat->Prop) (key:ByteArray) (data:List UInt8) (dv:Value) (w:World) (hk:key.size<=64) (hv:bH S w dv data) (hl:data.length<549755000000):
  Calls Tryz.prog 190 #[.string key,dv] w fun e w'=>e= .returned (.string ⟨(yH (bl key) data).toArray⟩)/\Below w.heap.size w w':=by
 obtain⟨h3,a,cap,rfl,hn,hm,-⟩:=id hv;unfold maxLen at hm;have HV:=am hv;obtain⟨n,hy⟩: ∃n,n=data.length:=⟨_,rfl⟩;rw[<-hy]at HV hl hn ⊢;have HN:=am hy;have h4: ¬(64:Int)<(key.size:Int):=by omega
 obtain⟨kx,hu⟩: ∃kx,kx=gy (iN (bl key)) 54:=⟨_,rfl⟩;obtain⟨ky,hw⟩: ∃ky,ky=gy (iN (bl key)) 92:=⟨_,rfl⟩;have he:kx.length=64:=by rw[hu]; unfold gy; rw[aB,jm]
 have hf:ky.length=64:=by rw[hw]; unfold gy; rw[aB,jm]
 have hA:=am hu;have hB:=am hw;have hp:=am he;have hq:=am hf;clear hv h3 hy hu hw he hf
 go_enter Tryz.func190,Tryz.ntmps190
 go_wp2_with fail;refine(GR key 54 54 _ rfl hk).mono ?_;rintro e w1 ⟨a1,c1,rfl,hg,hj⟩;rw[<-hA.o]at hg;have hC:=am (show w1.ownsRow w.heap.size 5 1 (.slice a1 64 c1) 64 (kx.map aY) by unfold lO at hg; rw[hp.o]at hg; exact hg);have hM:=am hj;have hX:=am (show cC S w1 1 (.slice a n cap) n (data.map aY) by rw[HN.o]; exact cC.below (by have:=HV.o; rw[HN.o]at this; exact this) (by omega) hj)
 have hJ:=hj.size;clear hg hj;have hx:64+n<1099511627775:=by omega
 go_wp2_with (at_builtin; go_loud (refine eh Tryz.appBytes rfl _ _ rfl w.heap.size (.slice a1 64 c1) 64 (kx.map aY) rfl hC.o (.slice a n cap) n (data.map aY) rfl hX.o (fj data) hx hJ ?_); intro v2 w2 hb hH; obtain⟨a2,c2,rfl,-,-⟩:=aH hb; have hU:=am hb; have hN:=am (bX hM.o hC.o hH (ak _) hJ); clear hb hH);have hY:=am (show bH (fun _=>True) w2 (.slice a2 (64+n) c2) (kx++data) by
  have h1:=cL hU.o;have h2:(kx++data).length=64+n:=by rw[an,hp.o,HN.o]
  show cC _ w2 1 _ (kx++data).length ((kx++data).map aY)
  rw[h2,aN];exact h1.weak fun _ _=>trivial)
 refine(DO _ _ (kx++data) _ hY.o (by rw[an,hp.o,<-HN.o]; omega)).mono ?_;rintro e w3 ⟨rfl,hE⟩;have ho:=am (ar hN.o hE);clear hE;obtain⟨inn,hd⟩: ∃i:ByteArray,i=⟨(pV (kx++data)).toArray⟩:=⟨_,rfl⟩;have ha:inn.size=32:=by rw[hd,bh,jD,tG]
 rw[<-hd];have hT:=am hd;clear hd;go_wp2_with fail;refine(GR key 92 92 _ rfl hk).mono ?_;rintro e w4 ⟨a4,c4,rfl,hh,hr⟩;rw[<-hB.o]at hh;have hV:=am (show w4.ownsRow w3.heap.size 5 1 (.slice a4 64 c4) 64 (ky.map aY) by unfold lO at hh; rw[hq.o]at hh; exact hh);have hO:=am (ar ho.o hr);have h8:=hr.size;clear hh hr;obtain⟨W5,cp,h0,hG,hs,h7⟩:=tZ inn w4 (by unfold maxLen; omega)
 have hP:=am (ar hO.o hs);have hD:=am (cR hV.o hs);have hS:=am (show cC (fun k=>k=w4.heap.size) W5 1 (.slice (some ⟨w4.heap.size,0,none⟩) 32 cp) 32 ((bl inn).map aY) by have h1:=hG; unfold bH at h1; rw[<-bh,ha]at h1; exact h1);rw[ha]at h0;have hz:=am ha;have hL:w3.heap.size<=W5.heap.size:=by omega
 clear hG hs ha;go_wp2_with (at_builtin; go_loud (refine eh Tryz.appBytes rfl _ _ rfl w3.heap.size (.slice a4 64 c4) 64 (ky.map aY) rfl hD.o (.slice (some ⟨w4.heap.size,0,none⟩) 32 cp) 32 ((bl inn).map aY) rfl hS.o (fj (bl inn)) (by decide) hL ?_); intro v6 w6 hc hI; obtain⟨a6,c6,rfl,-,-⟩:=aH hc; have hW:=am hc; have hQ:=am (bX (B:=w.heap.size) hP.o hD.o hI ho.o.size (ay ho.o.size hL)); clear hc hI)
 have hZ:=am (show bH (fun _=>True) w6 (.slice a6 96 c6) (ky++bl inn) by
  have h1:=cL hW.o;have h2:(ky++bl inn).length=64+32:=by rw[an,hq.o,<-bh,hz.o]
  show cC _ w6 1 _ (ky++bl inn).length ((ky++bl inn).map aY)
  rw[h2,aN];exact h1.weak fun _ _=>trivial)
 refine(DO _ _ (ky++bl inn) _ hZ.o (by rw[an,hq.o,<-bh,hz.o]; decide)).mono ?_;rintro e w7 ⟨rfl,hF⟩;have hR:=am (ar hQ.o hF);clear hF;have HT:=am (show pV (ky++bl inn)=yH (bl key) data by
  rw[hT.o,jD,hA.o,hB.o]
  rfl)
 go_wp2_with fail;go_ret;exact⟨by rw[<-HT.o]; rfl,hR.o⟩
theorem EU (k:dh) (w:World):Calls Tryz.prog 74 #[kq k] w fun e w'=>e= .returned (.bool (jx k))/\Below w.heap.size w w':=by
 obtain⟨W,hW⟩: ∃W,W=w.alloc (.cells #[.string k.nm, .string k.st, .string k.ck, .string k.ix, .string k.tk] 42):=⟨_,rfl⟩;have HB:=am (show Below w.heap.size w W by rw[hW]; exact eK);have HX:=am (show W.heap[w.heap.size]? =some (.cells #[.string k.nm, .string k.st, .string k.ck, .string k.ix, .string k.tk] 42 (0,0)) by rw[hW]; exact aF w _);have hv:jx k=(((decide (k.nm.size=32) && decide (k.st.size=32)) && decide (k.ck.size=32)) && decide (k.ix.size=32) && decide (k.tk.size=32)):=by
  unfold jx dh.list; simp[Bool.and_assoc]
 have HV:=am hv;clear hv;unfold kq
 go_enter Tryz.func74,Tryz.ntmps74
 go_upto_region 1 with fail
 rw[<-hW];clear hW;obtain⟨c0,c1,c2,c3,c4,_⟩:=aU HX.o;go_wp2_with fail
 all_goals (go_ret; refine⟨bW ?_,HB.o⟩; rw[HV.o,dk]; simp; omega)
theorem Jk (k:dh) (b:Bool) (w:World) (h:jx k=b):Calls Tryz.prog 74 #[kq k] w fun e w'=>e= .returned (.bool b)/\Below w.heap.size w w':=by rw[<-h]; exact EU k w
theorem yi (n:Nat) (w:World) (hn:n<18446744073709551616):Calls Tryz.prog 103 #[.int .u64 (n:Int)] w (fun e w'=> ∃v,e= .returned v/\lO w' w.heap.size v (bD n)/\Below w.heap.size w w'):=by
 have HO:=am (dg (e:=5) (size:=1) (base:=w.heap.size) w #[] 0 (ak _) (aW _) (by simp));have HB:=am ((au w.heap.size w).alloc (ak _) (.cells #[] 5))
 go_enter Tryz.func103,Tryz.ntmps103
 go_wp2_with fail
 go_loopw [0,3] (fun x o wr=> ∃(f m:Nat) (acc:List UInt8),x= .int .u64 (m:Int)/\m<18446744073709551616/\m<2^(7*f)/\acc++jJ f m=bD n/\wr.ownsRow w.heap.size 5 1 o acc.length (acc.map aY)/\acc.length<=20/\Below w.heap.size w wr) (fun x _ _=>(intOf x).toNat)
 case atStart=>exact⟨10,n,[],rfl,hn,iV hn (by decide),rfl,HO.o,by simp,HB.o⟩
 case round=>
  obtain⟨f,m,acc,rfl,hm,hr,he,hd,hu,hb⟩:=hrel;have HE:=am he;have hf:=am hd;have hp:=am hb;have hq:=am hr;have hg:=hb.size;obtain⟨ao,co,rfl,h1,h2⟩:=aH hd;clear he hd hb hr HO HB
  by_cases ho:127<m
  ·have hv:Value.int .u8 ((m:Int)%128+128)=aY (UInt8.ofNat (m%128+128)):=by rw[lZ (by omega)]; simp
   have HV:=am hv;obtain⟨f,rfl⟩: ∃g,f=g+1:=⟨f-1,by
    cases f with
    | zero=>have:=hq.o; simp at this; omega
    | succ g=>rfl⟩
   have hj:=am (show(acc++[UInt8.ofNat (m%128+128)])++jJ f (m/128)=bD n by rw[<-HE.o,jJ,if_pos ho]; simp);have hk:=am (show m/128<2^(7*f) by
    have h3:=hq.o;rw[show 7*(f+1)=7*f+7 by omega,gj]at h3;exact eS (by omega))
   have hs:acc.length<=10:=by
    have h4:=dt n;rw[<-HE.o,an,jJ,if_pos ho,aD]at h4;omega
   clear hv;go_wp2_with (at_builtin; go_must (refine iL Tryz.appBytes rfl _ _ rfl w.heap.size (.slice ao acc.length co) acc.length (acc.map aY) rfl wr [.int .u8 ((m:Int)%128+128)] _ rfl rfl (by rw[HV.o]; exact oX _) hf.o (by omega) hg ?_); intro v' wc hc ha _; have hh:=am (bX hp.o hf.o ha (ak _) hg); have hl:=am (show wc.ownsRow w.heap.size 5 1 v' (acc++[UInt8.ofNat (m%128+128)]).length ((acc++[UInt8.ofNat (m%128+128)]).map aY) by rw[an,aN,cB,eE,<-HV.o]; exact hc); obtain⟨ae,ce,rfl,-,-⟩:=aH hc; clear hc ha)
   go_roundw
   case rel=>exact⟨f,m/128,acc++[UInt8.ofNat (m%128+128)],by simp,by omega,hk.o,hj.o,hl.o,by simp; omega,hh.o⟩
   case measure=>simp[intOf]; omega
  ·have hv:Value.int .u8 (m:Int)=aY (UInt8.ofNat m):=by rw[lZ (by omega)]
   have HV:=am hv;have hj:=am (show acc++[UInt8.ofNat m]=bD n by
    rw[<-HE.o]
    cases f with
    | zero=>rfl
    | succ f=>rw[jJ,if_neg ho])
   clear hv;go_wp2_with (at_builtin; go_must (refine iL Tryz.appBytes rfl _ _ rfl w.heap.size (.slice ao acc.length co) acc.length (acc.map aY) rfl wr [.int .u8 (m:Int)] _ rfl rfl (by rw[HV.o]; exact oX _) hf.o (by omega) hg ?_); intro v' wc hc ha _; have hh:=am (bX hp.o hf.o ha (ak _) hg); have hl:=am (show wc.ownsRow w.heap.size 5 1 v' (acc++[UInt8.ofNat m]).length ((acc++[UInt8.ofNat m]).map aY) by rw[an,aN,cB,eE,<-HV.o]; exact hc); obtain⟨ae,ce,rfl,-,-⟩:=aH hc; clear hc ha)
   go_ret;rw[<-hj.o];exact⟨_,rfl,hl.o,hh.o⟩
def BH (k:dh) (b:Nat) (v:Value) (data:List UInt8) (w:World):Prop:=w.heap[b]? =some (.cells #[.string k.nm, .string k.st, .string k.ck, .string k.ix, .string k.tk] 42 (0,0))/\bH (fun _=>True) w v data
theorem BH.below {k:dh} {b:Nat} {v:Value} {data:List UInt8} {w w':World} (h:BH k b v data w) (hb:Below w.heap.size w w'):BH k b v data w':=⟨(hb.block _ (aw h.1)).trans h.1,cC.below h.2 (by omega) hb⟩
theorem EZ (S:Nat->Prop) (k:dh) (g:Nat) (data:List UInt8) (dv:Value) (w:World) (hk:jx k=true) (hg:g<=1099511627776) (hv:bH S w dv data) (hl:data.length<=32768):
  Calls Tryz.prog 178 #[kq k, .int .i64 (g:Int),dv] w fun e w'=>e= .returned (.tuple #[.string (lS k g data), .int .i64 0])/\Below w.heap.size w w':=by
 obtain⟨hI,a,cap,rfl,hn,hm,-⟩:=id hv;unfold maxLen at hm;obtain⟨n,hf⟩: ∃n,n=data.length:=⟨_,rfl⟩;have HN:=am hf;have hy:k.nm.size=32:=(uA hk).1;have hD:=am hy;obtain⟨W,hW⟩: ∃W,W=w.alloc (.cells #[.string k.nm, .string k.st, .string k.ck, .string k.ix, .string k.tk] 42):=⟨_,rfl⟩;have HB:=am (show Below w.heap.size w W by rw[hW]; exact eK);have HX:=am (show BH k w.heap.size (.slice a n cap) data W by
  rw[hW,hf];exact⟨aF w _,(cC.below hv (by omega) (eK)).weak fun _ _=>trivial⟩)
 rw[<-hf]at hl hn ⊢;have HK:=am hk;have hM: ¬(g:Int)<0:=by omega
 have hN:IntKind.u64.wrap (g:Int)=(g:Int):=by rw[cQ]; omega
 have hO: ¬(32768:Int)<(n:Int):=by omega
 clear hv hI hf hk hy;unfold kq
 go_enter Tryz.func178,Tryz.ntmps178
 go_upto_region 1 with fail
 rw[<-hW];clear hW;obtain⟨c0,c1,c2,c3,c4,_⟩:=aU HX.o.1;go_wp2_with fail;refine(Jk k true _ HK.o).mono ?_;rintro e w1 ⟨rfl,hh⟩;have hA:=am (ar HB.o hh);have hG:=am (HX.o.below hh);clear hh c0 c1 c2 c3 c4
 go_upto_region 5 with fail
 refine ez (BH k w.heap.size (.slice a n cap) data) (by kernel_rfl) ?_;obtain⟨V,hV⟩: ∃V:World,V=w1.drew:=⟨_,rfl⟩;rw[<-hV];have hb:Below w1.heap.size w1 V:=by rw[hV]; exact(au _ _).drew
 have hp:=am (ar hA.o hb);have SV:=am (hG.o.below hb);clear hV hb
 iterate 4 (refine cA rfl (by kernel_rfl) (fun _ _ _ h=>h) rfl SV.o (by rintro w' ⟨hx,_⟩; have x0:=bL (k:=0) hx; simp only[ai,ah]at x0; go_simp; rfl) ?_; simp only[Act.put,aa,ag,ab])
 refine bN 5 rfl (by kernel_rfl) (by kernel_rfl) (by kernel_rfl) (fun _ _ _ h=>h) rfl SV.o (by rintro w' ⟨hx,_⟩; have x0:=bL (k:=0) hx; simp only[ai,ah]at x0; go_simp; rfl) ?_;simp only[Act.put,aa,ag,ab];refine cn 4 rfl (fun K hK=> ?_);go_wp2_with fail;refine(yi g _ (by omega)).mono ?_
 rintro e w2 ⟨v2,rfl,hd,hc⟩;obtain⟨a2,c2,rfl,-,-⟩:=aH hd;have hL:=am (ar hp.o hc);have S2:=am (SV.o.below hc);obtain⟨m,he⟩: ∃m,m=(bD g).length:=⟨_,rfl⟩;have hr:=am he;have ho:=dt g;rw[<-he]at ho ⊢;have hs:=am (show w2.ownsRow V.heap.size 5 1 (.slice a2 m c2) m ((bD g).map aY) by unfold lO at hd; rw[<-he]at hd; exact hd)
 have hF:=am (show cC (fun _=>True) w2 1 (.slice a n cap) n (data.map aY) by have h1:=S2.o.2; unfold bH at h1; rw[<-HN.o]at h1; exact h1);have hz:=hc.size;have hu:=am hc;clear hd hc he;go_wp2_with fail;refine⟨S2.o, ?_⟩;refine cn 6 rfl (fun K hK=> ?_);have hJ:m+n<1099511627775:=by omega
 go_wp2_with (at_builtin; go_loud (refine eh Tryz.appBytes rfl _ _ rfl V.heap.size (.slice a2 m c2) m ((bD g).map aY) rfl hs.o (.slice a n cap) n (data.map aY) rfl hF.o (fj data) hJ hz ?_); intro v3 w3 ha hw; obtain⟨a3,c3,rfl,-,-⟩:=aH ha; have hE:=am ha; have hq:=am (bX (B:=V.heap.size) ((au _ _).mono (ak _)) hs.o hw (ak _) hz); clear ha hw)
 have S3:=am (SV.o.below (hu.o.trans hq.o));have hB:=am (ar hp.o (hu.o.trans hq.o));have hH:=am (show bH (fun _=>True) w3 (.slice a3 (m+n) c3) (bD g++data) by
  have h1:=cL hE.o;have h2:(bD g++data).length=m+n:=by rw[an,<-hr.o,<-HN.o]
  show cC _ w3 1 _ (bD g++data).length ((bD g++data).map aY)
  rw[h2,aN];exact h1.weak fun _ _=>trivial)
 refine⟨S3.o, ?_⟩;refine cn 7 rfl (fun K hK=> ?_);go_wp2_with fail;refine(MY _ k.nm (bD g++data) _ _ (by rw[hD.o]; decide) hH.o (by rw[an,<-hr.o,<-HN.o]; omega)).mono ?_;rintro e w4 ⟨rfl,hj⟩;have S4:=am (S3.o.below hj);have hC:=am (ar hB.o hj);clear hj;go_wp2_with fail;refine⟨S4.o, ?_⟩
 iterate 2 (refine cA rfl (by kernel_rfl) (fun _ _ _ h=>h) rfl S4.o (by rintro w' ⟨hx,_⟩; have x0:=bL (k:=0) hx; simp only[ai,ah]at x0; go_simp; rfl) ?_; simp only[Act.put,aa,ag,ab])
 refine cE (by kernel_rfl) ?_;go_wp2_with fail
 go_ret2
 exact⟨rfl,hC.o⟩
theorem Md {a:Act} {w:World} {b:Nat} {x0 x1 x2 x3 x4 x5 x6 x7 x8 x9 e7:Value} (h:w.heap[b]? =some (.cells #[x0,x1,x2,x3,x4,x5,x6,x7,x8,x9] 28 (0,0)))
  (h6:a.tmps[6]? =some (.pointer (some ⟨b,0,none⟩))) (h7:a.tmps[7]? =some e7):(results Tryz.f28 a.tmps).run Tryz.prog w= .ok (.tuple #[.agg #[x0,x1,x2,x3,x4,x5,x6,x7,x8,x9],e7]) w:=by
 obtain⟨m0,m1,m2,m3,m4,m5,m6,m7,m8,m9,_⟩:=aU h;simp[results,Tryz.results28,go_sem,h6,h7,m0,m1,m2,m3,m4,m5,m6,m7,m8,m9]
theorem pf {a:Act} {w:World} {b:Nat} {a0 a1 a2 a3 a4 a5 a6 a7 a8 a9 x0 x1 x2 x3 x4 x5 x6 x7 x8 x9 e7:Value} {Q:Ending->World->Prop} (h:w.heap[b]? =some (.cells #[a0,a1,a2,a3,a4,a5,a6,a7,a8,a9] 28 (0,0)))
  (h6:a.tmps[6]? =some (.pointer (some ⟨b,0,none⟩))) (h7:a.tmps[7]? =some e7) (hd:a.defers=[])
  (hQ:Q (.returned (.tuple #[.agg #[x0,x1,x2,x3,x4,x5,x6,x7,x8,x9],e7])) ((((((((((w.setCell ⟨b,0,none⟩ x0).setCell ⟨b,1,none⟩ x1).setCell ⟨b,2,none⟩ x2).setCell ⟨b,3,none⟩ x3).setCell ⟨b,4,none⟩ x4).setCell ⟨b,5,none⟩ x5).setCell ⟨b,6,none⟩ x6).setCell ⟨b,7,none⟩ x7).setCell ⟨b,8,none⟩ x8).setCell ⟨b,9,none⟩ x9)):
  bodyPost Tryz.prog Tryz.f28 Q Exit.ret a ((((((((((w.setCell ⟨b,0,none⟩ x0).setCell ⟨b,1,none⟩ x1).setCell ⟨b,2,none⟩ x2).setCell ⟨b,3,none⟩ x3).setCell ⟨b,4,none⟩ x4).setCell ⟨b,5,none⟩ x5).setCell ⟨b,6,none⟩ x6).setCell ⟨b,7,none⟩ x7).setCell ⟨b,8,none⟩ x8).setCell ⟨b,9,none⟩ x9):=cM (Md (Ig h) h6 h7) hd hQ
theorem MU {S:Nat->Prop} {w w':World} {a:Option Addr} {n cap:Nat} {xs:List ByteArray} (h:lz S w (.slice a n cap) xs) (hb:Below w.heap.size w w') {k:Nat} {x:ByteArray} (hx:xs[k]? =some x):
  ∃b o,a=some ⟨b,o,none⟩/\b<w.heap.size/\w'.cell? ⟨b,o+k,none⟩=some (.string x):=by
 obtain⟨_,a',cap',he,_,_,h0⟩:=h
 cases he
 rcases h0 with h0 | ⟨b,o,rfl,_,hc⟩
 ·have:=(aG.1 hx).1;omega
 ·have q:=hc k (.string x) (GG hx);exact⟨b,o,rfl,cF q,(hb.cell (p:=⟨b,o+k,none⟩) (cF q)).trans q⟩
structure LkI (w2 : World) (ib : Nat) (wr : World) (it : cg) : Prop where
 below:Below ib w2 wr
 box: ∃ca cc,wr.heap[ib]? =some (.cells (eW (.slice ca it.chunks.length cc) it).toArray 28 (0,0))/\dy (fun k=>ib<k) wr (.slice ca it.chunks.length cc) it.chunks
 ok:iw it
theorem LkI.next {w2 wr w':World} {ib:Nat} {it:cg} (h:LkI w2 ib wr it) (hb:Below wr.heap.size wr w'):LkI w2 ib w' it:=by
 obtain⟨ca,cc,h1,h2⟩:=h.box;have hl:=aw h1;exact⟨h.below.trans (hb.mono (by omega)),⟨ca,cc,(hb.block ib hl).trans h1,cP.below h2 (by omega) hb (fun _ _ _ h=>h)⟩,h.ok⟩
theorem Ew {root:cy} (h:dY root):iw (mY root):=⟨by show(0:Nat)<=_; unfold maxLen; omega,by show(0:Nat)<=_; unfold maxLen; omega,h⟩
def ND (cs:List (ByteArray×List UInt8)) (root:cy) (path:ByteArray) (w:World) (e:Ending) (w':World):Prop:=Below w.heap.size w w'/\match kS cs root path with
 | .error x=>e= .returned (.tuple #[.agg #[.string ⟨#[]⟩, .int .i64 0, .int .i64 0, .int .i64 0, .int .i64 0, .string ⟨#[]⟩, .slice none 0 0, .string ⟨#[]⟩, .int .i64 0, .int .i64 0], .int .i64 x])/\x≠0
 | .ok it=> ∃v,e= .returned (.tuple #[rK v it, .int .i64 0])/\dy (w.heap.size<= ·) w' v it.chunks/\iw it
theorem rL (S:Nat->Prop) (cv:Value) (cs:List (ByteArray×List UInt8)) (root:cy) (path:ByteArray) (w:World) (hc:fW S w cv cs) (henv:nY w) (hr:dY root):Calls Tryz.prog 28 #[ef root,cv, .string path] w (ND cs root path w):=by
 obtain⟨W0,hG⟩: ∃W0,W0=(w.alloc (.cells #[.string root.name, .int .i64 root.gen, .int .i64 root.size] 26)).alloc (.cells #[.string ⟨#[]⟩, .int .i64 0, .int .i64 0, .int .i64 0, .int .i64 0, .string ⟨#[]⟩, .slice none 0 0, .string ⟨#[]⟩, .int .i64 0, .int .i64 0] 28):=⟨_,rfl⟩;have hA:=am (show Below w.heap.size w W0 by rw[hG]; exact(eK).alloc (by simp) _);have Hp:=am (show W0.heap[w.heap.size]? =some (.cells #[.string root.name, .int .i64 root.gen, .int .i64 root.size] 26 (0,0)) by rw[hG]; exact lW (dZ w _) _)
 have He:=am (show W0.heap[w.heap.size+1]? =some (.cells #[.string ⟨#[]⟩, .int .i64 0, .int .i64 0, .int .i64 0, .int .i64 0, .string ⟨#[]⟩, .slice none 0 0, .string ⟨#[]⟩, .int .i64 0, .int .i64 0] 28 (0,0)) by rw[hG]; exact pJ w _ _);have HI:=am (kE.start (hc.below hA.o) (henv.below hA.o));have HR:=am hr;unfold ef;clear hc henv hr
 go_enter Tryz.func28,Tryz.ntmps28
 go_upto_region 1 with(fail)
 rw[<-hG];clear hG
 cases hp:dD (bl path)with
 | false=>
  have HM:=am (show kS cs root path= .error 1 by unfold kS; rw[if_neg (by rw[hp]; simp)]);have HP:=am hp;clear hp;go_wp2_with fail;refine(Kv path W0 HI.o.env HP.o).mono ?_;rintro e w1 ⟨rfl,hd⟩;have hB:=am (ar hA.o hd);have hu:=am (dX hd He.o);obtain⟨z0,z1,z2,z3,z4,z5,z6,z7,z8,z9,_⟩:=aU hu.o;obtain⟨g0,g1,g2,g3,g4,g5,g6,g7,g8,g9,_⟩:=gG hu.o
  clear hd;go_wp2_with fail;refine pf hu.o rfl rfl rfl ⟨ji hB.o (by show w.heap.size<=w.heap.size+1; omega), ?_⟩;rw[HM.o];exact⟨rfl,by decide⟩
 | true=>
  have HP:=am hp
  cases hv:lm root with
  | false=>
   have HM:=am (show kS cs root path= .error 1 by unfold kS; rw[if_neg (by rw[hv]; simp)]);have Hc:=am hv;clear hp hv;go_wp2_with fail;refine(DM path W0 HI.o.env HP.o).mono ?_;rintro e w1 ⟨ap,cp,rfl,-,-,-,hd⟩;have hB:=am (ar hA.o hd);have Hn:=am hd;have hN:=am (dX hd Hp.o);have hu:=am (dX hd He.o);obtain⟨r0,r1,r2,_⟩:=aU hN.o
   clear hd;go_wp2_with fail;refine(io root false _ HR.o Hc.o).mono ?_;rintro e w2 ⟨rfl,hl⟩;have hM:=am (ar hB.o hl);have hn:=am (dX hl hu.o);obtain⟨z0,z1,z2,z3,z4,z5,z6,z7,z8,z9,_⟩:=aU hn.o;obtain⟨g0,g1,g2,g3,g4,g5,g6,g7,g8,g9,_⟩:=gG hn.o;clear hl r0 r1 r2;go_wp2_with fail;refine pf hn.o rfl rfl rfl ⟨ji hM.o (by show w.heap.size<=w.heap.size+1; omega), ?_⟩
   rw[HM.o];exact⟨rfl,by decide⟩
  | true=>
   have HM:=am (show kS cs root path=pd cs (jE (bl path)) (mY root) by unfold kS; rw[if_pos ⟨hp,hv⟩]);have Hc:=am hv;clear hp hv;go_wp2_with fail;refine(DM path W0 HI.o.env HP.o).mono ?_;rintro e w1 ⟨ap,cp,rfl,Hv,HN,hT,hd⟩;obtain⟨ps,Hi⟩: ∃ps,ps=jE (bl path):=⟨_,rfl⟩;rw[<-Hi]at hT Hv ⊢;have HF:=am Hi;obtain⟨np,hh⟩: ∃np,np=ps.length:=⟨_,rfl⟩
   rw[<-hh]at hT Hv ⊢;have h7:=am hh;have HG:=am hT;unfold maxLen at HN;have hB:=am (ar hA.o hd);have Hn:=am hd;have hN:=am (dX hd Hp.o);have hu:=am (dX hd He.o);obtain⟨r0,r1,r2,_⟩:=aU hN.o;clear hd;clear Hi hh hT;go_wp2_with fail;refine(io root true _ HR.o Hc.o).mono ?_;rintro e w2 ⟨rfl,hl⟩;have hM:=am (ar hB.o hl)
   have hn:=am (dX hl hu.o);have Hx:=dX hl hN.o;clear r0 r1 r2;obtain⟨r0,r1,r2,_⟩:=aU Hx;clear Hx;go_wp2_with fail;obtain⟨W3,hP⟩: ∃W3,W3=w2.alloc (.cells #[.string ⟨#[]⟩, .int .i64 2, .int .i64 0, .int .i64 0, .int .i64 0, .string ⟨#[]⟩, .slice none 0 0, .string root.name, .int .i64 root.gen, .int .i64 root.size] 28):=⟨_,rfl⟩;rw[<-hP];have h1:=am (show LkI w2 w2.heap.size W3 (mY root)from⟨by rw[hP]; exact eK,⟨none,0,by rw[hP]; exact dZ w2 _,cP.nil⟩,Ew HR.o⟩)
   obtain⟨ib,Hg⟩: ∃ib,ib=w2.heap.size:=⟨_,rfl⟩;rw[<-Hg]at h1 ⊢;have hs:=am Hg;have h9:=am (cC.below HG.o (by omega) hl);have Hd:=am (ar Hn.o hl);clear hP r0 r1 r2 hl Hg
   go_loopw [33] (fun i wr=> ∃(k:Nat) (it:cg),k<=np/\i= .int .i64 (k:Int)/\pd cs (ps.drop k) it=kS cs root path/\LkI w2 ib wr it) (fun i _=>np-(intOf i).toNat)
   case atStart=>exact⟨0,mY root,aW _,rfl,by rw[HM.o,<-HF.o]; rfl,h1.o⟩
   case round=>
    obtain⟨k,it,hk,rfl,Ht,Hh⟩:=hrel;have h2:=am Ht;have ho:=am Hh;obtain⟨ca,cc,Hr,Hw⟩:=Hh.box;have he:=am Hr;have HH:=am Hw;clear Ht Hh Hr Hw h1;have hO:=am ((ho.o.below.block (w.heap.size+1) (by rw[hs.o]; exact aw hn.o)).trans hn.o);have Ho:=am (hM.o.trans (ho.o.below.mono (by rw[hs.o]; exact hM.o.size)));have HS:w.heap.size+1≠ib:=by have:=aw hn.o; have:=hs.o; omega
    by_cases Hu:k<np
    ·obtain⟨c,hc⟩: ∃c,ps[k]? =some c:=⟨ps[k]'(by rw[<-h7.o]; exact Hu),by simp⟩;obtain⟨pb,po,rfl,HT,hH⟩:=MU h9.o (by have:=ho.o.below; rw[hs.o]at this; exact this) hc;have Hl:=am (show ps.drop k=c::ps.drop (k+1) by
      rw[cz (by rw[<-h7.o]; exact Hu)]
      congr 1
      exact(aG.1 hc).2)
     obtain⟨W4,hQ⟩: ∃W4,W4=wr.alloc (.cells #[.string c] 9):=⟨_,rfl⟩;have hy:Below wr.heap.size wr W4:=by rw[hQ]; exact eK
     have Hk:=am (show W4.cell? ⟨wr.heap.size,0,none⟩=some (.string c) by rw[hQ]; exact(az (dZ wr _)).trans rfl);have hY:=am (ho.o.next hy);have ha:=am (dX hy he.o);have hE:=am (dX hy hO.o);have hU:=am (ar Ho.o hy);have Hm:=am (HI.o.keepL (Hd.o.trans ((ho.o.below.mono (by rw[hs.o]; exact Hd.o.size)).trans (hy.mono (ay Hd.o.size (by have:=ho.o.below.size; exact this))))) (ak _))
     clear hc hy
     go_upto_region 8 with(fail)
     rw[<-hQ];clear hQ hH;have i0:=az (k:=0) ha.o;have i1:=az (k:=1) ha.o;have i2:=az (k:=2) ha.o;have i3:=az (k:=3) ha.o;have i4:=az (k:=4) ha.o;have i5:=az (k:=5) ha.o;have i6:=az (k:=6) ha.o;have i7:=az (k:=7) ha.o;have i8:=az (k:=8) ha.o;have i9:=az (k:=9) ha.o;simp only[eW,ai,aj,ah]at i0 i1 i2 i3 i4 i5 i6 i7 i8 i9
     by_cases hq:it.kind=2
     ·have e1:(it.kind != 2)=false:=by simp[hq]
      have hC:=am (show(match gh cs it.node with | .error x=> .error x | .ok l=>match l.find? (fun y=>decide (y.name=c))with | none=> .error 4 | some y=>pd cs (ps.drop (k+1)) y)=kS cs root path by have:=h2.o; rw[Hl.o,pd,if_pos hq]at this; exact this);have hw:=tr _ cv cs it.node W4 Hm.o.cont ho.o.ok.nd Hm.o.env;unfold AE at hw;clear hq
      cases hh:gh cs it.node with
      | error x=>
       rw[hh]at hw;have h4:=am hw;have HD:=am (show kS cs root path= .error x by have:=hC.o; rw[hh]at this; exact this.symm);clear hh hw;go_wp2_with fail;refine h4.o.mono ?_;rintro e w5 ⟨hm,rfl,hx⟩;have hV:=am (ar hU.o hm);have hF:=am (dX hm hE.o);have e2:(x != 0)=true:=by simp[hx]
       have HX:=am hx;clear hx hm i0 i1 i2 i3 i4 i5 i6 i7 i8 i9;obtain⟨z0,z1,z2,z3,z4,z5,z6,z7,z8,z9,_⟩:=aU hF.o;obtain⟨g0,g1,g2,g3,g4,g5,g6,g7,g8,g9,_⟩:=gG hF.o;go_wp2_with fail;refine pf hF.o rfl rfl rfl ⟨ji hV.o (by show w.heap.size<=w.heap.size+1; omega), ?_⟩;rw[HD.o];exact⟨rfl,HX.o⟩
      | ok l=>
       rw[hh]at hw;have h4:=am hw;have hD:=am (show(match l.find? (fun y=>decide (y.name=c))with | none=> .error 4 | some y=>pd cs (ps.drop (k+1)) y)=kS cs root path by have:=hC.o; rw[hh]at this; exact this);have HB:=am (xh hh);clear hh hw;go_wp2_with fail;refine h4.o.mono ?_;rintro e w5 ⟨hm,v5,rfl,Hj⟩;have hV:=am (ar hU.o hm)
       have hF:=am (dX hm hE.o);have hZ:=am (hY.o.next hm);have hX:=am (dX hm ha.o);have Hz:=am ((hm.cell (p:=⟨wr.heap.size,0,none⟩) (cF Hk.o)).trans Hk.o);obtain⟨a5,cap5,rfl,HK,HL,-⟩:=cP.shape Hj kO.len;unfold maxLen at HL;have Hb:=am Hj;have Hq:=am (show ib<W4.heap.size from aw ha.o);obtain⟨nl,hR⟩: ∃nl,nl=l.length:=⟨_,rfl⟩
       rw[<-hR]at Hb HK ⊢;have HE:=am hR;have HQ:nl<=4096:=by rw[hR]; exact HB.o.1
       clear hm Hj hR i0 i1 i2 i3 i4 i5 i6 i7 i8 i9;go_wp2_with fail;refine(yo _ l c wr.heap.size (.slice a5 nl cap5) w5 Hb.o Hz.o).mono ?_;rintro e w6 ⟨rfl,hz⟩;have Hy:=am (ar hV.o hz);have Hf:=am (dX hz hF.o);have h0:=am (hZ.o.next hz);have hb:=am (dX hz hX.o);have hW:=am hz;clear hz
       rcases zr c l 0 with⟨hf,hI⟩ | ⟨j,y,hj,hf,hI⟩
       ·have h3:=am (show kS cs root path= .error 4 by have:=hD.o; rw[hf]at this; exact this.symm);rw[hI];clear hf hI;obtain⟨z0,z1,z2,z3,z4,z5,z6,z7,z8,z9,_⟩:=aU Hf.o;obtain⟨g0,g1,g2,g3,g4,g5,g6,g7,g8,g9,_⟩:=gG Hf.o;go_wp2_with fail;refine pf Hf.o rfl rfl rfl ⟨ji Hy.o (by show w.heap.size<=w.heap.size+1; omega), ?_⟩;rw[h3.o]
        exact⟨rfl,by decide⟩
       ·have h3:=am (show pd cs (ps.drop (k+1)) y=kS cs root path by have:=hD.o; rw[hf]at this; exact this);rw[hI,bS];obtain⟨b7,o7,ca7,cc7,rfl,hJ,hL,HJ,-,hg⟩:=lB Hb.o hW.o hj;have HO:j<nl:=by rw[HE.o]; exact(aG.1 hj).1
        have h8:=am hJ;have Ha:=am hL;have q0:=hg 0 (by omega);have q1:=hg 1 (by omega);have q2:=hg 2 (by omega);have q3:=hg 3 (by omega);have q4:=hg 4 (by omega);have q5:=hg 5 (by omega);have q6:=hg 6 (by omega);have q7:=hg 7 (by omega);have q8:=hg 8 (by omega);have q9:=hg 9 (by omega);simp only[eW,ah,aj,cT]at q0 q1 q2 q3 q4 q5 q6 q7 q8 q9
        have i0:=az (k:=0) hb.o;have i1:=az (k:=1) hb.o;have i2:=az (k:=2) hb.o;have i3:=az (k:=3) hb.o;have i4:=az (k:=4) hb.o;have i5:=az (k:=5) hb.o;have i6:=az (k:=6) hb.o;have i7:=az (k:=7) hb.o;have i8:=az (k:=8) hb.o;have i9:=az (k:=9) hb.o;simp only[eW,ai,aj,ah]at i0 i1 i2 i3 i4 i5 i6 i7 i8 i9
        obtain⟨g0,g1,g2,g3,g4,g5,g6,g7,g8,g9,_⟩:=gG hb.o;clear hf hI hj hJ hL hg;go_wp2_with fail
        go_roundw
        case rel=>
         refine⟨k+1,y,by omega,by go_num,h3.o,⟨ji h0.o.below (ak _),⟨ca7,cc7,Ig hb.o,dy.same Ha.o (fun i hi hS=>⟨aP Hq.o hS,pE (by have:=Hq.o; omega)⟩)⟩,h8.o⟩⟩
        case measure=>simp[intOf]; omega
     ·have e1:(it.kind != 2)=true:=by simp[hq]
      have HC:=am (show kS cs root path= .error 4 by have:=h2.o; rw[Hl.o,pd,if_neg hq]at this; exact this.symm);clear hq;obtain⟨z0,z1,z2,z3,z4,z5,z6,z7,z8,z9,_⟩:=aU hE.o;obtain⟨g0,g1,g2,g3,g4,g5,g6,g7,g8,g9,_⟩:=gG hE.o;go_wp2_with fail;refine pf hE.o rfl rfl rfl ⟨ji hU.o (by show w.heap.size<=w.heap.size+1; omega), ?_⟩;rw[HC.o]
      exact⟨rfl,by decide⟩
    ·have hq:k=np:=by omega
     subst hq;have Hs:kS cs root path= .ok it:=by have:=h2.o; rw[h7.o,iT]at this; rw[<-this]; rfl
     have HA:=am Hs;obtain⟨z0,z1,z2,z3,z4,z5,z6,z7,z8,z9,_⟩:=aU hO.o;obtain⟨g0,g1,g2,g3,g4,g5,g6,g7,g8,g9,_⟩:=gG hO.o;have i0:=az (k:=0) he.o;have i1:=az (k:=1) he.o;have i2:=az (k:=2) he.o;have i3:=az (k:=3) he.o;have i4:=az (k:=4) he.o;have i5:=az (k:=5) he.o;have i6:=az (k:=6) he.o;have i7:=az (k:=7) he.o
     have i8:=az (k:=8) he.o;have i9:=az (k:=9) he.o;simp only[eW,ai,aj,ah]at i0 i1 i2 i3 i4 i5 i6 i7 i8 i9;clear Hs;go_wp2_with fail;refine pf hO.o rfl rfl rfl ⟨ji Ho.o (by show w.heap.size<=w.heap.size+1; omega), ?_⟩;rw[HA.o];refine⟨_,rfl,dy.same HH.o (fun k hk hS=>⟨by have:=aw hn.o; have:=hs.o; omega,pE (by have:=aw hn.o; have:=hs.o; omega)⟩),ho.o.ok⟩
theorem LC (s:ByteArray) (w:World) (hs:s.size<=16777216):Calls Tryz.prog 87 #[.string s] w fun e w'=> ∃a cap,e= .returned (.slice a (jE (bl s)).length cap)/\(jE (bl s)).length<=cap/\cap<=maxLen/\lz (w.heap.size<= ·) w' (.slice a (jE (bl s)).length cap) (jE (bl s))/\Below w.heap.size w w':=by
 refine(ng s w hs).mono ?_;rintro e w' ⟨v,xs,rfl,hx,hv,hb⟩;have:xs=jE (bl s):=rQ (hx.trans (zV _).symm);subst this;obtain⟨a,cap,rfl,h1,h2,_⟩:=hv.shape;exact⟨a,cap,rfl,h1,h2,hv,hb⟩
end Go.Proofs.YtpffpjbkbaleiaaGreatDoor
namespace Go.Proofs.YtpffpjbkbaleiaaGreatDoor
open Go.RowKit
def Ed (d p:List UInt8):Prop:=d=[]\/ ∃r,p=d++47::r
theorem Ed.trans {d p q:List UInt8} (h:Ed d p) (h2:Ed p q) (hp:p≠[]):Ed d q:=by
 rcases h with h | ⟨r,rfl⟩
 ·exact .inl h
 ·rcases h2 with h2 | ⟨s,rfl⟩
  ·exact absurd h2 hp
  ·exact .inr ⟨r++47::s,by simp⟩
theorem vV (p:List UInt8):Ed (cr p) p:=by
 by_cases h:cr p=[]
 ·exact .inl h
 ·exact .inr (qC h)
theorem Lm {d p:List UInt8} (h:Ed d p) (hd:d≠[]):cr p=d\/Ed d (cr p):=by
 rcases h with h | ⟨r,h⟩
 ·exact absurd h hd
 ·rcases sL h with h1 | h1
  ·exact .inl h1
  ·exact .inr (.inr h1)
def dF (tree:List dl) (d:ByteArray):List dl:=tree.filter fun e=>decide (cr (bl e.path)=bl d)
theorem fm {tree:List dl} {d:ByteArray} {e:dl} :e∈dF tree d<->e∈tree/\cr (bl e.path)=bl d:=by
 unfold dF; rw[fg,aL]
def pP (tree:List dl):Nat->ByteArray->List dl
 | 0,_=>[]
 | f+1,d=>(dF tree d).flatMap fun e=>e::(if e.kind=2 then pP tree f e.path else [])
section
variable {tree : List dl} (h : BA tree)
include h
theorem rg {e:dl} (he:e∈tree):bl e.path≠[]:=xU (dm (h.val e he))
theorem Mb (d:ByteArray): ∀(n:Nat) {e:dl},(bl e.path).length<=n->e∈tree->Ed (bl d) (bl e.path)-> ∃c∈dF tree d,c=e\/(c.kind=2/\Ed (bl c.path) (bl e.path))
 | 0,e,hn,he,_=>absurd (List.length_eq_zero_iff.1 (Nat.le_zero.1 hn)) (rg h he)
 | n+1,e,hn,he,hb=>by
  by_cases hp:cr (bl e.path)=bl d
  ·exact⟨e,fm.2 ⟨he,hp⟩, .inl rfl⟩
  ·have hne:cr (bl e.path)≠[]:=by
    intro h0
    by_cases hd:bl d=[]
    ·exact hp (by rw[h0,hd])
    ·rcases Lm hb hd with h1 | h1
     ·exact hp h1
     ·rw[h0]at h1
      rcases h1 with h1 | ⟨r,h1⟩
      ·exact hd h1
      ·simp at h1
   obtain⟨g,hg,ha,hj⟩:=ub (h.up e he) hne;have hh:Ed (bl d) (bl g.path):=by
    rw[ha]
    by_cases hd:bl d=[]
    ·exact .inl hd
    ·exact(Lm hb hd).resolve_left hp
   have hk:=fz (dm (h.val e he));have hf:Ed (bl g.path) (bl e.path):=by rw[ha]; exact vV _
   obtain⟨c,hc,h1⟩:=Mb d n (e:=g) (by rw[ha]; omega) hg hh;refine⟨c,hc, .inr ?_⟩
   rcases h1 with rfl | ⟨h1,h2⟩
   ·exact⟨hj,hf⟩
   ·exact⟨h1,h2.trans hf (rg h hg)⟩
theorem Ll {e x:dl} (he:e∈tree) (hb:Ed (bl e.path) (bl x.path)):nF e x<0:=by
 rcases hb with hb | ⟨r,hb⟩
 ·exact absurd hb (rg h he)
 ·have h1:nF e x<=0:=by unfold nF; rw[hb]; exact AM _ _
  rcases Int.lt_or_eq_of_le h1 with h2 | h2
  ·exact h2
  ·have h3:=oW.1 h2;rw[h3]at hb;have:=congrArg List.length hb;simp at this
theorem CN {d:ByteArray} {e g x:dl} (he:e∈dF tree d) (hg:g∈dF tree d) (hlt:nF e g<0) (hb:Ed (bl e.path) (bl x.path)):nF x g<0:=by
 obtain⟨ha,hc⟩:=fm.1 he;obtain⟨hf,hd⟩:=fm.1 hg
 rcases hb with hb | ⟨r,hb⟩
 ·exact absurd hb (rg h ha)
 ·rcases PH (bl x.path) (bl g.path)with h1 | h1 | h1
  ·show fd _ _<0; omega
  all_goals
   exfalso
   have h2:fd (bl g.path) (bl e.path++47::r)<=0:=by
    rw[<-hb,AN]; omega
   rcases uO _ _ _ (show fd (bl e.path) (bl g.path)<=0 from Int.le_of_lt hlt) h2 with h3 | ⟨s,h3⟩
   ·have h4:=oW.2 (kL h3);have h5:=wl e g;omega
   ·have h6:(cr (bl e.path)).length<(bl e.path).length:=fz (dm (h.val e ha))
    rcases sL h3 with h4 | ⟨s',h4⟩
    ·rw[hd,<-hc]at h4;have:=congrArg List.length h4;omega
    ·rw[hd,<-hc]at h4;have:=congrArg List.length h4;simp at this;omega
theorem vI : ∀(f:Nat) (d:ByteArray),512<f+(bl d).length-> ∀e,e∈pP tree f d<->e∈tree/\Ed (bl d) (bl e.path)
 | 0,d,hf,e=>by
  constructor
  ·intro he; simp[pP]at he
  ·rintro⟨he,hb⟩
   exfalso
   have h1:=mp (dm (h.val e he))
   rcases hb with hb | ⟨r,hb⟩
   ·rw[hb]at hf; simp at hf
   ·rw[hb]at h1;simp at h1;omega
 | f+1,d,hf,e=>by
  unfold pP;rw[dz]
  constructor
  ·rintro⟨c,hc,he⟩;obtain⟨hc1,hc2⟩:=fm.1 hc;have hcb:Ed (bl d) (bl c.path):=by rw[<-hc2]; exact vV _
   rcases aZ.1 he with rfl | he
   ·exact⟨hc1,hcb⟩
   ·split at he
    ·have ha:=fz (dm (h.val c hc1));rw[hc2]at ha;obtain⟨h1,h2⟩:=(vI f c.path (by omega) e).1 he;exact⟨h1,hcb.trans h2 (rg h hc1)⟩
    ·cases he
  ·rintro⟨he,hb⟩;obtain⟨c,hc,h1⟩:=Mb h d _ (ak _) he hb;refine⟨c,hc, ?_⟩
   rcases h1 with rfl | ⟨h1,h2⟩
   ·exact List.mem_cons_self
   ·obtain⟨hc1,hc2⟩:=fm.1 hc;have ha:=fz (dm (h.val c hc1));rw[hc2]at ha;rw[if_pos h1];exact fM _ ((vI f c.path (by omega) e).2 ⟨he,h2⟩)
theorem xt : ∀(f:Nat) (d:ByteArray),512<f+(bl d).length->iY (pP tree f d)
 | 0,_,_=>fa
 | f+1,d,hf=>by
  unfold pP iY;have hin: ∀c∈dF tree d,512<f+(bl c.path).length:=fun c hc=>by
   obtain⟨hc1,hc2⟩:=fm.1 hc;have hlt:=fz (dm (h.val c hc1));rw[hc2]at hlt;omega
  have hbl: ∀c∈dF tree d,∀x∈(if c.kind=2 then pP tree f c.path else []),Ed (bl c.path) (bl x.path):=fun c hc x hx=>by
   split at hx
   ·exact((vI h f c.path (hin c hc) x).1 hx).2
   ·cases hx
  rw[List.pairwise_flatMap]
  constructor
  ·intro c hc;rw[fB];refine⟨fun x hx=>Ll h (fm.1 hc).1 (hbl c hc x hx), ?_⟩
   split
   ·exact xt f c.path (hin c hc)
   ·exact fa
  ·have hk:iY (dF tree d):=h.ord.filter _;refine List.Pairwise.imp_of_mem (R:=fun a b=>nF a b<0) ?_ hk;intro a b ha hb hab x hx y hy;have h1:nF x b<0:=by
    rcases aZ.1 hx with rfl | hx
    ·exact hab
    ·exact CN h ha hb hab (hbl a ha x hx)
   rcases aZ.1 hy with rfl | hy
   ·exact h1
   ·exact rI h1 (Ll h (fm.1 hb).1 (hbl b hb y hy))
theorem tH {L:List dl} (hs:iY L):L.Nodup:=by
 have _h:=h;exact List.Pairwise.imp (fun {a b} hab=>by
  intro e; subst e;have h1:=oW (a:=a) (b:=a);have:=h1.2 rfl
  omega) hs
theorem Bk {f:Nat} (hf:512<f):pP tree f ⟨#[]⟩=tree:=by
 have h0:bl (⟨#[]⟩:ByteArray)=[]:=rfl;have hs:=xt h f ⟨#[]⟩ (by omega);refine qL hs h.ord ?_;rw[List.perm_ext_iff_of_nodup (tH h hs) (tH h h.ord)];intro e;rw[vI h f ⟨#[]⟩ (by omega) e];exact⟨fun h1=>h1.1,fun h1=>⟨h1, .inl h0⟩⟩
end
def uW (dir path:List UInt8):List UInt8:=if(path.drop dir.length).head? =some 47 then(path.drop dir.length).tail else path.drop dir.length
theorem Cb : ∀ {a b:List UInt8},47∉a->47∉b->fd a b<0->Op.bytesLess a b=true
 | [],[],_,_,h=>by simp[fd]at h
 | [],_::_,_,_,_=>rfl
 | _::_,[],_,_,h=>by simp[fd]at h
 | x::a,y::b,ha,hb,h=>by
  unfold fd at h;unfold Op.bytesLess;simp only[aZ,not_or]at ha hb
  by_cases hxy:x=y
  ·rw[if_pos hxy]at h;rw[Cb ha.2 hb.2 h,hxy];simp
  ·rw[if_neg hxy]at h;unfold il at h;rw[if_neg (fun e=>ha.1 e.symm),if_neg (fun e=>hb.1 e.symm)]at h;have h1:x<y:=by
    rw[UInt8.lt_iff_toNat_lt];unfold Lib.compareInt at h
    split at h
    ·omega
    ·split at h<;> omega
   simp[h1]
theorem Cc : ∀(d a b:List UInt8),fd (d++a) (d++b)=fd a b
 | [],_,_=>rfl
 | x::d,a,b=>by
  rw[aK,aK,fd,if_pos rfl,Cc d a b]
theorem NR {t:List UInt8} (h:iI t=true):dD t=true:=by
 have ha:47∉t:=(Cf h).2.2.2;unfold dD;rw[gI 47 t ha];have hl:t.length<=64:=by
  unfold iI at h;simp only[aI,aL]at h;exact h.1.1.1.1.2
 simp[h];omega
structure qT (d p t : List UInt8) : Prop where
 comp:iI t=true
 path:p=if d=[]then t else d++47::t
 last:uW d p=t
theorem tg {d p:List UInt8} (hv:dD p=true) (hp:cr p=d):qT d p (uW d p):=by
 by_cases hm:(47:UInt8)∈p
 ·obtain⟨q,t,rfl,ht⟩:=nL p hm;rw[lp q t ht]at hp;subst hp;have hl:uW q (q++47::t)=t:=by unfold uW; simp
  have hc:iI t=true:=qO hv t (by rw[pW,gI 47 t ht]; simp);have hq:q≠[]:=by
   intro h0;subst h0;have:=qO hv [] (by rw[pW]; simp[de]);exact absurd this (by decide)
  exact⟨by rw[hl]; exact hc,by rw[hl,if_neg hq],rfl⟩
 ·rw[nP p hm]at hp;subst hp;have ha:=xU hv;have hc:iI p=true:=qO hv p (by rw[gI 47 p hm]; simp);have hl:uW [] p=p:=by
   unfold uW
   cases p with
   | nil=>exact absurd rfl ha
   | cons x p=>
    simp only[bo,bQ,List.head?_cons,List.tail_cons];rw[if_neg];intro h;rw[aV]at h;subst h;exact hm (List.mem_cons_self)
  exact⟨by rw[hl]; exact hc,by rw[hl,if_pos rfl],rfl⟩
theorem qT.no {d p t:List UInt8} (h:qT d p t):47∉t:=(Cf h.comp).2.2.2
theorem LY {d p q s t:List UInt8} (h:qT d p s) (h2:qT d q t) (hlt:fd p q<0):Op.bytesLess s t=true:=by
 refine Cb h.no h2.no ?_;rw[h.path,h2.path]at hlt
 split at hlt
 ·exact hlt
 ·rw[Cc]at hlt;unfold fd at hlt;rw[if_pos rfl]at hlt;exact hlt
end Go.Proofs.YtpffpjbkbaleiaaGreatDoor
