/- Texts of this proof, one after the other: RefB, PresA, PresB, MissM, MissL, Refs24, AwP, BldF, BldG, AwQ, R3D, R5, R11, LookB, Luk24, PreP, LastP. -/
import Derived.Test.YtpffpjbkbaleiaaGreatDoorCReturnsF
set_option maxRecDepth 100000
set_option maxHeartbeats 8000000
namespace Go.Proofs.YtpffpjbkbaleiaaGreatDoor
open Go.RowKit
theorem xI {xs:List ByteArray} {k:Nat} {x:ByteArray} (hx:xs[k]? =some x):jI ((xs.take (k+1)).map bl)=if k=0 then bl x else jI ((xs.take k).map bl)++[47]++bl x:=by
 have hk:=(aN.1 hx).1;have e:(xs.take (k+1)).map bl=(xs.take k).map bl++[bl x]:=by rw[bZ,hx]; simp
 rw[e,DU]
 by_cases h:k=0
 ·subst h; simp
 ·have h2:(xs.take k).map bl≠[]:=by
   intro e; have:=congrArg List.length e; simp only[aE,bm,bo]at this; omega
  rw[if_neg h,if_neg h2]
theorem xN (xs:List ByteArray) (m:Nat) (h: ∀x∈xs,x.size<=m) (k:Nat):(jI ((xs.take k).map bl)).length<=xs.length*(m+1):=by
 have h1:=FM ((xs.take k).map bl) m (fun p hp=>by
  obtain⟨y,hy,rfl⟩:=aW.1 hp;have:=h y (List.mem_of_mem_take hy);rw[<-bi]; exact this)
 have h2:((xs.take k).map bl).length<=xs.length:=by simp; omega
 exact aB h1 (dl _ h2)
theorem Du (xs:List ByteArray) (S:Nat->Prop) (v:Value) (w:World) (hv:lF S w v xs) (hn:xs.length<=65536) (hsz: ∀x∈xs,x.size<=65536):
  Calls Tryz.prog 132 #[v] w fun e w'=>e= .returned (.string ⟨(jI (xs.map bl)).toArray⟩)/\w=w':=by
 obtain⟨a,cap,rfl,hc,hb,ha⟩:=hv.shape;have HC:=an ha;have HS:=an hsz;clear hv ha hsz;unfold maxLen at hb
 go_enter Tryz.func132,Tryz.ntmps132
 go_wp2_with fail
 go_loop [3,8] (fun o i=> ∃(k:Nat) (t:ByteArray),k<=xs.length/\i= .int .i64 k/\o= .string t/\bl t=jI ((xs.take k).map bl)) (fun _ i=>xs.length-(intOf i).toNat)
 case atStart=>exact⟨0,⟨#[]⟩,aX _,rfl,rfl,by simp[bl,jI,Lib.join_nil]⟩
 case round=>
  obtain⟨k,t,hk,rfl,rfl,ht⟩:=hrel;have hh:t.size<=4295032832:=by
   rw[bi,ht];have:=xN xs 65536 HS.o k;have h2:xs.length*(65536+1)<=65536*(65536+1):=dl _ hn;omega
  have HT:=an ht;clear ht
  by_cases hd:k<xs.length
  ·obtain⟨x,hx⟩: ∃x,xs[k]? =some x:=⟨xs[k],by simp[hd]⟩;obtain⟨b,o,rfl,_,hf⟩:=HC.o k x hx;have hj:=HS.o x (aS hx);have HX:=an hx;clear hx
   by_cases h0:k=0
   ·have e0:decide ((0:Int)<(k:Int))=false:=by simp[h0]
    have hg: ¬(0:Int)<(k:Int):=by omega
    have H0:=an h0;clear h0;go_wp2_with fail
    go_round
    case rel=>
     refine⟨k+1,t++x,by omega,by go_num,rfl, ?_⟩;rw[xI HX.o,if_pos H0.o,nz,HT.o,H0.o]; simp[jI,Lib.join_nil]
    case measure=>simp[intOf]; omega
   ·have h1:(0:Int)<(k:Int):=by omega
    have he:0<k:=by omega
    have H0:=an h0;clear h0;go_wp2_with fail
    go_round
    case rel=>
     refine⟨k+1,(t++⟨#[47]⟩)++x,by omega,by go_num,rfl, ?_⟩;rw[xI HX.o,if_neg H0.o,nz,nz,HT.o]; rfl
    case measure=>simp[intOf]; omega
  ·go_wp2_with fail;go_ret;refine⟨?_,rfl⟩;have:jI (xs.map bl)=bl t:=by rw[HT.o,bC (by omega)]
   rw[this,te]; rfl
theorem Gt {xs:List ByteArray} {s:ByteArray} (hx:xs.map bl=dd 47 (bl s)):((xs.length:Int) == 1)= !(bl s).contains 47:=by
 rw[<-Cc,<-hx,aE,dk,jU,jU]; omega
theorem qh (s:ByteArray) (w:World) (hs:s.size<=16777216):
  Calls Tryz.prog 102 #[.string s] w fun e w'=>e= .returned (.bool (iK (bl s)))/\Below w.heap.size w w':=by
 go_enter Tryz.func102,Tryz.ntmps102
 go_wp2_with (first
  | (go_at_call 138; refine(Dt s _ hs).mono ?_; rintro e w1 ⟨rfl,hb⟩)
  | (go_at_call 87; refine(nx s _ hs).mono ?_; rintro e w2 ⟨v2,xs2,rfl,hd,hc,he⟩; obtain⟨a2,c2,rfl,-,-,-⟩:=hc.shape; have ha:=an hd; clear hd hc))
 all_goals (go_ret; refine⟨bY ?_,by first | exact ay _ _ | exact aw hb he | exact hb⟩)
 all_goals (rw[dk]; simp only[eB]at *)
 all_goals (first | (have hq:=Gt ha.o; simp_all [iK,bi]; done) | (simp_all [iK,bi]; done) | (simp_all [iK,bi]; omega) | (have hq:=Gt ha.o; simp_all [iK,bi]; intro _; omega))
theorem Dv (s:ByteArray) (w:World) (hs:s.size<=16777216):
  Calls Tryz.prog 86 #[.string s] w fun e w'=>e= .returned (.bool (dB (bl s)))/\Below w.heap.size w w':=by
 go_enter Tryz.func86,Tryz.ntmps86
 go_wp2_with fail;refine(nx s w hs).mono ?_;rintro e w1 ⟨v,xs,rfl,hx,hv,ho⟩;obtain⟨a,cap,rfl,hc,hr,hd⟩:=hv.shape;have hw:xs.length<=16777217:=by
  have h1:(dd 47 (bl s)).length=xs.length:=by rw[<-hx]; simp
  have h2:=oR 47 (bl s);rw[<-bi]at h2;omega
 have HX:=an hx;have HC:=an hd;have hn:=an ho;clear hx hd ho hv;unfold maxLen at hr;go_wp2_with fail
 go_loopw [10] (fun i wr=> ∃k:Nat,k<=xs.length/\i= .int .i64 k/\Below w1.heap.size w1 wr/\ ∀(j:Nat) x,j<k->xs[j]? =some x->iK (bl x)=true) (fun i _=>xs.length-(intOf i).toNat)
 case atStart=>exact⟨0,aX _,rfl,ay _ _,fun j x hj=>by omega⟩
 case round=>
  obtain⟨k,hk,rfl,hb,hf⟩:=hrel;have HA:=an hf;have HB:=an hb;clear hf hb
  by_cases hu:k<xs.length
  ·obtain⟨x,hx⟩: ∃x,xs[k]? =some x:=⟨xs[k],by simp[hu]⟩;obtain⟨b,o,rfl,_,hh⟩:=HC.o k x hx;have hd:wr.cell? ⟨b,o+k,none⟩=some (.string x):=(HB.o.cell (p:=⟨b,o+k,none⟩) (bS hh)).trans hh;have HK:=an hx;have hq:x.size<=16777216:=by have:=zS HX.o hx; omega
   clear hx hh
   cases hc:iK (bl x)
   ·have he:=an hc;clear hc;go_wp2_with (go_at_call 102; refine(qh x wr hq).mono ?_; rintro e w' ⟨rfl,hg⟩; rw[he.o]);go_ret;exact⟨bY (Ak HX.o HK.o he.o).symm,aw (aw hn.o HB.o) hg⟩
   ·have he:=an hc;clear hc;go_wp2_with (go_at_call 102; refine(qh x wr hq).mono ?_; rintro e w' ⟨rfl,hg⟩; rw[he.o])
    go_roundw
    case rel=>
     refine⟨k+1,by omega,by go_num,aw HB.o hg,fun j x' hj hp=> ?_⟩
     rcases dI j k with h | h
     ·exact HA.o j x' h hp
     ·obtain rfl:j=k:=by omega
      have:=HK.o.symm.trans hp
      cases this
      exact he.o
    case measure=>simp[intOf]; omega
  ·go_wp2_with fail
   all_goals (go_ret; refine⟨bY ?_,aw hn.o HB.o⟩)
   all_goals (
    have ha:(dd 47 (bl s)).all iK=true:=by
     rw[<-HX.o,List.all_map,cz];intro x hm;obtain⟨j,hj,rfl⟩:=dT hm;exact HA.o j _ (by omega) (by simp)
    have hl:(dd 47 (bl s)).length=xs.length:=by rw[<-HX.o]; simp
    rw[dB,ha,hl,Bool.and_true,<-bi,dk]
    simp_all<;> omega)
theorem FR (visit:cX->Except Int (List cr)) (cv:Value) (I:World->Prop) (B n:Nat) (hI:FY I B) (hV:KM visit 95 cv I) (IH:KN visit 95 cv I B n):KN visit 95 cv I B (n+1):=by
 intro r st x st' base wb eb sb v w hw Hj h hr hi hB hq;have HI:=an hI;have HV:=an hV;have HH:=an IH;have HB:=an hB;have HR:=an hr;have H:=an h;have Hq:=an hi;have HK:=an Hj;have He:=an hw;have HW:(dX r st.2).length<=st'.2.length:=by
  rw[kP]at hw
  split at hw
  ·simp only[br,cW]at hw;obtain⟨_,rfl⟩:=hw;exact au _
  ·split at hw
   ·simp only[br,cW]at hw;obtain⟨_,rfl⟩:=hw;exact au _
   ·exact nW (py visit n) _ _ x st' hw
 have ya:=qB r st.2;have Ho:=an ((ay w.heap.size w).alloc (au _) (.cells #[.string r.name, .int .i64 r.gen, .int .i64 r.size] 26));have Hr:=an (h.below Ho.o);have hC:=an (aH w (.cells #[.string r.name, .int .i64 r.gen, .int .i64 r.size] 26));have yc:wb<w.heap.size:=az h.box;unfold fa;clear hw h hr hi hI hV IH hB
 go_enter Tryz.func133,Tryz.ntmps133
 go_wp2_with fail;refine(uU base wb eb sb _ v st.1 st.2 r _ Hr.o HR.o (by omega) (by simp; omega)).mono ?_;rintro e w1 ⟨rfl,v1,Hz,hY,HA⟩;have Ha:=an Hz;have hu:=an (show w1.heap[w.heap.size]? =some (.cells #[.string r.name, .int .i64 r.gen, .int .i64 r.size] 26 (0,0))from(hY.block w.heap.size (by simp) (fun ho=>by
  rcases ho with e | e | e | e
  ·omega
  ·have:=H.o.exs.map.lt; omega
  ·have:=H.o.see.map.lt; omega
  ·have:=(H.o.row.lt _ e).2; omega)).trans hC.o)
 have HZ:=hY.size;simp at HZ;have Hp:=an (show gY (oW wb eb sb v) w w1 from(gY.of_below Ho.o (S:=oW wb eb sb v)).trans hY (fun _ _ h=>h));have Hc:=an (show ∀k,v1.ownBlock=some k->v.ownBlock=some k\/w.heap.size<=k from fun k hk=>by
  rcases HA k hk with e | e
  ·exact .inl e
  ·simp at e; exact .inr (by omega))
 clear Hz hY HA Hr hC;have c1:=bH (k:=1) Ha.o.box;obtain⟨q0,q1,q2,_⟩:=aT hu.o;simp only[ak,am,aj]at c1;go_wp2_with fail;refine bP [some 6] (by kernel_rfl) (by kernel_rfl) (by kernel_rfl) ?_;simp only[dQ,aV,aZ];obtain⟨W1,Hg⟩: ∃W1:World,W1=w1.drew:=⟨_,rfl⟩
 rw[<-Hg];have hf:Below w1.heap.size w1 W1:=by rw[Hg]; exact(ay _ _).drew
 have hl:=an (Ha.o.below hf);have hd:=an ((hf.block w.heap.size (by omega)).trans hu.o);have h7:=an (Hp.o.trans (gY.of_below hf (S:=fun _=>False)) (fun _ _ h=>False.elim h));have yl:=hf.size;clear hf Ha hu Hp c1 q0 q1 q2;have c1:=bH (k:=1) hl.o.box;have q0:=bH (k:=0) hd.o;have q1:=bH (k:=1) hd.o;have q2:=bH (k:=2) hd.o;have hZ:=hl.o.exs.look HR.o
 unfold fa at hZ;simp only[ak,am,aj]at c1 q0 q1 q2;clear Hg
 by_cases hm:r∈st.1
 ·have e1:decide (r∈st.1)=true:=by simp[hm]
  rw[e1]at hZ;have hb:=an (show(x,st')=(0,(st.1,dX r st.2)) by have:=He.o; rw[kP,if_pos hm]at this; exact(bK this).symm);clear e1 hm
  repeat (first | (refine cB rfl ?_; simp only[Act.put,ag,ai,ah]) | (refine cR rfl (fun K hK=> ?_); go_simp; refine hK _ ?_; clear hK K))
  refine cQ ?_;go_wp2_with fail;go_ret;obtain⟨e1,e2⟩:=kg hb.o;exact⟨dK e1.symm,v1,by rw[e2]; exact hl.o,h7.o,Hc.o⟩
 ·have e1:decide (r∈st.1)=false:=by simp[hm]
  rw[e1]at hZ;have HL:=an hm;have Hf:=an (show(match visit r with | .error x=>some (x,(st.1++[r],dX r st.2)) | .ok l=>mO (kP visit n) l (st.1++[r],dX r st.2))=some (x,st') by have:=He.o; rw[kP,if_neg hm]at this; exact this);clear e1 hm He
  repeat (first | (refine cB rfl ?_; simp only[Act.put,ag,ai,ah]) | (refine cR rfl (fun K hK=> ?_); go_simp; refine hK _ ?_; clear hK K))
  refine cQ ?_;go_wp2_with fail;refine bP [some 5,none] (by kernel_rfl) (by kernel_rfl) (by kernel_rfl) ?_;simp only[dQ,aV,aZ,bB,bT]
  repeat (first | (refine cB rfl ?_; simp only[Act.put,ag,ai,ah]) | (refine cR rfl (fun K hK=> ?_); go_simp; refine hK _ ?_; clear hK K))
  refine cQ ?_;refine ei rfl (fun K hK=> ?_);have Hs:=an (hl.o.below ((ay _ W1).drew));go_wp2_with (at_mapUpdate; go_must (refine mC rfl _ _ _ rfl eb st.1 Hs.o.exs rfl r HR.o rfl rfl HL.o ?_); intro w2 hR Hx);have H6:eb<w.heap.size:=H.o.exs.map.lt;have yb:sb<w.heap.size:=H.o.see.map.lt;have Hl:=H.o.wne;have hP:=H.o.ne;refine bP [some 5,none,some 5] (by kernel_rfl) (by kernel_rfl) (by kernel_rfl) ?_
  simp only[dQ,aV,aZ,bB,bT];obtain⟨W2,hW⟩: ∃W2:World,W2=w2.drew:=⟨_,rfl⟩;rw[<-hW];have hv:W1.grownBy W2 (some eb):=by rw[hW]; exact ci (b:=W1.drew) ⟨rfl,rfl,rfl,au _,fun _ _ _=>rfl⟩ (ci Hx ⟨rfl,rfl,rfl,au _,fun _ _ _=>rfl⟩)
  have hs:jO W2 eb (st.1++[r]):=by rw[hW]; exact hR.same rfl
  have hT:=an (show nj W2 base wb eb sb (.func (.func 95) #[cv] #[]) v1 (st.1++[r]) (dX r st.2)from⟨ng hv hl.o.box Hl.1,hs,hl.o.see.same (hv.block sb hl.o.see.map.lt (by simp; exact kK hP)),hl.o.row.kept hv (.inr (fun e=>(hl.o.own e).2.1 rfl)),hP⟩);have hD:=an (ng hv hd.o (by omega));have h8:=an (show gY (oW wb eb sb v) w W2 from h7.o.trans (gY.of_grown (S:=fun k=>k=eb) hv (fun k hk=>by cases hk; rfl)) (fun i _ h=> .inr (.inl h)))
  have yn:=hv.size;have HF:=an (HI.o w W2 Hq.o (wI h8.o (fun k hk=>Fe H.o HB.o hk)));clear hW hv hs hR Hx Hs hl hd h7 c1 q0 q1 q2 hZ;have c0:=bH (k:=0) hT.o.box;obtain⟨q0,q1,q2,_⟩:=aT hD.o;simp only[ak,aj]at c0
  repeat (first | (refine cB rfl ?_; simp only[Act.put,ag,ai,ah]) | (refine cR rfl (fun K hK=> ?_); go_simp; refine hK _ ?_; clear hK K))
  refine cQ ?_;refine ei rfl (fun K hK=> ?_);go_wp2_with fail;refine(HV.o W2 r HF.o HR.o).mono ?_;rintro e w3 ⟨hJ,ha⟩;have Hb:=an (hT.o.below hJ);have h9:=an (h8.o.trans (gY.of_below hJ (S:=fun _=>False)) (fun _ _ h=>False.elim h));have H5:=an hJ;have H0:=hJ.size;clear hJ c0 q0 q1 q2
  cases hA:visit r with
  | error y=>
   rw[hA]at ha;obtain⟨rfl,hy⟩:=ha;have hb:=an (show(x,st')=(y,(st.1++[r],dX r st.2)) by have:=Hf.o; rw[hA]at this; exact(bK this).symm);have e1:(y != 0)=true:=by simp[hy]
   clear hA hy;go_wp2_with fail
   repeat (first | (refine cB rfl ?_; simp only[Act.put,ag,ai,ah]) | (refine cR rfl (fun K hK=> ?_); go_simp; refine hK _ ?_; clear hK K))
   refine cQ ?_;go_wp2_with fail;go_ret;obtain⟨e1,e2⟩:=kg hb.o;exact⟨dK e1.symm,v1,by rw[e2]; exact Hb.o,h9.o,Hc.o⟩
  | ok l=>
   rw[hA]at ha;obtain⟨itv,rfl,hx⟩:=ha;have HN:=an (show mO (kP visit n) l (st.1++[r],dX r st.2)=some (x,st') by have:=Hf.o; rw[hA]at this; exact this);obtain⟨ia,ic,rfl,H7,HQ,-⟩:=cL.shape hx lr.len;unfold maxLen at HQ;have HJ:=an (show vO w B W2.heap.size w3.heap.size base wb eb sb (.func (.func 95) #[cv] #[]) v (.slice ia l.length ic) l w3 v1 (st.1++[r]) (dX r st.2)from
    ⟨Hb.o,h9.o,Hc.o,fun k hk=> .inl (hT.o.row.lt k hk).2,⟨by omega,by omega,by omega⟩,⟨by omega,H0,au _⟩,eD.lt hx⟩)
   clear hA hx Hf hT Hb h8 h9 hD;go_wp2_with fail
   repeat (first | (refine cB rfl ?_; simp only[Act.put,ag,ai,ah]) | (refine cR rfl (fun K hK=> ?_); go_simp; refine hK _ ?_; clear hK K))
   refine cQ ?_;go_wp2_with fail
   go_loopw [40] (fun i wr=> ∃(k:Nat) (v2:Value) (ex2 rs2:List cX),k<=l.length/\i= .int .i64 k/\mO (kP visit n) (l.drop k) (ex2,rs2)=some (x,st')/\vO w B W2.heap.size w3.heap.size base wb eb sb (.func (.func 95) #[cv] #[]) v (.slice ia l.length ic) l wr v2 ex2 rs2) (fun i _=>l.length-(intOf i).toNat)
   case atStart=>exact⟨0,v1,_,_,aX _,rfl,HN.o,HJ.o⟩
   case round=>
    obtain⟨k,v2,ex2,rs2,hk,rfl,HD,Hy⟩:=hrel;have Hv:=an HD;have hF:=an Hy;clear HD Hy
    by_cases HU:k<l.length
    ·obtain⟨it,Hm⟩: ∃it,l[k]? =some it:=⟨l[k],by simp[HU]⟩;obtain⟨b,o,ca,cc,rfl,HC,Hn,-,-,hg⟩:=mL hF.o.its (ay _ _) Hm;have hG:=an (show mO (kP visit n) (it::l.drop (k+1)) (ex2,rs2)=some (x,st') by
      obtain⟨HS,rfl⟩:=aN.1 Hm;rw[<-cI HS]; exact Hv.o)
     have H9:=Jv hG.o;have HM:=an HC;have q0:=hg 0 (by omega);have q1:=hg 1 (by omega);have q2:=hg 2 (by omega);have q3:=hg 3 (by omega);have q4:=hg 4 (by omega);have q5:=hg 5 (by omega);have q6:=hg 6 (by omega);have q7:=hg 7 (by omega);have q8:=hg 8 (by omega);have q9:=hg 9 (by omega);simp only[fh,aj,am,de]at q0 q1 q2 q3 q4 q5 q6 q7 q8 q9
     obtain⟨wo,HY⟩: ∃wo:World,wo=wr:=⟨_,rfl⟩;subst HY;have h0:=an ((ay wo.heap.size wo).alloc (au _) (.cells #[.string it.name, .int .i64 it.kind, .int .i64 it.mode, .int .i64 it.time, .int .i64 it.size, .string it.link, .slice ca it.chunks.length cc, .string it.node.name, .int .i64 it.node.gen, .int .i64 it.node.size] 28));have Ht:=an (hF.o.below h0.o)
     have Hu:=an (show dA (fun k=>W2.heap.size<=k/\k<w3.heap.size) _ (.slice ca it.chunks.length cc) it.chunks from cL.below Hn (by omega) h0.o (fun _ _ _ h=>h));obtain⟨a',cap',HX,HP,Hh,-⟩:=cL.shape Hn oJ.len
     cases HX
     unfold maxLen at Hh;clear Hm HC Hn hg;have hE:=an (aH wo (.cells #[.string it.name, .int .i64 it.kind, .int .i64 it.mode, .int .i64 it.time, .int .i64 it.size, .string it.link, .slice ca it.chunks.length cc, .string it.node.name, .int .i64 it.node.gen, .int .i64 it.node.size] 28));go_wp2_with fail;clear q0 q1 q2 q3 q4 q5 q6 q7 q8 q9
     go_loopw [47] (fun i wq=> ∃(j:Nat) (v3:Value),j<=it.chunks.length/\i= .int .i64 j/\vO w B W2.heap.size w3.heap.size base wb eb sb (.func (.func 95) #[cv] #[]) v (.slice (some ⟨b,o,none⟩) l.length ic) l wq v3 ex2 (iG (it.chunks.take j) rs2)/\dA (fun k=>W2.heap.size<=k/\k<w3.heap.size) wq (.slice ca it.chunks.length cc) it.chunks/\wq.heap[wo.heap.size]? =some (.cells #[.string it.name, .int .i64 it.kind, .int .i64 it.mode, .int .i64 it.time, .int .i64 it.size, .string it.link, .slice ca it.chunks.length cc, .string it.node.name, .int .i64 it.node.gen, .int .i64 it.node.size] 28 (0,0))) (fun i _=>it.chunks.length-(intOf i).toNat)
     case atStart=>exact⟨0,v2,aX _,rfl,Ht.o,Hu.o,hE.o⟩
     case round=>
      obtain⟨j,v3,hj,rfl,hN,hQ,hL⟩:=hrel;have hp:=an hN;have hH:=an hQ;have he:=an hL;clear hN hQ hL Ht Hu hE h0
      by_cases Hk:j<it.chunks.length
      ·obtain⟨c,hc⟩: ∃c,it.chunks[j]? =some c:=⟨it.chunks[j],by simp[Hk]⟩;obtain⟨b2,o2,rfl,hM,p0,p1,p2⟩:=oE hH.o (ay _ _) hc;have HE:=an hM;have HO:=an (show iG (it.chunks.take (j+1)) rs2=dX c (iG (it.chunks.take j) rs2) by rw[dZ hc,Da]);have H8:=xa it.chunks rs2 j;have hn:=an ((ay wr.heap.size wr).alloc (au _) (.cells #[.string c.name, .int .i64 c.gen, .int .i64 c.size] 26))
       have hU:=an (hp.o.below hn.o);have Hw:base<=(wr.alloc (.cells #[.string c.name, .int .i64 c.gen, .int .i64 c.size] 26)).heap.size:=aB hq (aB hp.o.gr.size hn.o.size);have h4:=an Hw;clear hc hM Hw;go_wp2_with fail;refine(uU base wb eb sb _ v3 ex2 _ c _ hU.o.at' HE.o (by omega) h4.o).mono ?_;rintro e w4 ⟨rfl,ha⟩;obtain⟨v4,hh,Hi⟩:=hU.o.step ha
       have hz:=an hh;have H4:=hn.o.size;have Hd:=an (show dA (fun k=>W2.heap.size<=k/\k<w3.heap.size) w4 (.slice (some ⟨b2,o2,none⟩) it.chunks.length cc) it.chunks from dA.same hH.o (fun k hk hS=>⟨hS,(Hi.block k (aR hk H4) (hU.o.notown hS)).trans (hn.o.block k hk)⟩));have hX:=mT he.o (.cells #[.string c.name, .int .i64 c.gen, .int .i64 c.size] 26)
       have h3:=an ((Hi.block wo.heap.size ((aP.1 hX).1) (hU.o.at'.notown hX (by decide) (by decide))).trans hX);clear ha hh Hi hX p0 p1 p2;go_wp2_with fail
       go_roundw
       case rel=>exact⟨j+1,v4,by omega,by go_num,by rw[HO.o]; exact hz.o,Hd.o,h3.o⟩
       case measure=>simp[intOf]; omega
      ·obtain rfl:j=it.chunks.length:=by omega
       rw[bC (au _)]at hp;have c1:=bH (k:=1) he.o;have c7:=bH (k:=7) he.o;have c8:=bH (k:=8) he.o;have c9:=bH (k:=9) he.o;simp only[ak,am,aj]at c1 c7 c8 c9
       rcases xk hG.o with⟨hO,h2⟩ | ⟨hO,y,st2,h1,h2⟩
       ·have e2:(it.kind != 2)=true:=by simp[hO]
        have H2:=an h2;clear hO h2;go_wp2_with fail
        go_roundw
        case rel=>exact⟨k+1,v3,_,_,by omega,by go_num,H2.o,hp.o⟩
        case measure=>simp[intOf]; omega
       ·have e2:(it.kind != 2)=false:=by simp[hO]
        have H1:=an h1;have H2:=an h2;have HT:st2.2.length<=st'.2.length:=by
         rcases h2 with⟨_,h2⟩ | ⟨_,h2⟩
         ·obtain⟨_,rfl⟩:=kg h2;exact au _
         ·exact nW (py visit n) _ _ x st' h2
        have HG:=an (HI.o w wr Hq.o (wI hp.o.gr (fun k hk=>Fe H.o HB.o hk)));have h4:=an (aB hq hp.o.gr.size);clear hO h1 h2;go_wp2_with fail;refine(HH.o it.node (ex2,iG it.chunks rs2) y st2 base wb eb sb v3 wr H1.o (by omega) hp.o.at' HM.o.nd HG.o HB.o h4.o).mono ?_;rintro e w4 ⟨rfl,ha⟩;obtain⟨v4,hh,-⟩:=hp.o.step ha;have hz:=an hh
        clear ha hh c1 c7 c8 c9
        rcases H2.o with⟨hy,h2⟩ | ⟨hy,h2⟩
        ·have e3:(y != 0)=true:=by simp[hy]
         have hb:=an h2;clear hy h2;go_wp2_with fail;go_ret;obtain⟨e1,e2⟩:=kg hb.o;exact⟨dK e1.symm,v4,by rw[e2]; exact hz.o.at',hz.o.gr,hz.o.own⟩
        ·subst hy;have H3:=an h2;clear h2;go_wp2_with fail
         go_roundw
         case rel=>exact⟨k+1,v4,st2.1,st2.2,by omega,by go_num,H3.o,hz.o⟩
         case measure=>simp[intOf]; omega
    ·obtain rfl:k=l.length:=by omega
     have hb:=an (show(x,st')=(0,(ex2,rs2)) by have:=Hv.o; rw[fZ (au _)]at this; exact(bK this).symm);go_wp2_with fail;go_ret;obtain⟨e1,e2⟩:=kg hb.o;exact⟨dK e1.symm,v2,by rw[e2]; exact hF.o.at',hF.o.gr,hF.o.own⟩
theorem Aq (visit:cX->Except Int (List cr)) (cv:Value) (I:World->Prop) (B:Nat) (hI:FY I B) (hV:KM visit 95 cv I): ∀n,KN visit 95 cv I B n
 | 0=>by intro r st x st' base wb eb sb v w hw; simp[kP]at hw
 | n+1=>FR visit cv I B n hI hV (Aq visit cv I B hI hV n)
open Go Go.RowKit Go.Maps
theorem EY (visit:cX->Except Int (List cr)) (cv:Value) (I:World->Prop) (n:Nat) (root:cX) (res:Except Int (List cX)) (w:World) (hI:FY I w.heap.size) (hV:KM visit 95 cv I) (hi:I w) (hr:eC root)
  (hn:tg visit n root=some res) (hl: ∀p,kP visit n root ([],[])=some p->p.2.2.length<1099511627775):
  Calls Tryz.prog 94 #[fa root, .func (.func 95) #[cv] #[]] w (AD res w):=by
 have HI:=an hI;have HV:=an hV;have hB:=an hi;have HR:=an hr;have HL:=an hl;have hG:= @run_makeMap Tryz.prog;have hu:=an ((ay w.heap.size w).alloc (au _) (.cells #[.string root.name, .int .i64 root.gen, .int .i64 root.size] 26));have hd:=an (aH w (.cells #[.string root.name, .int .i64 root.gen, .int .i64 root.size] 26));unfold fa;clear hI hV hi hr hl
 cases hv:ld root
 ·have ha:=an (show res= .error 1 by rw[tg,if_neg (by rw[hv]; simp)]at hn; exact(bK hn).symm);have hp:=an hv;clear hv hn
  go_enter Tryz.func94,Tryz.ntmps94
  go_wp2_with fail;refine(jp root false _ HR.o hp.o).mono ?_;rintro e w1 ⟨rfl,hc⟩;have hj:=an (aw hu.o hc);clear hc;go_wp2_with fail
  go_ret2
  exact⟨hj.o,by rw[ha.o]; exact⟨rfl,by decide⟩⟩
 ·have hp:=an hv;obtain⟨⟨x,st⟩,hs,hf⟩: ∃p,kP visit n root ([],[])=some p/\res=(if p.1=0 then .ok p.2.2 else .error p.1):=by
   rw[tg,if_pos hv,ie]at hn;obtain⟨p,h1,h2⟩:=hn;exact⟨p,h1,h2.symm⟩
  have hD:=an hs;have ha:=an hf;have hC:=an (HL.o _ hs);clear hv hn hs hf
  go_enter Tryz.func94,Tryz.ntmps94
  go_wp2_with fail;refine(jp root true _ HR.o hp.o).mono ?_;rintro e w1 ⟨rfl,hc⟩;have hj:=an (aw hu.o hc);have hb:=(hc.block w.heap.size (by simp)).trans hd.o;have he:=an hb;have hF:=az hb;clear hc hb hd;obtain⟨W,hW⟩: ∃W:World,W=((w1.alloc (.map #[] 0)).alloc (.map #[] 0)).alloc (.cells #[.func (.func 95) #[cv] #[], .map (some w1.heap.size), .map (some (w1.heap.size+1)), .slice none 0 0] 191):=⟨_,rfl⟩
  have HK:=an (show nj W w.heap.size (w1.heap.size+1+1) w1.heap.size (w1.heap.size+1) (.func (.func 95) #[cv] #[]) (.slice none 0 0) [] [] by rw[hW]; exact MW);have hq:Below w1.heap.size w1 W:=by rw[hW]; exact((eN).alloc (by simp) _).alloc (by simp; omega) _
  have hg:=an (aw hj.o hq);have hm:=an ((hq.block w.heap.size hF).trans he.o);obtain⟨q0,q1,q2,_⟩:=aT hm.o;obtain⟨r0,r1,r2,_⟩:=aT he.o;have hA:=an (HI.o w W hB.o (gY.of_below hg.o));clear hq
  go_upto_region 4 with(fail)
  rw[<-hW];clear hW;go_wp2_with fail;refine(Aq visit cv I w.heap.size HI.o HV.o n root ([],[]) x st w.heap.size (w1.heap.size+1+1) w1.heap.size (w1.heap.size+1) (.slice none 0 0) W hD.o hC.o HK.o HR.o hA.o ⟨au _,by omega,by omega,by omega⟩ hg.o.size).mono ?_;rintro e w2 ⟨rfl,v2,hh,hz,hE⟩;have hy:=an hh;have hw:=an (show Below w.heap.size w w2 from hg.o.trans (hz.below hg.o.size (fun k hk=>Fe HK.o ⟨au _,by omega,by omega,by omega⟩ hk)))
  obtain⟨a2,c2,rfl⟩:=hh.shape;have d3:=bH (k:=3) hh.box;simp only[ak,am,aj]at d3;clear hh hz hE q0 q1 q2 r0 r1 r2
  by_cases hx:x=0
  ·subst hx;have ho:=an (show res= .ok st.2 by rw[ha.o]; simp);go_wp2_with fail
   go_ret2
   exact⟨hw.o,by rw[ho.o]; exact⟨_,rfl,dA.same (pT hy.o.row hy.o.ok) (fun k _ hS=>⟨hS.1,rfl⟩)⟩⟩
  ·have e1:(x != 0)=true:=by simp[hx]
   have ho:=an (show res= .error x by rw[ha.o]; simp[hx]);have HX:=an hx;clear hx;go_wp2_with fail
   go_ret2
   exact⟨hw.o,by rw[ho.o]; exact⟨rfl,HX.o⟩⟩
theorem lE.pres {B:Nat} {cv:Value} {cs:List (ByteArray×List UInt8)} :KM (ly cs) 95 cv (lE B cv cs):=fun W r hI hr=>(Dn (· <B) cv cs r W hI.cont hr hI.env).mono fun _ _ h=>h
def kV (cs:List (ByteArray×List UInt8)) (rs:List cX):List cX:=rs.filter fun r=>(gB cs r.name).isNone
def OB (cs:List (ByteArray×List UInt8)) (res:Except Int (List cX)):Except Int (List cX):=match res with
 | .error x=> .error x
 | .ok rs=> .ok (kV cs rs)
theorem Bu {P:Program} {ops:Array Oper} {rest:List Oper} {o:Oper} {a:Act} {Q:Exit->Act->World->Prop} {t e:TypeId} {sz bytes:Nat} (T:km P t e sz bytes) (hgd:o.guard=none) (s x:Operand)
  (ho:o.op= .call {callee:= .builtin .append,args:= #[s,x],argTypes:= #[t,t]}) (base:Nat) (v:Value) (n:Nat) (xs:List Value) (hs:a.eval s=v) (w0:World) (news:List Value) (e2:TypeId)
  (hx:a.eval x= .slice (some ⟨w0.heap.size,0,none⟩) 1 1) (hl:news.length=sz) (h1: ∀u∈news,u.oneCell'=true) (hown:w0.ownsRow base e sz v n xs) (h63:n+1<=maxLen) (hby:(n+1)*bytes<=140737488355328) (hbase:base<=w0.heap.size)
  (h: ∀v' w',w'.ownsRow base e sz v' (n+1) (xs++news)->w0.grownBy w' v.ownBlock->v'≠ .slice none 0 0->wpList P ops Q rest (a.put o.dst v') w'):wpList P ops Q (o::rest) a (w0.alloc (.cells news.toArray e2)):=by
 obtain⟨ht,⟨i,z,hc,hd,he,hf,hm⟩,hb,hq⟩:=T;have ha: ∀(j:Nat) u,news[j]? =some u->(w0.alloc (.cells news.toArray e2)).cell? ((⟨w0.heap.size,0,none⟩:Addr).add j)=some u:=by
  intro j u hj;rw[vA,bX];have hh:=aH w0 (.cells news.toArray e2);simp only[World.cell?,hh];simp[hj]
 have hn:news.length=1*sz:=by rw[hl,Nat.one_mul]
 obtain⟨v',w',hr,h2,hg,hv⟩:=run_append_own (P:=P) (w0.alloc (.cells news.toArray e2)) base t o.type e i z sz bytes ht hc hd he hf hm hb v n xs (hown.alloc _) ⟨w0.heap.size,0,none⟩ 1 1 news hn ha h1 h63 hby (by simp; omega);refine gm hgd fun K hK=> ?_
 unfold Oper.wp execOp;simp only[ho,resolve,invoke,builtin,Sem.run_bind,Sem.run_pure,iD,iX,cw,eL,hs,hx,hr];refine hK _ _ (h v' w' h2 ⟨hg.os,hg.tape,hg.output,by have:=hg.size; simp at this; omega,fun k hk hp=> ?_⟩ (fun e=>by have:=(hv.1 e).2; omega));rw[hg.block k (by simp; omega) hp];exact cP _ _ _ hk
theorem EB (cs:List (ByteArray×List UInt8)) (rs:List cX) (r:cX):kV cs (rs++[r])=if(gB cs r.name).isNone=true then kV cs rs++[r]else kV cs rs:=by
 unfold kV; rw[gA]
 by_cases h:(gB cs r.name).isNone=true<;> simp[List.filter,h]
theorem Lx (cs:List (ByteArray×List UInt8)) (rs:List cX):(kV cs rs).length<=rs.length:=dF _ _
theorem Bd (S:Nat->Prop) (cv:Value) (cs:List (ByteArray×List UInt8)) (n:Nat) (root:cX) (res:Except Int (List cX)) (w:World) (hc:fU S w cv cs) (henv:og w) (hr:eC root)
  (hn:tg (ly cs) n root=some res) (hl: ∀p,kP (ly cs) n root ([],[])=some p->p.2.2.length<1099511627775) (hle: ∀rs,res= .ok rs->rs.length<1099511627775):
  Calls Tryz.prog 37 #[fa root,cv] w (AD (OB cs res) w):=by
 have hQ: ∀(fn:Fn) (first cap:Array Value) (w:World),(Instr.makeFunc fn first cap).run Tryz.prog w= .ok (.func fn first cap) w:=fun _ _ _ _=>rfl
 have hs:=an ((ay w.heap.size w).alloc (au _) (.cells #[.string root.name, .int .i64 root.gen, .int .i64 root.size] 26));have HC:=an hc;have HI:=an (lE.start (hc.below hs.o) (henv.below hs.o));have HR:=an hr;have HN:=an hn;have HL:=an hl;unfold fa;clear hc henv hr hn hl
 go_enter Tryz.func37,Tryz.ntmps37
 go_wp2_with fail;refine(EY (ly cs) cv _ n root res _ lE.keep lE.pres HI.o HR.o HN.o HL.o).mono ?_;rintro e w1 ⟨hD,hj⟩;have ho:=an (aw hs.o hD);clear hD
 cases res with
 | error x=>
  obtain⟨rfl,hx⟩:=hj;have HX:=an hx;have e1:(x != 0)=true:=by simp[hx]
  clear hx;go_wp2_with fail
  go_ret2
  exact⟨ho.o,rfl,HX.o⟩
 | ok rs=>
  obtain⟨v,rfl,hv⟩:=hj;have hT:=hle rs rfl;obtain⟨a,cap,rfl,hO,hm,-⟩:=cL.shape hv oJ.len;unfold maxLen at hm;have HV:=an hv;clear hv hle;go_wp2_with fail
  go_loopw [8,25] (fun o i wr=> ∃k:Nat,k<=rs.length/\i= .int .i64 k/\wr.ownsRow w1.heap.size 26 3 o (kV cs (rs.take k)).length ((kV cs (rs.take k)).flatMap ji)/\Below w1.heap.size w1 wr/\ ∀r∈kV cs (rs.take k),eC r) (fun _ i _=>rs.length-(intOf i).toNat)
  case atStart=>exact⟨0,aX _,rfl,bN _ _ _ _,ay _ _,by simp[kV]⟩
  case round=>
   obtain⟨k,hk,rfl,hg,hb,hE⟩:=hrel;have HO:=an hg;have HB:=an hb;have hu:=an hE;obtain⟨ao,co,rfl,hR,hP⟩:=aI hg;have hA:=Lx cs (rs.take k);rw[bm]at hA;clear hg hb hE
   by_cases hN:k<rs.length
   ·obtain⟨r,hr⟩: ∃r,rs[k]? =some r:=⟨rs[k],by simp[hN]⟩;obtain⟨b,o,rfl,hh,q0,q1,q2⟩:=oE HV.o HB.o hr;have hJ:=an hh;have hC:=an (show kV cs (rs.take (k+1))=if(gB cs r.name).isNone=true then kV cs (rs.take k)++[r]else kV cs (rs.take k) by rw[dZ hr,EB]);have hq:=hh.nm;clear hr hh
    go_upto_region 8 with(fail)
    obtain⟨W,hW⟩: ∃W:World,W=wr.alloc (.cells #[.string r.name, .int .i64 r.gen, .int .i64 r.size] 26):=⟨_,rfl⟩;rw[<-hW];have hy:Below wr.heap.size wr W:=by rw[hW]; exact eN
    have hH:=an (show W.heap[wr.heap.size]? =some (.cells #[.string r.name, .int .i64 r.gen, .int .i64 r.size] 26 (0,0)) by rw[hW]; exact aH wr _);have hp:=an (aw HB.o hy);have hw:=an (jw HO.o hy);have hB:=an (HC.o.below (aw ho.o hp.o));have hF:=hp.o.size;obtain⟨p0,p1,p2,_⟩:=aT hH.o;clear hW hy q0 q1 q2
    cases hf:gB cs r.name with
    | none=>
     have hM:=hB.o.missM hq hf;have ha:=an (hC.o.trans (if_pos (by rw[hf]; rfl)));clear hf hq;go_wp2_with (at_builtin; go_must (refine Bu Tryz.appRefs rfl _ _ rfl w1.heap.size (.slice ao (kV cs (rs.take k)).length co) (kV cs (rs.take k)).length ((kV cs (rs.take k)).flatMap ji) rfl W [.string r.name, .int .i64 r.gen, .int .i64 r.size] _ rfl rfl (qH (r:=r)) hw.o (by unfold maxLen; omega) (by omega) hF ?_); intro v' wc he hd _; have hG:=an (cg hp.o hw.o hd (au _) hF); have hI:=an (show wc.ownsRow w1.heap.size 26 3 v' (kV cs (rs.take (k+1))).length ((kV cs (rs.take (k+1))).flatMap ji) by rw[ha.o,ar,bW]; simpa [ji]using he); obtain⟨ae,ce,rfl,-,-⟩:=aI he; clear he hd)
     go_roundw
     case rel=>
      refine⟨k+1,by omega,by go_num,hI.o,hG.o, ?_⟩;rw[ha.o];intro x hx
      rcases aU.1 hx with hx | hx
      ·exact hu.o x hx
      ·simp only[aQ]at hx; subst hx; exact hJ.o
     case measure=>simp[intOf]; omega
    | some bs=>
     obtain⟨v,hM,-⟩:=hB.o.hitM hq hf;have ha:=an (hC.o.trans (if_neg (by rw[hf]; simp)));clear hf hq;go_wp2_with fail
     go_roundw
     case rel=>exact⟨k+1,by omega,by go_num,by rw[ha.o]; exact hw.o,hp.o,by rw[ha.o]; exact hu.o⟩
     case measure=>simp[intOf]; omega
   ·obtain rfl:k=rs.length:=by omega
    have hL:=an (show kV cs (rs.take rs.length)=kV cs rs by rw[bC (au _)]);have hz:=ho.o.size;go_wp2_with fail
    go_ret2
    refine⟨aw ho.o HB.o, ?_⟩
    show ∃v,_/\dA _ _ v (kV cs rs)
    rw[<-hL.o];exact⟨_,rfl,dA.same (pT HO.o hu.o) (fun k _ hS=>⟨aB hz hS.1,rfl⟩)⟩
end Go.Proofs.YtpffpjbkbaleiaaGreatDoor
namespace Go.Proofs.YtpffpjbkbaleiaaGreatDoor
open Go.RowKit
def Nm (cs:List (ByteArray×List UInt8)) (miss:cX->Except Int (List cX)):Prop:= ∀(S:Nat->Prop) (cv:Value) (root:cX) (w:World),fU S w cv cs->og w->eC root->Calls Tryz.prog 37 #[fa root,cv] w (AD (miss root) w)
open Go Go.RowKit Go.Maps
theorem Fh {cs:List (ByteArray×List UInt8)} {r:cX} {l:List cr} (h:ly cs r= .ok l) {it:cr} (hit:it∈l): ∀c∈qx it,c∈rO cs:=by
 unfold ly at h
 cases hn:jy cs r with
 | error x=>
  rw[hn]at h;simp only at h
  split at h
  ·simp only[dr]at h; subst h; simp at hit
  ·simp at h
 | ok l'=>
  rw[hn]at h;simp only[dr]at h;subst h;exact Fa hn hit
theorem xS {cs:List (ByteArray×List UInt8)} {U:List cX} (hU: ∀c∈rO cs,c∈U): ∀n,Oy U (kP (ly cs) n) n
 | 0=>fun r st hr hi hn=>by
  have:=tj hi.e1 hi.e2;omega
 | n+1=>fun r st hr hi hn=>by
  have hm:xZ U (st.1,dX r st.2):=⟨hi.e1,hi.e2,qC hi.l1,fun x hx=>by
   rcases sZ.1 hx with hx | rfl
   ·exact hi.l2 x hx
   ·exact hr⟩
  rw[kP]
  split
  ·exact⟨0,_,rfl,hm,au _⟩
  ·rename_i hne;have he:xZ U (st.1++[r],dX r st.2):=⟨gL.2 ⟨hi.e1,by simp,fun a ha b hb e=>by simp only[aQ]at hb; subst hb e; exact hne ha⟩,fun x hx=>by
    rcases aU.1 hx with hx | hx
    ·exact hi.e2 x hx
    ·simp only[aQ]at hx; subst hx; exact hr,hm.l1,hm.l2⟩
   cases hv:ly cs r with
   | error x=>exact⟨x,_,rfl,he,by simp⟩
   | ok l=>
    obtain⟨x,st',h1,h2,h3⟩:=sj (xS hU n) l (st.1++[r],dX r st.2) (fun it hit c hc=>hU c (Fh hv hit c hc)) he (by simp; omega);exact⟨x,st',h1,h2,by simp at h3; omega⟩
theorem xr (cs:List (ByteArray×List UInt8)) (r:cX): ∃x st',kP (ly cs) (uL cs) r ([],[])=some (x,st')/\xZ (r::rO cs) st':=by
 obtain⟨x,st',h1,h2,_⟩:=xS (cs:=cs) (U:=r::rO cs) (fun c hc=>by simp[hc]) (uL cs) r ([],[]) (by simp) ⟨by simp,by simp,by simp,by simp⟩ (by simp[uL]);exact⟨x,st',h1,h2⟩
def GQ (cs:List (ByteArray×List UInt8)) (r:cX):Except Int (List cX):=(tg (ly cs) (uL cs) r).getD (.error 0)
def LP (cs:List (ByteArray×List UInt8)) (r:cX):Except Int (List cX):=OB cs (GQ cs r)
theorem xq {cs:List (ByteArray×List UInt8)} (h:cs.length<=80) (r:cX):tg (ly cs) (uL cs) r=some (GQ cs r)/\ ∀p,kP (ly cs) (uL cs) r ([],[])=some p->p.2.2.length<=1000000000:=by
 obtain⟨x,st',h1,h2⟩:=xr cs r;refine⟨?_,fun p hp=> ?_⟩
 ·unfold GQ;have: ∃y,tg (ly cs) (uL cs) r=some y:=by
   unfold tg
   split
   ·rw[h1]; exact⟨_,rfl⟩
   ·exact⟨_,rfl⟩
  obtain⟨y,hy⟩:=this;rw[hy]; rfl
 ·rw[h1]at hp;simp only[br]at hp;subst hp;have h3:=tj h2.l1 h2.l2;have h4:=II (cs:=cs);have h5:cs.length*3948544<=80*3948544:=dl _ h;simp only[aG]at h3;simp only;omega
theorem Mi {cs:List (ByteArray×List UInt8)} (h:cs.length<=80) {r:cX} {l:List cX} (hl:GQ cs r= .ok l):l.length<=1000000000:=by
 obtain⟨h1,h2⟩:=xq h r;obtain⟨x,st',h3,_⟩:=xr cs r;have h4:=h2 _ h3;rw[hl]at h1;unfold tg at h1
 split at h1
 ·rw[h3]at h1;simp only[ep,br]at h1
  split at h1
  ·simp only[dr]at h1; subst h1; exact h4
  ·simp at h1
 ·simp at h1
theorem ym {cs:List (ByteArray×List UInt8)} (h:cs.length<=80):Nm cs (LP cs):=fun S cv root w hc he hr=>by
 obtain⟨h1,h2⟩:=xq h root;exact Bd S cv cs (uL cs) root _ w hc he hr h1 (fun p hp=>by have:=h2 p hp; omega) (fun rs hrs=>by have:=Mi h hrs; omega)
end Go.Proofs.YtpffpjbkbaleiaaGreatDoor
namespace Go.Proofs.YtpffpjbkbaleiaaGreatDoor
open Go.RowKit
def wS (c:UInt8):ByteArray:=⟨#[c,49,50,51,52,53,54,55,56,57,97,98,99,100,101,102,48,49,50,51,52,53,54,55,56,57,97,98,99,100,101,102]⟩
def eZ :dm:=⟨wS 110,wS 115,wS 99,wS 105,wS 116⟩
def kF :fL:=⟨2,6,1,1,0⟩
def oF :List dj:=[⟨⟨#[97]⟩,1,0,0,[],⟨#[]⟩⟩,⟨⟨#[100]⟩,2,0,0,[],⟨#[]⟩⟩,⟨⟨#[100,47,108]⟩,3,5,6,[],⟨#[97]⟩⟩]
def ry :List UInt8:=[1,1,108,3,5,6,1,97]
def qI :cX:=bD eZ [] ry
def sU :cr:=⟨⟨#[97]⟩,1,0,0,0,⟨#[]⟩,[],ef⟩
def Kx :cr:=⟨⟨#[100]⟩,2,0,0,0,⟨#[]⟩,[],qI⟩
def itL :cr:=⟨⟨#[108]⟩,3,5,6,0,⟨#[97]⟩,[],ef⟩
def tR :List UInt8:=fY [sU,Kx]
def mX :cX:=bD eZ [] tR
def ws :List (ByteArray×List UInt8):=[(mX.name,tR)]
theorem CI :jA eZ=true:=by decide+kernel
theorem Gr :jJ kF=true:=by decide+kernel
theorem MP :iq oF=0:=by decide+kernel
theorem NB :fY [itL]=ry:=by decide+kernel
theorem OY :gR oF ⟨#[]⟩=[⟨⟨#[97]⟩,1,0,0,[],⟨#[]⟩⟩,⟨⟨#[100]⟩,2,0,0,[],⟨#[]⟩⟩]:=by decide+kernel
theorem OZ :gR oF ⟨#[100]⟩=[⟨⟨#[100,47,108]⟩,3,5,6,[],⟨#[97]⟩⟩]:=by decide+kernel
theorem OW :iR [0]=some []:=by kernel_rfl
theorem vn0 :jB []=true:=by decide+kernel
theorem vnL :jB [itL]=true:=by decide+kernel
theorem vnT :jB [sU,Kx]=true:=by decide+kernel
theorem PI :qI≠mX:=by decide+kernel
theorem Pf :qI.name≠mX.name:=by decide+kernel
theorem PM (n:Nat):gQ eZ [] kF [] (n+1) ⟨#[]⟩= .ok ([0],[[0]]):=by
 rw[gQ,show gT eZ [] kF (gQ eZ [] kF [] n) ⟨#[]⟩ (gR [] ⟨#[]⟩) [] []= .ok ([],[])from rfl];simp only[if_pos vn0];rw[if_pos (show(fY []).length<=32768 by decide)]
 rfl
theorem PS :et eZ [] [[0]] []=[⟨bD eZ [] [0],[0]⟩]:=by
 show kz eZ [] [] [0]=_
 unfold kz;rw[if_neg (by simp),aL]
theorem ON :ik eZ kF [] []= .ok (bD eZ [] [0],[⟨bD eZ [] [0],[0]⟩]):=by
 unfold ik;rw[if_pos ⟨CI,Gr⟩,if_pos (show([]:List (ByteArray×Int)).all (fun p=>decide (0<=p.2) && decide (p.2<=1099511627776))=true from rfl),if_pos (show iq []=0 from rfl),PM 513]
 dsimp only
 rw[PS]
theorem PH :et eZ [] [ry,tR] []=[⟨qI,ry⟩,⟨mX,tR⟩]:=by
 unfold et;rw[eO,eO,List.foldl_nil];have h1:kz eZ [] [] ry=[⟨qI,ry⟩]:=by
  unfold kz;rw[if_neg (by simp),aL]
  rfl
 rw[h1];unfold kz;rw[if_neg]
 ·rfl
 ·intro h;simp only[cw,eL,aQ]at h;exact PI h.symm
theorem PN (n:Nat):gQ eZ [] kF oF (n+1) ⟨#[100]⟩= .ok (ry,[ry]):=by
 have h:gT eZ [] kF (gQ eZ [] kF oF n) ⟨#[100]⟩ (gR oF ⟨#[100]⟩) [] []= .ok ([itL],[]):=by
  rw[OZ]; rfl
 rw[gQ,h];simp only[if_pos vnL,NB]
 rfl
theorem PO (n:Nat):gQ eZ [] kF oF (n+2) ⟨#[]⟩= .ok (tR,[ry,tR]):=by
 have h:gT eZ [] kF (gQ eZ [] kF oF (n+1)) ⟨#[]⟩ (gR oF ⟨#[]⟩) [] []= .ok ([sU,Kx],[ry]):=by
  rw[OY];rw[zD (by rfl),wU (by rfl),show gQ eZ [] kF oF (n+1) ⟨#[100]⟩= .ok (ry,[ry])from PN n]
  rfl
 rw[gQ,h];simp only[if_pos vnT];rw[if_pos (show(fY [sU,Kx]).length<=32768 by decide+kernel)]
 rfl
theorem OO :ik eZ kF oF []= .ok (mX,[⟨qI,ry⟩,⟨mX,tR⟩]):=by
 unfold ik;rw[if_pos ⟨CI,Gr⟩,if_pos (by rfl),if_pos MP,show(514:Nat)=512+2 from rfl,PO 512]
 show Except.ok (mX,et eZ [] [ry,tR] [])=_
 rw[PH]
theorem OX :iR tR=some [sU,Kx]:=by kernel_rfl
theorem PQ :((tR.length:Nat):Int)=mX.size:=by kernel_rfl
theorem LW :jy ws mX= .ok [sU,Kx]:=by
 have h:jG ws mX= .ok tR:=by
  unfold jG ws;rw[gB,if_pos rfl]
  show(if((tR.length:Nat):Int)=mX.size then Except.ok tR else .error 9)=_
  rw[if_pos PQ]
 unfold jy;rw[h];simp only[OX]
theorem OD :jy ws qI= .error 10:=by
 have h:jG ws qI= .error 10:=by
  unfold jG ws;rw[gB,if_neg (fun e=>Pf e.symm),gB]
 unfold jy;rw[h]
theorem MU :ld mX=true:=by decide+kernel
theorem Pz (n:Nat):jz ws (iz ws (n+1)) ⟨#[]⟩ [sU,Kx] []=(10,[⟨⟨#[97]⟩,1,0,0,[],⟨#[]⟩⟩,⟨⟨#[100]⟩,2,0,0,[],⟨#[]⟩⟩]):=by
 rw[sx (p:=⟨#[97]⟩) (bs:=[]) rfl (by decide+kernel) (by decide) rfl rfl,ul (p:=⟨#[100]⟩) rfl (by decide+kernel) (by decide) rfl];have h1: ∀X,iz ws (n+1) ⟨#[100]⟩ Kx.node X=(10,X):=fun X=>by
  rw[iz,show Kx.node=qI from rfl,OD]
 rw[h1]
 rfl
theorem PA (n:Nat):iz ws (n+2) ⟨#[]⟩ mX []=(10,[⟨⟨#[97]⟩,1,0,0,[],⟨#[]⟩⟩,⟨⟨#[100]⟩,2,0,0,[],⟨#[]⟩⟩]):=by
 rw[iz,LW];exact Pz n
theorem Py :oz ws mX= .error 10:=by
 unfold oz;rw[if_pos MU,show(514:Nat)=512+2 from rfl,PA 512]
 rfl
theorem PB :jW ws mX ⟨#[97]⟩= .ok sU:=by
 unfold jW;rw[if_pos ⟨by decide+kernel,MU⟩,show jH (bl ⟨#[97]⟩)=[⟨#[97]⟩] by decide+kernel];rw[mN,if_pos (show(my mX).kind=2 from rfl),show(my mX).node=mX from rfl,LW]
 rfl
theorem Pb :jW ws mX ⟨#[100,47,108]⟩= .error 10:=by
 unfold jW;rw[if_pos ⟨by decide+kernel,MU⟩,show jH (bl ⟨#[100,47,108]⟩)=[⟨#[100]⟩,⟨#[108]⟩] by decide+kernel];rw[mN,if_pos (show(my mX).kind=2 from rfl),show(my mX).node=mX from rfl,LW]
 show mN ws [⟨#[108]⟩] Kx=_
 rw[mN,if_pos (show Kx.kind=2 from rfl),show Kx.node=qI from rfl,OD]
theorem PC :LP ws mX= .ok [qI]:=by kernel_rfl
open Go Go.RowKit Go.Maps
theorem oy {tree:List dj} {j:Nat} {e:dj} (h:tree[j]? =some e) (d:ByteArray):gR (tree.take (j+1)) d=gR (tree.take j) d++(if cu (bl e.path)=bl d then [e]else []):=by
 unfold gR;rw[dZ h,gA]
 congr 1
 by_cases hp:cu (bl e.path)=bl d
 ·simp[hp]
 ·simp[hp]
theorem uI {G:List Bw} {d:ByteArray} (h:G.find? (fun g=>decide (g.dir=d))=none):mi G d=[]:=by unfold mi; rw[h]
theorem ow {G:List Bw} {d:ByteArray} {g:Bw} (h:G.find? (fun g=>decide (g.dir=d))=some g):mi G d=g.ents.map Prod.snd:=by unfold mi; rw[h]
theorem uJ {A B:List Bw} {g g':Bw} (hd:g'.dir=g.dir) (hA: ∀x∈A,x.dir≠g.dir) (d:ByteArray):mi (A++g'::B) d=if g.dir=d then g'.ents.map Prod.snd else mi (A++g::B) d:=by
 by_cases h:g.dir=d
 ·rw[if_pos h];refine ow ?_;rw[iB,eS.2 (fun x hx=>by rw[aK]; intro e; exact hA x hx (e.trans h.symm))];simp[hd,h]
 ·rw[if_neg h];unfold mi;rw[iB,iB,List.find?_cons,List.find?_cons,cD (show ¬g'.dir=d by rw[hd]; exact h),cD h]
theorem wF {G:List Bw} {g:Bw} (h:G.find? (fun x=>decide (x.dir=g.dir))=none) (d:ByteArray):mi (G++[g]) d=if g.dir=d then g.ents.map Prod.snd else mi G d:=by
 by_cases hd:g.dir=d
 ·rw[if_pos hd];refine ow ?_;rw[<-hd,iB,h];simp
 ·rw[if_neg hd];unfold mi;rw[iB]
  cases G.find? (fun x=>decide (x.dir=d))with
  | none=>simp[hd]
  | some x=>simp
section
variable {w w1 w2 : World} {base im : Nat} {A B G : List Bw} {g : Bw} {v' : Value} {y : oV} {q : ByteArray}
theorem ql.over (h:ql w base im (A++g::B)) (hb:base<=im) (hd:dJ (· <base) w y.1 y.2.data/\jE y.2) (hown:w1.ownsRow base 79 6 v' (g.ents.length+1) (iw g.ents++vl y.1 y.2)) (hg:w.grownBy w1 g.val.ownBlock) (hpl: ∀i,v'.ownBlock=some i->g.val.ownBlock=some i\/w.heap.size<=i)
  (hm:je Tryz.prog 9 w2 im (A.map nP++(.string g.dir,v')::B.map nP)) (hg2:w1.grownBy w2 (some im)):ql w2 base im (A++⟨g.dir,v',g.ents++[y]⟩::B):=by
 have hj:w.ownsRow base 79 6 g.val g.ents.length (iw g.ents):=h.own g (by simp);have hq:w.heap[im]? =w1.heap[im]? ->True:=fun _=>trivial
 have hh: ∀ {u:Value} {n:Nat} {xs:List Value} {t:TypeId} {sz:Nat},w1.ownsRow base t sz u n xs->w2.ownsRow base t sz u n xs:=fun {u n xs t sz} hr=>by
  refine hr.kept hg2 (.inr (fun e=> ?_));obtain⟨cs,hc⟩:=bL hr e;have h0:=h.map.lt;have hi:w1.heap[im]? =w.heap[im]? :=hg.block im h0 (fun e2=>by
   obtain⟨cs2,hk⟩:=bL hj e2.symm;exact h.map.ncells hk)
  exact h.map.ncells (hi.symm.trans hc)
 have he: ∀x,x∈A\/x∈B-> ∀i,x.val.ownBlock=some i->g.val.ownBlock≠some i:=by
  intro x hx i hi;have hp:=eo.1 h.apart
  rcases hx with hx | hx
  ·exact hp.2.2 x hx g (by simp) i hi
  ·intro e;exact(fA.1 hp.2.1).1 x hx i e hi
 have ha: ∀ {u:Value} {bs:List UInt8},dJ (· <base) w u bs->dJ (· <base) w2 u bs:=fun {u bs} hu=>by
  refine cE.same hu (fun i hi=>(hg2.block i ?_ ?_).trans (hg.block i ?_ ?_))
  ·by_cases hl:i<w.heap.size
   ·exact aR hl hg.size
   ·exact absurd h.map.lt (by omega)
  ·intro e;have:i=im:=by simpa using e
   omega
  ·have:=h.map.lt;omega
  ·intro e;have:=(hj.lt i e.symm).1;omega
 have hn: ∀x,x∈A++g::B->(x∈A\/x∈B)\/x=g:=by
  intro x hx;simp only[aU,bh]at hx
  rcases hx with hx | hx | hx
  ·exact .inl (.inl hx)
  ·exact .inr hx
  ·exact .inl (.inr hx)
 refine⟨by simpa [nP]using hm,fun x hx=> ?_,fun x hx z hz=> ?_, ?_,fun x hx=> ?_⟩
 ·simp only[aU,bh]at hx
  rcases hx with hx | hx | hx
  ·refine hh ((h.own x (by simp[hx])).kept hg ?_)
   cases hv:x.val.ownBlock with
   | none=>exact .inl rfl
   | some i=>exact .inr (fun e=>he x (.inl hx) i hv e.symm)
  ·subst hx;simp only;rw[ar,bQ,wE];exact hh hown
  ·refine hh ((h.own x (by simp[hx])).kept hg ?_)
   cases hv:x.val.ownBlock with
   | none=>exact .inl rfl
   | some i=>exact .inr (fun e=>he x (.inr hx) i hv e.symm)
 ·simp only[aU,bh]at hx
  rcases hx with hx | hx | hx
  ·have:=h.dat x (by simp[hx]) z hz;exact⟨ha this.1,this.2⟩
  ·subst hx
   rcases aU.1 hz with hz | hz
   ·have:=h.dat g (by simp) z hz;exact⟨ha this.1,this.2⟩
   ·rw[aQ]at hz;subst hz;exact⟨ha hd.1,hd.2⟩
  ·have:=h.dat x (by simp[hx]) z hz;exact⟨ha this.1,this.2⟩
 ·have hp:=eo.1 h.apart;have hc:=fA.1 hp.2.1;have hf: ∀x,x∈A\/x∈B-> ∀i,x.val.ownBlock=some i->i<w.heap.size:=by
   intro x hx i hi;have ho:x∈A++g::B:=by rcases hx with hx | hx<;> simp[hx]
   exact((h.own x ho).lt i hi).2
  refine eo.2 ⟨hp.1,fA.2 ⟨fun x hx i hi e=> ?_,hc.2⟩,fun x hx z hz i hi e=> ?_⟩
  ·rcases hpl i hi with h2 | h2
   ·exact hc.1 x hx i h2 e
   ·have:=hf x (.inr hx) i e;omega
  ·rcases bh.1 hz with hz | hz
   ·subst hz
    rcases hpl i e with h2 | h2
    ·exact he x (.inl hx) i hi h2
    ·have:=hf x (.inl hx) i hi;omega
   ·exact hp.2.2 x hx z (by simp[hz]) i hi e
 ·simp only[aU,bh]at hx
  rcases hx with hx | hx | hx
  ·exact h.key x (by simp[hx])
  ·subst hx;exact h.key g (by simp)
  ·exact h.key x (by simp[hx])
theorem ql.new (h:ql w base im G) (hb:base<=im) (hq:q.size<=maxLen) (hd:dJ (· <base) w y.1 y.2.data/\jE y.2) (hown:w1.ownsRow base 79 6 v' 1 (vl y.1 y.2)) (hg:w.grownBy w1 none) (hpl: ∀i,v'.ownBlock=some i->w.heap.size<=i)
  (hm:je Tryz.prog 9 w2 im (G.map nP++[(.string q,v')])) (hg2:w1.grownBy w2 (some im)):ql w2 base im (G++[⟨q,v',[y]⟩]):=by
 have he: ∀ {u:Value} {n:Nat} {xs:List Value} {t:TypeId} {sz:Nat},w1.ownsRow base t sz u n xs->w2.ownsRow base t sz u n xs:=fun {u n xs t sz} hr=>by
  refine hr.kept hg2 (.inr (fun e=> ?_));obtain⟨cs,hc⟩:=bL hr e;have h0:=h.map.lt;have hi:w1.heap[im]? =w.heap[im]? :=hg.block im h0 (by simp);exact h.map.ncells (hi.symm.trans hc)
 have ha: ∀ {u:Value} {bs:List UInt8},dJ (· <base) w u bs->dJ (· <base) w2 u bs:=fun {u bs} hu=>by
  have h0:=h.map.lt;refine cE.same hu (fun i hi=>(hg2.block i ?_ ?_).trans (hg.block i ?_ (by simp)))
  ·have:=hg.size;omega
  ·intro e;have:i=im:=by simpa using e
   omega
  ·skip
   omega
 refine⟨by simpa [nP]using hm,fun x hx=> ?_,fun x hx z hz=> ?_,eo.2 ⟨h.apart,by simp,fun x hx z hz i hi e=> ?_⟩,fun x hx=> ?_⟩
 ·rcases aU.1 hx with hx | hx
  ·exact he ((h.own x hx).kept hg (by cases hv:x.val.ownBlock<;> simp))
  ·rw[aQ]at hx;subst hx
   simpa [iw]using he hown
 ·rcases aU.1 hx with hx | hx
  ·have:=h.dat x hx z hz;exact⟨ha this.1,this.2⟩
  ·rw[aQ]at hx;subst hx;simp only[aQ]at hz;subst hz;exact⟨ha hd.1,hd.2⟩
 ·rw[aQ]at hz;subst hz;have h1:=hpl i e;have h2:=((h.own x hx).lt i hi).2;omega
 ·rcases aU.1 hx with hx | hx
  ·exact h.key x hx
  ·rw[aQ]at hx;subst hx;exact hq
end
def Il (k:dm) (gs:List (ByteArray×Int)) (c:fL) (tree:List dj):List cX:=
 (tree.flatMap fun e=>(fS c e.data).map (bD k gs))++(List.range 515).flatMap fun n=>(⟨#[]⟩::tree.map dj.path).flatMap fun d=>match gQ k gs c tree n d with
  | .ok p=>[bD k gs p.1]
  | .error _=>[]
theorem Gf {k:dm} {gs:List (ByteArray×Int)} {c:fL} {tree:List dj} (hc:jJ c=true) (hl:tree.length<=4096) (hv: ∀e∈tree,gX e=true):(Il k gs c tree).length<=100000000000:=by
 have h1:=mG (fun e:dj=>(fS c e.data).map (bD k gs)) 1048576 tree (fun e he=>by
  rw[aE];have:=AU hc e.data;have:=(mh (hv e he)).2.2
  omega)
 have h2:=mG (fun n:Nat=>(⟨#[]⟩::tree.map dj.path).flatMap fun d=>match gQ k gs c tree n d with
  | .ok p=>[bD k gs p.1]
  | .error _=>[]) 4097 (List.range 515) (fun n _=>by
   have h3:=mG (fun d=>match gQ k gs c tree n d with
    | .ok p=>[bD k gs p.1]
    | .error _=>[]) 1 (⟨#[]⟩::tree.map dj.path) (fun d _=>by
     cases gQ k gs c tree n d<;> simp)
   simp only[aG,aE]at h3
   omega)
 rw[List.length_range]at h2;have h4:tree.length*1048576<=4096*1048576:=dl _ hl;unfold Il;rw[ar];omega
theorem Gg {k:dm} {gs:List (ByteArray×Int)} {c:fL} {tree:List dj} : ∀e∈tree,∀y∈fS c e.data,bD k gs y∈Il k gs c tree:=fun e he y hy=>
 aU.2 (.inl (dG.2 ⟨e,he,aW.2 ⟨y,hy,rfl⟩⟩))
theorem Gh {k:dm} {gs:List (ByteArray×Int)} {c:fL} {tree:List dj} : ∀(n:Nat) (d:ByteArray) (p:List UInt8×List (List UInt8)),n<=514->(d.size=0\/ ∃e∈tree,e.path=d)->gQ k gs c tree n d= .ok p->bD k gs p.1∈Il k gs c tree:=fun n d p hn hd hp=>by
 refine aU.2 (.inr (dG.2 ⟨n,dN.2 (by omega),dG.2 ⟨d, ?_, ?_⟩⟩))
 ·rcases hd with hd | ⟨e,he,rfl⟩
  ·have:d=⟨#[]⟩:=by
    apply jP
    exact bt (by rw[<-bi]; exact hd)
   simp[this]
  ·exact gF _ (aW.2 ⟨e,he,rfl⟩)
 ·rw[hp]; simp
theorem Iu {a:Act} {w:World} {b:Nat} {x0 x1 x2 e9 e10:Value} (h:w.heap[b]? =some (.cells #[x0,x1,x2] 26 (0,0)))
  (h8:a.tmps[8]? =some (.pointer (some ⟨b,0,none⟩))) (h9:a.tmps[9]? =some e9) (h10:a.tmps[10]? =some e10):(results Tryz.f22 a.tmps).run Tryz.prog w= .ok (.tuple #[.agg #[x0,x1,x2],e9,e10]) w:=by
 obtain⟨m0,m1,m2,_⟩:=aT h;simp[results,Tryz.results22,go_sem,h8,h9,h10,m0,m1,m2]
theorem jY {a:Act} {w:World} {b:Nat} {a0 a1 a2 x0 x1 x2 e9 e10:Value} {Q:Ending->World->Prop} (h:w.heap[b]? =some (.cells #[a0,a1,a2] 26 (0,0)))
  (h8:a.tmps[8]? =some (.pointer (some ⟨b,0,none⟩))) (h9:a.tmps[9]? =some e9) (h10:a.tmps[10]? =some e10) (hd:a.defers=[])
  (hQ:Q (.returned (.tuple #[.agg #[x0,x1,x2],e9,e10])) (((w.setCell ⟨b,0,none⟩ x0).setCell ⟨b,1,none⟩ x1).setCell ⟨b,2,none⟩ x2)):
  bodyPost Tryz.prog Tryz.f22 Q Exit.ret a (((w.setCell ⟨b,0,none⟩ x0).setCell ⟨b,1,none⟩ x1).setCell ⟨b,2,none⟩ x2):=cN (Iu (ve h) h8 h9 h10) hd hQ
def sC (res:Except Int (cX×List dq)) (w:World) (e:Ending) (w':World):Prop:=Below w.heap.size w w'/\match res with
 | .error x=>e= .returned (.tuple #[.agg #[.string ⟨#[]⟩, .int .i64 0, .int .i64 0], .slice none 0 0, .int .i64 x])/\x≠0
 | .ok p=> ∃v zs,e= .returned (.tuple #[fa p.1,v, .int .i64 0])/\zs.map Prod.snd=p.2/\ig w' w.heap.size v zs
theorem ig.other {w w':World} {base B b:Nat} {v:Value} {zs:List mE} {cs:Array Value} {t:TypeId} {z:Nat×Nat} (h:ig w base v zs) (hb:w.heap[b]? =some (.cells cs t z)) (h1:t≠53) (h2:t≠5) (hB:B<=base) (hs: ∀i,i≠b->w'.heap[i]? =w.heap[i]?):ig w' B v zs:=by
 refine⟨fT (eV h.row (fun i hi hu=>hs i (fun e=> ?_))) hB,fun y hy=>fT (eV (h.dat y hy) (fun i hi hu=>hs i (fun e=> ?_))) hB⟩
 ·subst e;obtain⟨cs2,ha⟩:=bL h.row hu;exact h1 (bV hb ha)
 ·subst e;obtain⟨cs2,ha⟩:=bL (h.dat y hy) hu;exact h2 (bV hb ha)
theorem Gn (S:Nat->Prop) (L:List dj) (v:Value) (x:Int) (w:World) (hv:dP S w v L) (henv:og w) (hx:iq L=x):Calls Tryz.prog 71 #[v] w fun e w'=>e= .returned (.int .i64 x)/\Below w.heap.size w w':=by
 rw[<-hx]; exact IC S L v w hv henv
theorem kD.nilKeep {w w':World} {base bb im kb:Nat} {k:dm} {c:fL} {gv:Value} (h:kD w base bb k c gv im kb (.slice none 0 0) []) (hs:w'.heap[bb]? =w.heap[bb]?) (hk:w'.heap[kb]? =w.heap[kb]?):kD w' base bb k c gv im kb (.slice none 0 0) []:=
 ⟨hs.trans h.box,⟨[],rfl,bN _ _ _ _,by simp⟩,h.known.same hk⟩
structure BgI (w4 : World) (base bb im kb : Nat) (k : dm) (c : fL) (gv : Value) (T : List dj) (wr : World) (G : List Bw) : Prop where
 bd:kD wr base bb k c gv im kb (.slice none 0 0) []
 grp:ql wr base im G
 ents: ∀d,mi G d=gR T d
 below:Below base w4 wr
theorem tO (S T:Nat->Prop) (k:dm) (c:fL) (tree:List dj) (gs:List (ByteArray×Int)) (tv gv:Value) (w:World) (hsd:c.seed<18446744073709551616) (ht:dP S w tv tree) (hg:kR T w gv gs) (hE:rx w):
  Calls Tryz.prog 22 #[kt k,ko c,tv,gv] w (sC (ik k c tree gs) w):=by
 obtain⟨ta,tc,rfl,ZP,ZO,-⟩:=cL.shape ht lX.len;unfold maxLen at ZO;obtain⟨n,hn⟩: ∃n,n=tree.length:=⟨_,rfl⟩;rw[<-hn]at ht ZP ⊢;have HN:=an hn;have HT:=an ht;have HG:=an hg;have HE:=an hE;obtain⟨W0,Yj⟩: ∃W0,W0=((w.alloc (.cells #[.string k.nm, .string k.st, .string k.ck, .string k.ix, .string k.tk] 42)).alloc (.cells #[.int .i64 c.mn, .int .i64 c.mx, .int .i64 c.win, .int .i64 c.bits, .int .u64 (c.seed:Int)] 45)).alloc (.cells #[.string ⟨#[]⟩, .int .i64 0, .int .i64 0] 26):=⟨_,rfl⟩
 have Yk:Below w.heap.size w W0:=by rw[Yj]; exact((eN).alloc (by simp) _).alloc (by simp; omega) _
 have Zj:=an Yk;have Zo:=an (show W0.heap[w.heap.size]? =some (.cells #[.string k.nm, .string k.st, .string k.ck, .string k.ix, .string k.tk] 42 (0,0)) by rw[Yj]; exact mT (mT (dY w _) _) _);have Zy:=an (show W0.heap[w.heap.size+1]? =some (.cells #[.int .i64 c.mn, .int .i64 c.mx, .int .i64 c.win, .int .i64 c.bits, .int .u64 (c.seed:Int)] 45 (0,0)) by rw[Yj]; exact mT (pL w _ _) _)
 have Zq:=an (show W0.heap[w.heap.size+2]? =some (.cells #[.string ⟨#[]⟩, .int .i64 0, .int .i64 0] 26 (0,0)) by
  rw[Yj];have:=dY ((w.alloc (.cells #[.string k.nm, .string k.st, .string k.ck, .string k.ix, .string k.tk] 42)).alloc (.cells #[.int .i64 c.mn, .int .i64 c.mx, .int .i64 c.win, .int .i64 c.bits, .int .u64 (c.seed:Int)] 45)) (.cells #[.string ⟨#[]⟩, .int .i64 0, .int .i64 0] 26);rw[show((w.alloc (.cells #[.string k.nm, .string k.st, .string k.ck, .string k.ix, .string k.tk] 42)).alloc (.cells #[.int .i64 c.mn, .int .i64 c.mx, .int .i64 c.win, .int .i64 c.bits, .int .u64 (c.seed:Int)] 45)).heap.size=w.heap.size+2 by simp]at this
  exact this)
 have Ze:=yC k W0 (hE.below Yk).envh;unfold kt at Ze ⊢;unfold ko;have YN:=an Ze;clear ht hg hE hn Yk Ze
 go_enter Tryz.func22,Tryz.ntmps22
 go_upto_region 1 with(fail)
 rw[<-Yj];clear Yj;obtain⟨a0,a1,a2,a3,a4,_⟩:=aT Zo.o
 cases H3:jA k with
 | false=>
  rw[H3]at YN;have HM:=an (show ik k c tree gs= .error 1 by unfold ik; rw[if_neg (by rw[H3]; simp)]);clear H3;go_wp2_with fail;refine YN.o.mono ?_;rintro e w1 ⟨⟨sv,rfl⟩,HS⟩;have YL:=an (aw Zj.o HS);have Yi:=an (dV HS Zq.o);clear HS a0 a1 a2 a3 a4;obtain⟨z0,z1,z2,_⟩:=aT Yi.o;obtain⟨y0,y1,y2,_⟩:=gu Yi.o;go_wp2_with fail;refine jY Yi.o rfl rfl rfl rfl ⟨gW YL.o (by show w.heap.size<=w.heap.size+2; omega), ?_⟩
  rw[HM.o];exact⟨rfl,by decide⟩
 | true=>
  rw[H3]at YN;have Zn:=an H3;go_wp2_with fail;refine YN.o.mono ?_;rintro e w1 ⟨⟨sv,rfl⟩,HS⟩;have YL:=an (aw Zj.o HS);have ZS:=an HS;have Yi:=an (dV HS Zq.o);have ZB:=an (dV HS Zo.o);have Zk:=an (dV HS Zy.o);clear HS a0 a1 a2 a3 a4;obtain⟨b0,b1,b2,b3,b4,_⟩:=aT Zk.o
  cases H1:jJ c with
  | false=>
   have Ym:=an H1;have HM:=an (show ik k c tree gs= .error 1 by unfold ik; rw[if_neg (by rw[H1]; simp)]);have Yb:=oq c false w1 H1;unfold ko at Yb;have Y8:=an Yb;clear H3 H1 Yb;go_wp2_with fail;refine Y8.o.mono ?_;rintro e w2 ⟨rfl,HY⟩;have Yh:=an (aw YL.o HY);have yp:=an (dV HY Yi.o);clear HY b0 b1 b2 b3 b4;obtain⟨z0,z1,z2,_⟩:=aT yp.o
   obtain⟨y0,y1,y2,_⟩:=gu yp.o;go_wp2_with fail;refine jY yp.o rfl rfl rfl rfl ⟨gW Yh.o (by show w.heap.size<=w.heap.size+2; omega), ?_⟩;rw[HM.o];exact⟨rfl,by decide⟩
  | true=>
   have Ym:=an H1;have Y2:=an (show ik k c tree gs=(if(gs.all fun p=>decide (0<=p.2) && decide (p.2<=1099511627776))=true then
    (if iq tree=0 then(match gQ k gs c tree 514 ⟨#[]⟩with
     | .error x=> .error x
     | .ok p=> .ok (bD k gs p.1,et k gs p.2 []))
    else .error (iq tree))else .error 1) by unfold ik; rw[if_pos ⟨H3,H1⟩]; rfl)
   have Yb:=oq c true w1 H1;unfold ko at Yb;have Y8:=an Yb;clear H3 H1 Yb;go_wp2_with fail;refine Y8.o.mono ?_;rintro e w2 ⟨rfl,HY⟩;have Yh:=an (aw YL.o HY);have yp:=an (dV HY Yi.o);have Zm:=an (dV HY ZB.o);have Zl:=an (dV HY Zk.o);clear HY b0 b1 b2 b3 b4
   rcases HG.o with⟨rfl,Zs⟩ | ⟨gb,rfl,ZE,YP⟩
   ·have ZA:=an Zs;have hr:=fun(w:World)=>run_range_nilMap (P:=Tryz.prog) w 47 9 3 Tryz.underlying47
    have Zt:=fun(w:World) (ty:TypeId) (a b:Nat) (s:Array Nat)=>run_next_nilMap (P:=Tryz.prog) w ty a b s
    clear Zs;go_wp2_with fail;obtain⟨W3,YO⟩: ∃W3:World,W3=w2.alloc (.mapIter none 0 #[] 0):=⟨_,rfl⟩;have ZK: ∀ty,(Instr.next (.pointer (some ⟨w2.heap.size,0,none⟩)) false ty).run Tryz.prog W3= .ok (.tuple #[.bool false]) W3:=by rw[YO]; exact fun ty=>Zt w2 ty _ _ _
    have Yx:Below w2.heap.size w2 W3:=by rw[YO]; exact eN
    have H6:=an (aw Yh.o Yx);have Y5:=an (dV Yx yp.o);have Y0:=an (dV Yx Zm.o);have YU:=an (dV Yx Zl.o);have Ht:=an (show gs.all (fun p=>decide (0<=p.2) && decide (p.2<=1099511627776))=true by rw[ZA.o]; rfl);rw[<-YO];clear hr Zt Yx YO
    go_loopw [14] (fun _ wr=>wr=W3) (fun _ _=>0)
    case atStart=>rfl
    case round=>
     subst hrel
     go_upto_region 9 with(fail)
     have Yq:=an (show ik k c tree gs=(if iq tree=0 then(match gQ k gs c tree 514 ⟨#[]⟩with
      | .error x=> .error x
      | .ok p=> .ok (bD k gs p.1,et k gs p.2 []))
     else .error (iq tree)) by rw[Y2.o,if_pos Ht.o])
     have YH:dP S (wr) (.slice ta n tc) tree:=dP.below HT.o H6.o;have YA:=HE.o.below H6.o;obtain⟨x,hx⟩: ∃x,iq tree=x:=⟨_,rfl⟩;have Yy:=Gn S tree (.slice ta n tc) x (wr) YH YA.env hx;have YW:=an Yy;have hN:=an hx;clear YH YA Yy hx;go_wp2_with fail;refine YW.o.mono ?_;rintro e w4 ⟨rfl,HB⟩;have HU:=an (aw H6.o HB);have Hp:=an (dV HB Y5.o)
     have Y1:=an (dV HB Y0.o);have YV:=an (dV HB YU.o);clear HB
     by_cases Hl:x=0
     ·have e1:(x != 0)=false:=by simp[Hl]
      have Hr:=an (pD.1 (hN.o.trans Hl));have Yr:=an (show ik k c tree gs=(match gQ k gs c tree 514 ⟨#[]⟩with
       | .error x=> .error x
       | .ok p=> .ok (bD k gs p.1,et k gs p.2 [])) by rw[Yq.o,if_pos (hN.o.trans Hl)])
      clear Hl;obtain⟨a0,a1,a2,a3,a4,_⟩:=aT Y1.o;obtain⟨b0,b1,b2,b3,b4,_⟩:=aT YV.o;have Za:= @run_makeMap Tryz.prog
      go_upto_region 13 with(fail)
      obtain⟨W5,Hc⟩: ∃W5:World,W5=((w4.alloc (.map #[] 0)).alloc (.map #[] 0)).alloc (.cells #[.string k.nm, .string k.st, .string k.ck, .string k.ix, .string k.tk, .int .i64 c.mn, .int .i64 c.mx, .int .i64 c.win, .int .i64 c.bits, .int .u64 (c.seed:Int), .map none, .map (some w4.heap.size), .slice none 0 0, .map (some (w4.heap.size+1))] 122):=⟨_,rfl⟩;rw[<-Hc];obtain⟨base,hk⟩: ∃base,base=w4.heap.size:=⟨_,rfl⟩
      rw[<-hk]at Hc ⊢;have Zx:=an hk;have HC:BgI w4 base (base+1+1) base (base+1) k c (.map none) [] W5 []:=by
       have e1:(w4.alloc (.map #[] 0)).heap.size=base+1:=by simp[hk]
       have e2:((w4.alloc (.map #[] 0)).alloc (.map #[] 0)).heap.size=base+1+1:=by simp[hk]
       have h1:=je.made (P:=Tryz.prog) (k:=9) w4;have h2:=jO.made (w4.alloc (.map #[] 0));rw[e1]at h2;rw[<-hk]at h1;have h3:=dY ((w4.alloc (.map #[] 0)).alloc (.map #[] 0)) (.cells #[.string k.nm, .string k.st, .string k.ck, .string k.ix, .string k.tk, .int .i64 c.mn, .int .i64 c.mx, .int .i64 c.win, .int .i64 c.bits, .int .u64 (c.seed:Int), .map none, .map (some base), .slice none 0 0, .map (some (base+1))] 122)
       rw[e2]at h3;have YG:W5.heap[base]? =(w4.alloc (.map #[] 0)).heap[base]? :=by rw[Hc]; exact(cP _ _ _ (by rw[e2]; omega)).trans (cP _ _ _ (by rw[e1]; omega))
       have Zd:W5.heap[base+1]? =((w4.alloc (.map #[] 0)).alloc (.map #[] 0)).heap[base+1]? :=by rw[Hc]; exact cP _ _ _ (by rw[e2]; omega)
       refine⟨⟨by rw[Hc]; exact h3,⟨[],rfl,bN _ _ _ _,by simp⟩,h2.same Zd⟩,⟨h1.same YG,by simp,by simp,ff,by simp⟩,fun d=>rfl, ?_⟩;rw[Hc,hk];exact((eN).alloc (by simp) _).alloc (by simp; omega) _
      have Yl:=an HC;have hR:w.heap.size+2<base:=by have:=az Hp.o; omega
      have hL:w.heap.size<=base:=by omega
      clear Hc a0 a1 a2 a3 a4 b0 b1 b2 b3 b4 Za hk HC;go_wp2_with fail
      go_loopw [64] (fun i wr=> ∃(j:Nat) (G:List Bw),j<=n/\i= .int .i64 (j:Int)/\BgI w4 base (base+1+1) base (base+1) k c (.map none) (tree.take j) wr G) (fun i _=>n-(intOf i).toNat)
      case atStart=>exact⟨0,[],aX _,rfl,Yl.o⟩
      case round=>
       obtain⟨j,G,hj,rfl,YC⟩:=hrel;rename_i wq;have hm:=an YC;clear YC Yl
       by_cases z8:j<n
       ·obtain⟨e,he⟩: ∃e,tree[j]? =some e:=⟨tree[j]'(by rw[<-HN.o]; exact z8),by simp⟩;have hM:Below w.heap.size w wr:=HU.o.trans (hm.o.below.mono hL);obtain⟨b,o,dv,rfl,-,-,Yz,HH,-,p0,p1,p2,p3,p4,p5⟩:=iF (dP.below HT.o hM) he;obtain⟨da,dc,rfl,-,-⟩:=dJ.slice Yz;have Yn:=an (show dJ (· <base) wr (.slice da e.data.length dc) e.data/\jE e from by
         obtain⟨b9,o9,dv9,z4,_,_,z3,_,_,_,_,_,_,YE,_⟩:=iF HT.o he
         cases z4
         have hq:=(hM.cell (p:=⟨b,o+j*6+4,none⟩) (bS (a:=⟨b,o+j*6+4,none⟩) YE)).trans YE;rw[p4]at hq
         cases hq
         have zz:=cE.lt' z3 (by decide);exact⟨cE.same (cE.weak (T:=(· <w.heap.size)) zz (fun _ h=>h)) (fun i hi=>hM.block i hi) |> fun h=>cE.weak h (fun i hi=>aR hi hL),HH⟩)
        have Hj:=Hr.o.val e (aS he);have y7:=cY Hj;have ZG:e.path.size<=512:=(mh Hj).1;obtain⟨q,hq⟩: ∃q:ByteArray,q=⟨(cu (bl e.path)).toArray⟩:=⟨_,rfl⟩;have HQ:=an hq;have H0:q.size<=maxLen:=by
         have h1:=pP (l:=bl e.path) (fun h=>by have:=pY y7; rw[h]at this; simp at this);rw[hq,bi,iu];rw[<-bi e.path]at h1;unfold maxLen;omega
        have Yo:=an he;have YF:=fun W hE=>kX e.path q W hE y7 hq
        have Y4:=an YF;have He:base<=wr.heap.size:=by have h1:=hm.o.grp.map.lt; omega
        have h7:7<=base:=aB HE.o.seven hL;clear Hj y7 hq Yz HH he YF
        go_upto_region 16 with(fail)
        obtain⟨W6,hB⟩: ∃W6:World,W6=wr.alloc (.cells #[.string e.path, .int .i64 e.kind, .int .i64 e.mode, .int .i64 e.time, .slice da e.data.length dc, .string e.link] 79):=⟨_,rfl⟩;rw[<-hB];have hC:Below wr.heap.size wr W6:=by rw[hB]; exact eN
        have Hu:=an hC;have Yu:=an (show W6.heap[wr.heap.size]? =some (.cells #[.string e.path, .int .i64 e.kind, .int .i64 e.mode, .int .i64 e.time, .slice da e.data.length dc, .string e.link] 79 (0,0)) by rw[hB]; exact dY wr _);have YX:=an (HE.o.keep (HU.o.trans ((hm.o.below.mono hL).trans (hC.mono (aB hL He)))) HE.o.seven);clear hB hC p0 p1 p2 p3 p4 p5;obtain⟨d0,d1,d2,d3,d4,d5,_⟩:=aT Yu.o
        go_wp2_with fail;refine(Y4.o W6 YX.o.env).mono ?_;rintro e' w7 ⟨rfl,y3⟩;have Y9:=an (dV y3 Yu.o);have YS:=an (aw Hu.o y3);clear y3 d0 d1 d2 d3 d4 d5;go_wp2_with fail;obtain⟨W8,Hz⟩: ∃W8:World,W8=w7.drew:=⟨_,rfl⟩;have y4:Below w7.heap.size w7 W8:=by rw[Hz]; exact(ay _ _).drew
        have Hv:=an (aw YS.o y4);have HX:=an (dV y4 Y9.o);have HJ:=jl.ofBelow (bb:=base+1+1) (kb:=base+1) (v:= .slice none 0 0) Hv.o He;have hs:=an (hm.o.bd.below Hv.o);have hu:=an (hm.o.grp.keep hm.o.bd HJ (by omega));have hc:=an hs.o.box;have hd:wr.heap.size<W8.heap.size:=az HX.o;have Hx:=an (show dJ (· <base) W8 (.slice da e.data.length dc) e.data/\jE e from⟨pE Yn.o.1 (Hv.o.mono He),Yn.o.2⟩)
        have ht:Tryz.prog.underlying 119=some (.map 9 46):=Tryz.underlying119;have HW:=an ht;clear ht y4 HJ;have k0:=aA (k:=0) hc.o;have k1:=aA (k:=1) hc.o;have k2:=aA (k:=2) hc.o;have k3:=aA (k:=3) hc.o;have k4:=aA (k:=4) hc.o;have k10:=aA (k:=10) hc.o;have k11:=aA (k:=11) hc.o;have k12:=aA (k:=12) hc.o;have k13:=aA (k:=13) hc.o
        simp only[nr,eI,fR,aM,aL,ak,am,aj]at k0 k1 k2 k3 k4 k10 k11 k12 k13;clear k0 k1 k2 k3 k4 k10 k12 k13;obtain⟨d0,d1,d2,d3,d4,d5,_⟩:=aT HX.o
        cases hf:G.find? (fun g=>decide (g.dir=q))with
        | none=>
         have HF:=an hf;clear hf;have Hi: ∀p∈G.map nP,p.1≠Value.string q:=by
          intro p hp e9;obtain⟨g9,z5,rfl⟩:=aW.1 hp;simp only[nP,eq]at e9;have:=eS.1 HF.o g9 z5;simp[e9]at this
         have Hy:=an Hi;have hY:=an (show ∀W:World,W.heap[base]? =W8.heap[base]? ->(Instr.lookup 119 (.map (some base)) (.string q) false).run Tryz.prog W= .ok (.slice none 0 0) W from fun W hW=>by
          have:=(hu.o.map.same hW).is.miss fX HW.o (show(zeroValue 46).run Tryz.prog W= .ok (.slice none 0 0) W by kernel_rfl) (iy H0) Hy.o false
          simpa using this)
         clear Hi;have h8:=an (show(Value.slice none 0 0).ownBlock≠some (base+1+1)/\(Value.slice none 0 0).ownBlock≠some wr.heap.size/\(Value.slice none 0 0).ownBlock≠some base from⟨by simp[Value.ownBlock],by simp[Value.ownBlock],by simp[Value.ownBlock]⟩);have yn:=an (show(Value.slice none 0 0).ownBlock≠some (base+1) by simp[Value.ownBlock]);have h0:=an (show ∀i,(Value.slice none 0 0).ownBlock=some i->base<=i from fun i hi=>by simp[Value.ownBlock]at hi)
         have hZ:=an (show(0:Nat)<1099511627775 by decide);have HK:=hY.o W8 rfl;refine ey (fun w'=>w'.cell? ⟨base+1+1,11,none⟩=some (.map (some base))/\(Instr.lookup 119 (.map (some base)) (.string (q)) false).run Tryz.prog w'= .ok (.slice none 0 0) w'/\w'.cell? ⟨wr.heap.size,0,none⟩=some (.string e.path)/\w'.cell? ⟨wr.heap.size,1,none⟩=some (.int .i64 e.kind)/\w'.cell? ⟨wr.heap.size,2,none⟩=some (.int .i64 e.mode)/\w'.cell? ⟨wr.heap.size,3,none⟩=some (.int .i64 e.time)/\w'.cell? ⟨wr.heap.size,4,none⟩=some (.slice da e.data.length dc)/\w'.cell? ⟨wr.heap.size,5,none⟩=some (.string e.link)) (by kernel_rfl) (by kernel_rfl) ?_
         simp only[bw,bz,aG,bo,Nat.reduceAdd,Nat.reduceSub];rw[<-Hz];clear Hz
         iterate 12 (refine cF rfl (by kernel_rfl) (fun _ _ _ h=>h) rfl ⟨k11,HK,d0,d1,d2,d3,d4,d5⟩ (by rintro w' ⟨Yc,Yd,Ye,Yf,YJ,Zg,Zh,Zi⟩; go_simp; rfl) ?_; simp only[Act.put,ag,ai,ah])
         have ho:=an ((ay W8.heap.size W8).alloc (au _) (.cells #[.string e.path, .int .i64 e.kind, .int .i64 e.mode, .int .i64 e.time, .slice da e.data.length dc, .string e.link] 79));have hz:base+1+1<W8.heap.size:=az hc.o;have hT:=aD ((ho.o.cell (p:=⟨base+1+1,11,none⟩) hz).trans k11) (aD (hY.o _ (ho.o.block base (by omega))) (aD ((ho.o.cell (p:=⟨wr.heap.size,0,none⟩) hd).trans d0) (aD ((ho.o.cell (p:=⟨wr.heap.size,1,none⟩) hd).trans d1) (aD ((ho.o.cell (p:=⟨wr.heap.size,2,none⟩) hd).trans d2) (aD ((ho.o.cell (p:=⟨wr.heap.size,3,none⟩) hd).trans d3) (aD ((ho.o.cell (p:=⟨wr.heap.size,4,none⟩) hd).trans d4) ((ho.o.cell (p:=⟨wr.heap.size,5,none⟩) hd).trans d5)))))))
         have Hq:=an hT;clear hT;refine cy 12 rfl (fun K hK=> ?_);go_wp2_with fail
         (first | (refine⟨Hq.o, ?_⟩) | skip)
         refine cy 13 rfl (fun K hK=> ?_);have Hm:base<=W8.heap.size:=by omega
         go_wp2_with (at_builtin; go_must (refine bR Tryz.appEnts rfl _ _ rfl base (.slice none 0 0) (0) ([]) rfl W8 [.string e.path, .int .i64 e.kind, .int .i64 e.mode, .int .i64 e.time, .slice da e.data.length dc, .string e.link] _ rfl rfl (kU (e:=e)) ((bN _ _ _ _)) hZ.o Hm ?_); intro v' wc hl ha _ HL; obtain⟨ae,ce,rfl,-,-⟩:=aI hl);have hG:=(ha.block (base+1+1) hz (fun e9=>h8.o.1 e9.symm)).trans hc.o
         have HP:=(ha.block wr.heap.size hd (fun e9=>h8.o.2.1 e9.symm)).trans HX.o;have Hh:=ha.block base (by omega) (fun e9=>h8.o.2.2 e9.symm);have hH:=hY.o wc Hh;have hD:=an hG;have yv:=an HP;have yc:=an Hh;have Ha:=an hl;have hh:=an ha;have Hb:=an HL;clear hG HP Hh hl ha HL HK k11 d0 d1 d2 d3 d4 d5;obtain⟨d0,d1,d2,d3,d4,d5,_⟩:=aT yv.o
         have k11:=aA (k:=11) hD.o;simp only[nr,eI,fR,aM,aL,ak,am,aj]at k11;refine⟨⟨k11,hH,d0,d1,d2,d3,d4,d5⟩, ?_⟩;refine cH (by kernel_rfl) ?_;refine eJ rfl rfl (fun K hK=> ?_);clear k11 hH d0 d1 d2 d3 d4 d5;have yl:=an (hu.o.map.same yc.o);go_wp2_with (at_mapUpdate; go_must (refine kB fX rfl _ _ _ _ rfl HW.o base (G.map nP) yl.o rfl (.string q) (.slice ae (0+1) ce) rfl rfl (iy H0) Hy.o ?_); intro w10 hI hw)
         have hv:=an hw;have hV:=an (hu.o.new (au _) H0 (y:=(.slice da e.data.length dc,e)) Hx.o Ha.o hh.o (fun i hi=>by
          rcases Hb.o i hi with h9 | h9
          ·simp[Value.ownBlock]at h9
          ·exact h9) hI hw)
         clear hI hw;have Hd:=hm.o.below.trans ((Hv.o.mono He).trans (((ay base W8).grown hh.o Hm (fun i hi=>h0.o i hi)).grown hv.o (aB Hm hh.o.size) (fun i hi=>by cases hi; exact au _)));have hF:=hs.o.nilKeep (w':=w10) ((hv.o.block _ (aR hz hh.o.size) (fun e9=>by have:=bK e9; omega)).trans (hD.o.trans hc.o.symm)) ((hv.o.block _ (aR hs.o.known.map.lt hh.o.size) (fun e9=>by have:=bK e9; omega)).trans (hh.o.block _ hs.o.known.map.lt (fun e9=>yn.o e9.symm)))
         go_roundw
         case rel=>
          refine⟨j+1,(G++[⟨q, .slice ae (0+1) ce,[(.slice da e.data.length dc,e)]⟩]),by omega,by go_num,⟨hF,hV.o,fun d=> ?_,Hd⟩⟩;rw[oy Yo.o];rw[wF (g:=⟨q, .slice ae (0+1) ce,[(.slice da e.data.length dc,e)]⟩) HF.o]
          by_cases hJ:q=d
          ·rw[if_pos hJ,if_pos (show cu (bl e.path)=bl d by rw[<-hJ,HQ.o]; exact(iu _).symm),<-hm.o.ents d,<-hJ,uI HF.o]
           rfl
          ·rw[if_neg hJ,if_neg (fun h9=>hJ (jP (by rw[HQ.o]; exact(iu _).trans h9))),cj];exact hm.o.ents d
         case measure=>simp[intOf]; omega
        | some g=>
         obtain⟨A,B,zl,z6,hA⟩: ∃A B,G=A++g::B/\g.dir=q/\ ∀x∈A,x.dir≠q:=by
          have h9:=List.find?_eq_some_iff_append.1 hf;obtain⟨h1,A,B,h2,h3⟩:=h9;exact⟨A,B,h2,by simpa using h1,fun x hx=>by simpa using h3 x hx⟩
         have Hf:=ow hf;subst z6;subst zl;have H9:=an Hf;have HA:=an hA;have Hg:=hu.o.own g (by simp);have HI:=hm.o.grp.own g (by simp);obtain⟨ga,gc,hU,ZI,-⟩:=aI Hg;have HZ:g.ents.length<=4096:=by
          have h1:=hm.o.ents g.dir;rw[Hf]at h1;have h2:=congrArg List.length h1;rw[aE]at h2;rw[h2];have h3:(gR (tree.take j) g.dir).length<=(tree.take j).length:=dF _ _;rw[bm]at h3;have h4:=Hr.o.len;omega
         obtain⟨gl,hQ⟩: ∃gl,gl=g.ents.length:=⟨_,rfl⟩;have YY:=an hQ;rw[<-hQ]at hU HZ;have hZ:=an (show gl<1099511627775 by omega);have YZ:=an (show W8.ownsRow base 79 6 (.slice ga gl gc) gl (iw g.ents) by rw[<-hU,hQ]; exact Hg);have Yp:=an hU;have h8:=an (show(Value.slice ga gl gc).ownBlock≠some (base+1+1)/\(Value.slice ga gl gc).ownBlock≠some wr.heap.size/\(Value.slice ga gl gc).ownBlock≠some base from by
          rw[<-hU];refine⟨fun e9=> ?_,fun e9=> ?_,fun e9=> ?_⟩
          ·obtain⟨cs2,HD⟩:=bL Hg e9;exact absurd (bV hc.o HD) (by decide)
          ·have:=(HI.lt _ e9).2;omega
          ·obtain⟨cs2,HD⟩:=bL Hg e9;exact hu.o.map.ncells HD)
         have yn:=an (show(Value.slice ga gl gc).ownBlock≠some (base+1)from by
          rw[<-hU];intro e9;obtain⟨cs2,HD⟩:=bL Hg e9;exact hs.o.known.cells HD)
         have h0:=an (show ∀i,(Value.slice ga gl gc).ownBlock=some i->base<=i from fun i hi=>by
          rw[<-hU]at hi;exact(Hg.lt i hi).1)
         have hY:=an (show ∀W:World,W.heap[base]? =W8.heap[base]? ->(Instr.lookup 119 (.map (some base)) (.string g.dir) false).run Tryz.prog W= .ok (.slice ga gl gc) W from fun W hW=>by
          have:=(hu.o.map.same hW).is.hit fX HW.o (iy H0) (val:=g.val) (aW.2 ⟨g,by simp,rfl⟩) false;rw[hU]at this
          simpa using this)
         clear hf Hf hA Hg HI hU hQ;have HK:=hY.o W8 rfl;refine ey (fun w'=>w'.cell? ⟨base+1+1,11,none⟩=some (.map (some base))/\(Instr.lookup 119 (.map (some base)) (.string (g.dir)) false).run Tryz.prog w'= .ok (.slice ga gl gc) w'/\w'.cell? ⟨wr.heap.size,0,none⟩=some (.string e.path)/\w'.cell? ⟨wr.heap.size,1,none⟩=some (.int .i64 e.kind)/\w'.cell? ⟨wr.heap.size,2,none⟩=some (.int .i64 e.mode)/\w'.cell? ⟨wr.heap.size,3,none⟩=some (.int .i64 e.time)/\w'.cell? ⟨wr.heap.size,4,none⟩=some (.slice da e.data.length dc)/\w'.cell? ⟨wr.heap.size,5,none⟩=some (.string e.link)) (by kernel_rfl) (by kernel_rfl) ?_
         simp only[bw,bz,aG,bo,Nat.reduceAdd,Nat.reduceSub];rw[<-Hz];clear Hz
         iterate 12 (refine cF rfl (by kernel_rfl) (fun _ _ _ h=>h) rfl ⟨k11,HK,d0,d1,d2,d3,d4,d5⟩ (by rintro w' ⟨Yc,Yd,Ye,Yf,YJ,Zg,Zh,Zi⟩; go_simp; rfl) ?_; simp only[Act.put,ag,ai,ah])
         have ho:=an ((ay W8.heap.size W8).alloc (au _) (.cells #[.string e.path, .int .i64 e.kind, .int .i64 e.mode, .int .i64 e.time, .slice da e.data.length dc, .string e.link] 79));have hz:base+1+1<W8.heap.size:=az hc.o;have hT:=aD ((ho.o.cell (p:=⟨base+1+1,11,none⟩) hz).trans k11) (aD (hY.o _ (ho.o.block base (by omega))) (aD ((ho.o.cell (p:=⟨wr.heap.size,0,none⟩) hd).trans d0) (aD ((ho.o.cell (p:=⟨wr.heap.size,1,none⟩) hd).trans d1) (aD ((ho.o.cell (p:=⟨wr.heap.size,2,none⟩) hd).trans d2) (aD ((ho.o.cell (p:=⟨wr.heap.size,3,none⟩) hd).trans d3) (aD ((ho.o.cell (p:=⟨wr.heap.size,4,none⟩) hd).trans d4) ((ho.o.cell (p:=⟨wr.heap.size,5,none⟩) hd).trans d5)))))))
         have Hq:=an hT;clear hT;refine cy 12 rfl (fun K hK=> ?_);go_wp2_with fail
         (first | (refine⟨Hq.o, ?_⟩) | skip)
         refine cy 13 rfl (fun K hK=> ?_);have Hm:base<=W8.heap.size:=by omega
         go_wp2_with (at_builtin; go_must (refine bR Tryz.appEnts rfl _ _ rfl base (.slice ga gl gc) (gl) ((iw g.ents)) rfl W8 [.string e.path, .int .i64 e.kind, .int .i64 e.mode, .int .i64 e.time, .slice da e.data.length dc, .string e.link] _ rfl rfl (kU (e:=e)) (YZ.o) hZ.o Hm ?_); intro v' wc hl ha _ HL; obtain⟨ae,ce,rfl,-,-⟩:=aI hl);have hG:=(ha.block (base+1+1) hz (fun e9=>h8.o.1 e9.symm)).trans hc.o
         have HP:=(ha.block wr.heap.size hd (fun e9=>h8.o.2.1 e9.symm)).trans HX.o;have Hh:=ha.block base (by omega) (fun e9=>h8.o.2.2 e9.symm);have hH:=hY.o wc Hh;have hD:=an hG;have yv:=an HP;have yc:=an Hh;have Ha:=an hl;have hh:=an ha;have Hb:=an HL;clear hG HP Hh hl ha HL HK k11 d0 d1 d2 d3 d4 d5;obtain⟨d0,d1,d2,d3,d4,d5,_⟩:=aT yv.o
         have k11:=aA (k:=11) hD.o;simp only[nr,eI,fR,aM,aL,ak,am,aj]at k11;refine⟨⟨k11,hH,d0,d1,d2,d3,d4,d5⟩, ?_⟩;refine cH (by kernel_rfl) ?_;refine eJ rfl rfl (fun K hK=> ?_);clear k11 hH d0 d1 d2 d3 d4 d5;have yl:=an (show je Tryz.prog 9 wc base (A.map nP++(.string g.dir,g.val)::B.map nP)from by
          have:=hu.o.map.same yc.o
          simpa [nP]using this)
         go_wp2_with (at_mapUpdate; go_must (refine qa fX rfl _ _ _ _ rfl HW.o base (A.map nP) (B.map nP) (.string g.dir) (.slice ae (gl+1) ce) g.val yl.o rfl rfl rfl ?_); intro w10 hI hw);have hv:=an hw;have hV:=an (hu.o.over (au _) (y:=(.slice da e.data.length dc,e)) Hx.o (by rw[<-YY.o]; exact Ha.o) (by rw[Yp.o]; exact hh.o) (by rw[Yp.o]; exact Hb.o) hI hw)
         clear hI hw;have Hd:=hm.o.below.trans ((Hv.o.mono He).trans (((ay base W8).grown hh.o Hm (fun i hi=>h0.o i hi)).grown hv.o (aB Hm hh.o.size) (fun i hi=>by cases hi; exact au _)));have hF:=hs.o.nilKeep (w':=w10) ((hv.o.block _ (aR hz hh.o.size) (fun e9=>by have:=bK e9; omega)).trans (hD.o.trans hc.o.symm)) ((hv.o.block _ (aR hs.o.known.map.lt hh.o.size) (fun e9=>by have:=bK e9; omega)).trans (hh.o.block _ hs.o.known.map.lt (fun e9=>yn.o e9.symm)))
         go_roundw
         case rel=>
          refine⟨j+1,(A++⟨g.dir, .slice ae (gl+1) ce,g.ents++[(.slice da e.data.length dc,e)]⟩::B),by omega,by go_num,⟨hF,hV.o,fun d=> ?_,Hd⟩⟩;rw[oy Yo.o];rw[uJ (A:=A) (B:=B) (g:=g) (g':=(⟨g.dir, .slice ae (gl+1) ce,g.ents++[((Value.slice da e.data.length dc,e):oV)]⟩:Bw)) rfl HA.o d]
          by_cases hJ:g.dir=d
          ·rw[if_pos hJ,if_pos (show cu (bl e.path)=bl d by rw[<-hJ,HQ.o]; exact(iu _).symm),<-hm.o.ents d,<-hJ,H9.o,aO]
           rfl
          ·rw[if_neg hJ,if_neg (fun h9=>hJ (jP (by rw[HQ.o]; exact(iu _).trans h9))),cj];exact hm.o.ents d
         case measure=>simp[intOf]; omega
       ·have z7:j=n:=by omega
        have HZ:Ee wr base base tree:=⟨G,hm.o.grp,fun d=>by have:=hm.o.ents d; rwa [show tree.take j=tree by rw[z7,HN.o,dg]]at this⟩;have He:base<=wr.heap.size:=by have h1:=hm.o.grp.map.lt; omega
        have h7:7<=base:=aB HE.o.seven hL;have y8: ∀p∈gs,0<=p.2/\p.2<=1099511627776:=fun p hp=>by have:=cz.1 Ht.o p hp; simpa using this
        have hX:KA base (base+1+1) (base+1) base k c gs tree (Il k gs c tree):=⟨Zn.o,Ym.o,hsd,y8,by omega,by omega,h7,by omega,Hr.o.val,Hr.o.len,Gf Ym.o Hr.o.len Hr.o.val,Gg,Gh⟩;have hM:Below w.heap.size w wr:=HU.o.trans (hm.o.below.mono hL);have YB:kR (· <base) wr (.map none) gs:=by
         rcases HG.o with⟨h1,h2⟩ | ⟨gb9,h1,_,h3⟩
         ·exact .inl ⟨h1,h2⟩
         ·exact .inr ⟨gb9,h1,aR h3.lt hL,h3.same (hM.block _ h3.lt)⟩
        have hP:=AX hX 514 (au _) ⟨#[]⟩ (.slice none 0 0) [] wr (by show 514<=0+514; omega) (.inl rfl) hm.o.bd YB HZ (by intro b hb; simp at hb) (HE.o.keep hM HE.o.seven) He;unfold Ay at hP;clear HZ hX YB
        cases Hs:gQ k gs c tree 514 ⟨#[]⟩with
        | error x9=>
         rw[Hs]at hP;have yb:=an (show ik k c tree gs= .error x9 by rw[Yr.o,Hs]);have HV:=an hP;clear hP Hs;go_wp2_with fail;refine HV.o.mono ?_;rintro e' w5 ⟨rfl,Yg,v5,bs5,hO,hy⟩;have HR:=an (hM.trans (hy.below.mono hL));have Hn:=an ((hy.below.block (w.heap.size+2) hR).trans ((hm.o.below.block (w.heap.size+2) hR).trans Hp.o));have za:=an Yg
         have e4:(x9 != 0)=true:=by simp[Yg]
         clear Yg hO hy hM
         go_upto_region 20 with(fail)
         obtain⟨W6,hB⟩: ∃W6:World,W6=w5.alloc (.cells #[.string ⟨#[]⟩, .int .i64 0, .int .i64 0] 26):=⟨_,rfl⟩;rw[<-hB];have hC:Below w5.heap.size w5 W6:=by rw[hB]; exact eN
         have Hu:=an (aw HR.o hC);have hS:=an (dV hC Hn.o);clear hC hB;obtain⟨z0,z1,z2,_⟩:=aT hS.o;obtain⟨y0,y1,y2,_⟩:=gu hS.o;go_wp2_with fail;refine jY hS.o rfl rfl rfl rfl ⟨gW Hu.o (by show w.heap.size<=w.heap.size+2; omega), ?_⟩;rw[yb.o];exact⟨rfl,za.o⟩
        | ok p=>
         rw[Hs]at hP
         dsimp only at hP
         have yb:=an (show ik k c tree gs= .ok (bD k gs p.1,et k gs p.2 []) by rw[Yr.o,Hs]);obtain⟨r,hr⟩: ∃r,r=bD k gs p.1:=⟨_,rfl⟩;rw[<-hr]at hP;have Y6:=an hr;have HV:=an hP;unfold fa at HV;clear hP Hs hr;go_wp2_with fail;refine HV.o.mono ?_;rintro e' w5 ⟨rfl,-,v5,hO,hy⟩;have HR:=an (hM.trans (hy.below.mono hL));have Hn:=an ((hy.below.block (w.heap.size+2) hR).trans ((hm.o.below.block (w.heap.size+2) hR).trans Hp.o))
         have H7:=an hO;clear hO hy hM
         go_upto_region 22 with(fail)
         obtain⟨W6,hB⟩: ∃W6:World,W6=(w5.alloc (.cells #[.string r.name, .int .i64 r.gen, .int .i64 r.size] 26)).drew:=⟨_,rfl⟩;have hC:Below w5.heap.size w5 W6:=by rw[hB]; exact(eN).drew
         have Hu:=an (aw HR.o hC);have hS:=an (dV hC Hn.o);have ya:=an (show W6.heap[w5.heap.size]? =some (.cells #[.string r.name, .int .i64 r.gen, .int .i64 r.size] 26 (0,0)) by rw[hB]; exact dY w5 _);have Hw:=an (H7.o.below hC);obtain⟨zs,YK,y5⟩:=Hw.o.own;obtain⟨va,vc,Zf,-,-⟩:=aI y5.row;subst Zf;have zc:=an YK;have YT:=an y5
         have H8:=an Hw.o.box;clear hC YK y5;have k12:=aA (k:=12) H8.o;have f0:=aA (k:=0) ya.o;have f1:=aA (k:=1) ya.o;have f2:=aA (k:=2) ya.o;simp only[nr,eI,fR,aM,aL,ak,am,aj]at k12 f0 f1 f2;obtain⟨z0,z1,z2,_⟩:=aT hS.o;obtain⟨y0,y1,y2,_⟩:=gu hS.o
         refine eH (fun w'=>w'.cell? ⟨base+1+1,12,none⟩=some (.slice va zs.length vc)/\w'.cell? ⟨w5.heap.size,0,none⟩=some (.string r.name)/\w'.cell? ⟨w5.heap.size,1,none⟩=some (.int .i64 r.gen)/\w'.cell? ⟨w5.heap.size,2,none⟩=some (.int .i64 r.size)) (by kernel_rfl) ?_;rw[<-hB];clear hB
         iterate 5 (refine cF rfl (by kernel_rfl) (fun _ _ _ h=>h) rfl ⟨k12,f0,f1,f2⟩ (by rintro w' ⟨Yc,Yd,Ye,Yf⟩; go_simp; rfl) ?_; simp only[Act.put,ag,ai,ah])
         refine cy 5 rfl (fun K hK=> ?_);have YJ:w.heap.size+1+1<w5.heap.size:=az Hn.o;have y6:base+1+1≠w.heap.size+1+1:=by omega
         have Hk:w5.heap.size≠w.heap.size+1+1:=by omega
         have hT:=fun(u0 u1 u2:Value)=>aD ((cA (a:=⟨base+1+1,12,none⟩) (eh (w:=W6) (x0:=u0) (x1:=u1) (x2:=u2) y6)).trans k12) (aD ((cA (a:=⟨w5.heap.size,0,none⟩) (eh (w:=W6) (x0:=u0) (x1:=u1) (x2:=u2) Hk)).trans f0) (aD ((cA (a:=⟨w5.heap.size,1,none⟩) (eh (w:=W6) (x0:=u0) (x1:=u1) (x2:=u2) Hk)).trans f1) ((cA (a:=⟨w5.heap.size,2,none⟩) (eh (w:=W6) (x0:=u0) (x1:=u1) (x2:=u2) Hk)).trans f2)))
         have Hq:=an hT;clear hT k12 f0 f1 f2;go_wp2_with fail;refine⟨Hq.o _ _ _, ?_⟩
         iterate 2 (refine cF rfl (by kernel_rfl) (fun _ _ _ h=>h) rfl (Hq.o _ _ _) (by rintro w' ⟨Yc,Yd,Ye,Yf⟩; go_simp; rfl) ?_; simp only[Act.put,ag,ai,ah])
         refine cH (by kernel_rfl) ?_;go_wp2_with fail;refine jY hS.o rfl rfl rfl rfl ⟨gW Hu.o (by show w.heap.size<=w.heap.size+2; omega), ?_⟩;rw[yb.o];refine⟨_,zs,by rw[<-Y6.o]; rfl,zc.o,YT.o.other hS.o (by decide) (by decide) hL (fun i hi=>eh hi)⟩
     ·have e1:(x != 0)=true:=by simp[Hl]
      have Yt:=an Hl;clear Hl;obtain⟨z0,z1,z2,_⟩:=aT Hp.o;obtain⟨y0,y1,y2,_⟩:=gu Hp.o;go_wp2_with fail;refine jY Hp.o rfl rfl rfl rfl ⟨gW HU.o (by show w.heap.size<=w.heap.size+2; omega), ?_⟩;rw[Yq.o,if_neg (by rw[hN.o]; exact Yt.o)];rw[hN.o];exact⟨rfl,Yt.o⟩
   ·have Zz:=an (YP.same (w':=w2) (Yh.o.block gb YP.lt));have ZH:gb<w.heap.size:=YP.lt;clear YP ZE;go_wp2_with (at_range; go_must (refine yI rfl _ _ rfl kW gb _ rfl Zz.o ?_); intro w0 y9 Yk ZN);obtain⟨r9,Zb⟩: ∃r9,r9=w2.heap.size:=⟨_,rfl⟩;rw[<-Zb]at y9 ⊢;have ZD:=an Zb;have YR:=an Yk;clear Zb ZN Yk
    go_frame
    go_loopw [14] (fun _ wr=> ∃vis,qm Tryz.prog 9 wr gb r9 (gs.map Ct) vis/\(∀p∈vis,∃z:Int,p.2= .int .i64 z/\0<=z/\z<=1099511627776)/\Below w2.heap.size w2 wr) (fun _ wr=>wr.rangeLeft gb r9)
    case atStart=>exact⟨[],y9,by simp,YR.o⟩
    case round=>
     obtain⟨vis,Zu,YI,Yw⟩:=hrel;have YM:=an Zu;have Ys:=an YI;have Ho:=an Yw;clear Zu YI Yw;go_wp2_with (at_next; go_must (refine Bv rfl _ rfl gb r9 _ _ rfl YM.o ?_ ?_))
     ·intro H2;have Ht:=an (show gs.all (fun p=>decide (0<=p.2) && decide (p.2<=1099511627776))=true from by
       rw[cz];intro p hp;obtain⟨z,Zw,ZQ,ZR⟩:=Ys.o (Ct p) (H2.mem_iff.2 (aW.2 ⟨p,hp,rfl⟩));simp only[Ct,Value.int.injEq,true_and]at Zw;subst Zw;simp[ZQ,ZR])
      have H6:=an (aw Yh.o Ho.o);have Y5:=an (dV Ho.o yp.o);have Y0:=an (dV Ho.o Zm.o);have YU:=an (dV Ho.o Zl.o);clear H2 YM y9
      go_upto_region 9 with(fail)
      have Yq:=an (show ik k c tree gs=(if iq tree=0 then(match gQ k gs c tree 514 ⟨#[]⟩with
       | .error x=> .error x
       | .ok p=> .ok (bD k gs p.1,et k gs p.2 []))
      else .error (iq tree)) by rw[Y2.o,if_pos Ht.o])
      have YH:dP S (wr) (.slice ta n tc) tree:=dP.below HT.o H6.o;have YA:=HE.o.below H6.o;obtain⟨x,hx⟩: ∃x,iq tree=x:=⟨_,rfl⟩;have Yy:=Gn S tree (.slice ta n tc) x (wr) YH YA.env hx;have YW:=an Yy;have hN:=an hx;clear YH YA Yy hx;go_wp2_with fail;refine YW.o.mono ?_;rintro e w4 ⟨rfl,HB⟩;have HU:=an (aw H6.o HB);have Hp:=an (dV HB Y5.o)
      have Y1:=an (dV HB Y0.o);have YV:=an (dV HB YU.o);clear HB
      by_cases Hl:x=0
      ·have e1:(x != 0)=false:=by simp[Hl]
       have Hr:=an (pD.1 (hN.o.trans Hl));have Yr:=an (show ik k c tree gs=(match gQ k gs c tree 514 ⟨#[]⟩with
        | .error x=> .error x
        | .ok p=> .ok (bD k gs p.1,et k gs p.2 [])) by rw[Yq.o,if_pos (hN.o.trans Hl)])
       clear Hl;obtain⟨a0,a1,a2,a3,a4,_⟩:=aT Y1.o;obtain⟨b0,b1,b2,b3,b4,_⟩:=aT YV.o;have Za:= @run_makeMap Tryz.prog
       go_upto_region 13 with(fail)
       obtain⟨W5,Hc⟩: ∃W5:World,W5=((w4.alloc (.map #[] 0)).alloc (.map #[] 0)).alloc (.cells #[.string k.nm, .string k.st, .string k.ck, .string k.ix, .string k.tk, .int .i64 c.mn, .int .i64 c.mx, .int .i64 c.win, .int .i64 c.bits, .int .u64 (c.seed:Int), .map (some gb), .map (some w4.heap.size), .slice none 0 0, .map (some (w4.heap.size+1))] 122):=⟨_,rfl⟩;rw[<-Hc];obtain⟨base,hk⟩: ∃base,base=w4.heap.size:=⟨_,rfl⟩
       rw[<-hk]at Hc ⊢;have Zx:=an hk;have HC:BgI w4 base (base+1+1) base (base+1) k c (.map (some gb)) [] W5 []:=by
        have e1:(w4.alloc (.map #[] 0)).heap.size=base+1:=by simp[hk]
        have e2:((w4.alloc (.map #[] 0)).alloc (.map #[] 0)).heap.size=base+1+1:=by simp[hk]
        have h1:=je.made (P:=Tryz.prog) (k:=9) w4;have h2:=jO.made (w4.alloc (.map #[] 0));rw[e1]at h2;rw[<-hk]at h1;have h3:=dY ((w4.alloc (.map #[] 0)).alloc (.map #[] 0)) (.cells #[.string k.nm, .string k.st, .string k.ck, .string k.ix, .string k.tk, .int .i64 c.mn, .int .i64 c.mx, .int .i64 c.win, .int .i64 c.bits, .int .u64 (c.seed:Int), .map (some gb), .map (some base), .slice none 0 0, .map (some (base+1))] 122)
        rw[e2]at h3;have YG:W5.heap[base]? =(w4.alloc (.map #[] 0)).heap[base]? :=by rw[Hc]; exact(cP _ _ _ (by rw[e2]; omega)).trans (cP _ _ _ (by rw[e1]; omega))
        have Zd:W5.heap[base+1]? =((w4.alloc (.map #[] 0)).alloc (.map #[] 0)).heap[base+1]? :=by rw[Hc]; exact cP _ _ _ (by rw[e2]; omega)
        refine⟨⟨by rw[Hc]; exact h3,⟨[],rfl,bN _ _ _ _,by simp⟩,h2.same Zd⟩,⟨h1.same YG,by simp,by simp,ff,by simp⟩,fun d=>rfl, ?_⟩;rw[Hc,hk];exact((eN).alloc (by simp) _).alloc (by simp; omega) _
       have Yl:=an HC;have hR:w.heap.size+2<base:=by have:=az Hp.o; omega
       have hL:w.heap.size<=base:=by omega
       clear Hc a0 a1 a2 a3 a4 b0 b1 b2 b3 b4 Za hk HC;go_wp2_with fail
       go_loopw [64] (fun i wr=> ∃(j:Nat) (G:List Bw),j<=n/\i= .int .i64 (j:Int)/\BgI w4 base (base+1+1) base (base+1) k c (.map (some gb)) (tree.take j) wr G) (fun i _=>n-(intOf i).toNat)
       case atStart=>exact⟨0,[],aX _,rfl,Yl.o⟩
       case round=>
        obtain⟨j,G,hj,rfl,YC⟩:=hrel;rename_i wq;have hm:=an YC;clear YC Yl
        by_cases z8:j<n
        ·obtain⟨e,he⟩: ∃e,tree[j]? =some e:=⟨tree[j]'(by rw[<-HN.o]; exact z8),by simp⟩;have hM:Below w.heap.size w wr:=HU.o.trans (hm.o.below.mono hL);obtain⟨b,o,dv,rfl,-,-,Yz,HH,-,p0,p1,p2,p3,p4,p5⟩:=iF (dP.below HT.o hM) he;obtain⟨da,dc,rfl,-,-⟩:=dJ.slice Yz;have Yn:=an (show dJ (· <base) wr (.slice da e.data.length dc) e.data/\jE e from by
          obtain⟨b9,o9,dv9,z4,_,_,z3,_,_,_,_,_,_,YE,_⟩:=iF HT.o he
          cases z4
          have hq:=(hM.cell (p:=⟨b,o+j*6+4,none⟩) (bS (a:=⟨b,o+j*6+4,none⟩) YE)).trans YE;rw[p4]at hq
          cases hq
          have zz:=cE.lt' z3 (by decide);exact⟨cE.same (cE.weak (T:=(· <w.heap.size)) zz (fun _ h=>h)) (fun i hi=>hM.block i hi) |> fun h=>cE.weak h (fun i hi=>aR hi hL),HH⟩)
         have Hj:=Hr.o.val e (aS he);have y7:=cY Hj;have ZG:e.path.size<=512:=(mh Hj).1;obtain⟨q,hq⟩: ∃q:ByteArray,q=⟨(cu (bl e.path)).toArray⟩:=⟨_,rfl⟩;have HQ:=an hq;have H0:q.size<=maxLen:=by
          have h1:=pP (l:=bl e.path) (fun h=>by have:=pY y7; rw[h]at this; simp at this);rw[hq,bi,iu];rw[<-bi e.path]at h1;unfold maxLen;omega
         have Yo:=an he;have YF:=fun W hE=>kX e.path q W hE y7 hq
         have Y4:=an YF;have He:base<=wr.heap.size:=by have h1:=hm.o.grp.map.lt; omega
         have h7:7<=base:=aB HE.o.seven hL;clear Hj y7 hq Yz HH he YF
         go_upto_region 16 with(fail)
         obtain⟨W6,hB⟩: ∃W6:World,W6=wr.alloc (.cells #[.string e.path, .int .i64 e.kind, .int .i64 e.mode, .int .i64 e.time, .slice da e.data.length dc, .string e.link] 79):=⟨_,rfl⟩;rw[<-hB];have hC:Below wr.heap.size wr W6:=by rw[hB]; exact eN
         have Hu:=an hC;have Yu:=an (show W6.heap[wr.heap.size]? =some (.cells #[.string e.path, .int .i64 e.kind, .int .i64 e.mode, .int .i64 e.time, .slice da e.data.length dc, .string e.link] 79 (0,0)) by rw[hB]; exact dY wr _);have YX:=an (HE.o.keep (HU.o.trans ((hm.o.below.mono hL).trans (hC.mono (aB hL He)))) HE.o.seven);clear hB hC p0 p1 p2 p3 p4 p5;obtain⟨d0,d1,d2,d3,d4,d5,_⟩:=aT Yu.o
         go_wp2_with fail;refine(Y4.o W6 YX.o.env).mono ?_;rintro e' w7 ⟨rfl,y3⟩;have Y9:=an (dV y3 Yu.o);have YS:=an (aw Hu.o y3);clear y3 d0 d1 d2 d3 d4 d5;go_wp2_with fail;obtain⟨W8,Hz⟩: ∃W8:World,W8=w7.drew:=⟨_,rfl⟩;have y4:Below w7.heap.size w7 W8:=by rw[Hz]; exact(ay _ _).drew
         have Hv:=an (aw YS.o y4);have HX:=an (dV y4 Y9.o);have HJ:=jl.ofBelow (bb:=base+1+1) (kb:=base+1) (v:= .slice none 0 0) Hv.o He;have hs:=an (hm.o.bd.below Hv.o);have hu:=an (hm.o.grp.keep hm.o.bd HJ (by omega));have hc:=an hs.o.box;have hd:wr.heap.size<W8.heap.size:=az HX.o;have Hx:=an (show dJ (· <base) W8 (.slice da e.data.length dc) e.data/\jE e from⟨pE Yn.o.1 (Hv.o.mono He),Yn.o.2⟩)
         have ht:Tryz.prog.underlying 119=some (.map 9 46):=Tryz.underlying119;have HW:=an ht;clear ht y4 HJ;have k0:=aA (k:=0) hc.o;have k1:=aA (k:=1) hc.o;have k2:=aA (k:=2) hc.o;have k3:=aA (k:=3) hc.o;have k4:=aA (k:=4) hc.o;have k10:=aA (k:=10) hc.o;have k11:=aA (k:=11) hc.o;have k12:=aA (k:=12) hc.o;have k13:=aA (k:=13) hc.o
         simp only[nr,eI,fR,aM,aL,ak,am,aj]at k0 k1 k2 k3 k4 k10 k11 k12 k13;clear k0 k1 k2 k3 k4 k10 k12 k13;obtain⟨d0,d1,d2,d3,d4,d5,_⟩:=aT HX.o
         cases hf:G.find? (fun g=>decide (g.dir=q))with
         | none=>
          have HF:=an hf;clear hf;have Hi: ∀p∈G.map nP,p.1≠Value.string q:=by
           intro p hp e9;obtain⟨g9,z5,rfl⟩:=aW.1 hp;simp only[nP,eq]at e9;have:=eS.1 HF.o g9 z5;simp[e9]at this
          have Hy:=an Hi;have hY:=an (show ∀W:World,W.heap[base]? =W8.heap[base]? ->(Instr.lookup 119 (.map (some base)) (.string q) false).run Tryz.prog W= .ok (.slice none 0 0) W from fun W hW=>by
           have:=(hu.o.map.same hW).is.miss fX HW.o (show(zeroValue 46).run Tryz.prog W= .ok (.slice none 0 0) W by kernel_rfl) (iy H0) Hy.o false
           simpa using this)
          clear Hi;have h8:=an (show(Value.slice none 0 0).ownBlock≠some (base+1+1)/\(Value.slice none 0 0).ownBlock≠some wr.heap.size/\(Value.slice none 0 0).ownBlock≠some base from⟨by simp[Value.ownBlock],by simp[Value.ownBlock],by simp[Value.ownBlock]⟩);have yn:=an (show(Value.slice none 0 0).ownBlock≠some (base+1) by simp[Value.ownBlock]);have h0:=an (show ∀i,(Value.slice none 0 0).ownBlock=some i->base<=i from fun i hi=>by simp[Value.ownBlock]at hi)
          have hZ:=an (show(0:Nat)<1099511627775 by decide);have HK:=hY.o W8 rfl;refine ey (fun w'=>w'.cell? ⟨base+1+1,11,none⟩=some (.map (some base))/\(Instr.lookup 119 (.map (some base)) (.string (q)) false).run Tryz.prog w'= .ok (.slice none 0 0) w'/\w'.cell? ⟨wr.heap.size,0,none⟩=some (.string e.path)/\w'.cell? ⟨wr.heap.size,1,none⟩=some (.int .i64 e.kind)/\w'.cell? ⟨wr.heap.size,2,none⟩=some (.int .i64 e.mode)/\w'.cell? ⟨wr.heap.size,3,none⟩=some (.int .i64 e.time)/\w'.cell? ⟨wr.heap.size,4,none⟩=some (.slice da e.data.length dc)/\w'.cell? ⟨wr.heap.size,5,none⟩=some (.string e.link)) (by kernel_rfl) (by kernel_rfl) ?_
          simp only[bw,bz,aG,bo,Nat.reduceAdd,Nat.reduceSub];rw[<-Hz];clear Hz
          iterate 12 (refine cF rfl (by kernel_rfl) (fun _ _ _ h=>h) rfl ⟨k11,HK,d0,d1,d2,d3,d4,d5⟩ (by rintro w' ⟨Yc,Yd,Ye,Yf,YJ,Zg,Zh,Zi⟩; go_simp; rfl) ?_; simp only[Act.put,ag,ai,ah])
          have ho:=an ((ay W8.heap.size W8).alloc (au _) (.cells #[.string e.path, .int .i64 e.kind, .int .i64 e.mode, .int .i64 e.time, .slice da e.data.length dc, .string e.link] 79));have hz:base+1+1<W8.heap.size:=az hc.o;have hT:=aD ((ho.o.cell (p:=⟨base+1+1,11,none⟩) hz).trans k11) (aD (hY.o _ (ho.o.block base (by omega))) (aD ((ho.o.cell (p:=⟨wr.heap.size,0,none⟩) hd).trans d0) (aD ((ho.o.cell (p:=⟨wr.heap.size,1,none⟩) hd).trans d1) (aD ((ho.o.cell (p:=⟨wr.heap.size,2,none⟩) hd).trans d2) (aD ((ho.o.cell (p:=⟨wr.heap.size,3,none⟩) hd).trans d3) (aD ((ho.o.cell (p:=⟨wr.heap.size,4,none⟩) hd).trans d4) ((ho.o.cell (p:=⟨wr.heap.size,5,none⟩) hd).trans d5)))))))
          have Hq:=an hT;clear hT;refine cy 12 rfl (fun K hK=> ?_);go_wp2_with fail
          (first | (refine⟨Hq.o, ?_⟩) | skip)
          refine cy 13 rfl (fun K hK=> ?_);have Hm:base<=W8.heap.size:=by omega
          go_wp2_with (at_builtin; go_must (refine bR Tryz.appEnts rfl _ _ rfl base (.slice none 0 0) (0) ([]) rfl W8 [.string e.path, .int .i64 e.kind, .int .i64 e.mode, .int .i64 e.time, .slice da e.data.length dc, .string e.link] _ rfl rfl (kU (e:=e)) ((bN _ _ _ _)) hZ.o Hm ?_); intro v' wc hl ha _ HL; obtain⟨ae,ce,rfl,-,-⟩:=aI hl)
          have hG:=(ha.block (base+1+1) hz (fun e9=>h8.o.1 e9.symm)).trans hc.o;have HP:=(ha.block wr.heap.size hd (fun e9=>h8.o.2.1 e9.symm)).trans HX.o;have Hh:=ha.block base (by omega) (fun e9=>h8.o.2.2 e9.symm);have hH:=hY.o wc Hh;have hD:=an hG;have yv:=an HP;have yc:=an Hh;have Ha:=an hl;have hh:=an ha;have Hb:=an HL
          clear hG HP Hh hl ha HL HK k11 d0 d1 d2 d3 d4 d5;obtain⟨d0,d1,d2,d3,d4,d5,_⟩:=aT yv.o;have k11:=aA (k:=11) hD.o;simp only[nr,eI,fR,aM,aL,ak,am,aj]at k11;refine⟨⟨k11,hH,d0,d1,d2,d3,d4,d5⟩, ?_⟩;refine cH (by kernel_rfl) ?_;refine eJ rfl rfl (fun K hK=> ?_)
          clear k11 hH d0 d1 d2 d3 d4 d5;have yl:=an (hu.o.map.same yc.o);go_wp2_with (at_mapUpdate; go_must (refine kB fX rfl _ _ _ _ rfl HW.o base (G.map nP) yl.o rfl (.string q) (.slice ae (0+1) ce) rfl rfl (iy H0) Hy.o ?_); intro w10 hI hw);have hv:=an hw;have hV:=an (hu.o.new (au _) H0 (y:=(.slice da e.data.length dc,e)) Hx.o Ha.o hh.o (fun i hi=>by
           rcases Hb.o i hi with h9 | h9
           ·simp[Value.ownBlock]at h9
           ·exact h9) hI hw)
          clear hI hw;have Hd:=hm.o.below.trans ((Hv.o.mono He).trans (((ay base W8).grown hh.o Hm (fun i hi=>h0.o i hi)).grown hv.o (aB Hm hh.o.size) (fun i hi=>by cases hi; exact au _)));have hF:=hs.o.nilKeep (w':=w10) ((hv.o.block _ (aR hz hh.o.size) (fun e9=>by have:=bK e9; omega)).trans (hD.o.trans hc.o.symm)) ((hv.o.block _ (aR hs.o.known.map.lt hh.o.size) (fun e9=>by have:=bK e9; omega)).trans (hh.o.block _ hs.o.known.map.lt (fun e9=>yn.o e9.symm)))
          go_roundw
          case rel=>
           refine⟨j+1,(G++[⟨q, .slice ae (0+1) ce,[(.slice da e.data.length dc,e)]⟩]),by omega,by go_num,⟨hF,hV.o,fun d=> ?_,Hd⟩⟩;rw[oy Yo.o];rw[wF (g:=⟨q, .slice ae (0+1) ce,[(.slice da e.data.length dc,e)]⟩) HF.o]
           by_cases hJ:q=d
           ·rw[if_pos hJ,if_pos (show cu (bl e.path)=bl d by rw[<-hJ,HQ.o]; exact(iu _).symm),<-hm.o.ents d,<-hJ,uI HF.o]
            rfl
           ·rw[if_neg hJ,if_neg (fun h9=>hJ (jP (by rw[HQ.o]; exact(iu _).trans h9))),cj];exact hm.o.ents d
          case measure=>simp[intOf]; omega
         | some g=>
          obtain⟨A,B,zl,z6,hA⟩: ∃A B,G=A++g::B/\g.dir=q/\ ∀x∈A,x.dir≠q:=by
           have h9:=List.find?_eq_some_iff_append.1 hf;obtain⟨h1,A,B,h2,h3⟩:=h9;exact⟨A,B,h2,by simpa using h1,fun x hx=>by simpa using h3 x hx⟩
          have Hf:=ow hf;subst z6;subst zl;have H9:=an Hf;have HA:=an hA;have Hg:=hu.o.own g (by simp);have HI:=hm.o.grp.own g (by simp);obtain⟨ga,gc,hU,ZI,-⟩:=aI Hg;have HZ:g.ents.length<=4096:=by
           have h1:=hm.o.ents g.dir;rw[Hf]at h1;have h2:=congrArg List.length h1;rw[aE]at h2;rw[h2];have h3:(gR (tree.take j) g.dir).length<=(tree.take j).length:=dF _ _;rw[bm]at h3;have h4:=Hr.o.len;omega
          obtain⟨gl,hQ⟩: ∃gl,gl=g.ents.length:=⟨_,rfl⟩;have YY:=an hQ;rw[<-hQ]at hU HZ;have hZ:=an (show gl<1099511627775 by omega);have YZ:=an (show W8.ownsRow base 79 6 (.slice ga gl gc) gl (iw g.ents) by rw[<-hU,hQ]; exact Hg);have Yp:=an hU;have h8:=an (show(Value.slice ga gl gc).ownBlock≠some (base+1+1)/\(Value.slice ga gl gc).ownBlock≠some wr.heap.size/\(Value.slice ga gl gc).ownBlock≠some base from by
           rw[<-hU];refine⟨fun e9=> ?_,fun e9=> ?_,fun e9=> ?_⟩
           ·obtain⟨cs2,HD⟩:=bL Hg e9;exact absurd (bV hc.o HD) (by decide)
           ·have:=(HI.lt _ e9).2;omega
           ·obtain⟨cs2,HD⟩:=bL Hg e9;exact hu.o.map.ncells HD)
          have yn:=an (show(Value.slice ga gl gc).ownBlock≠some (base+1)from by
           rw[<-hU];intro e9;obtain⟨cs2,HD⟩:=bL Hg e9;exact hs.o.known.cells HD)
          have h0:=an (show ∀i,(Value.slice ga gl gc).ownBlock=some i->base<=i from fun i hi=>by
           rw[<-hU]at hi;exact(Hg.lt i hi).1)
          have hY:=an (show ∀W:World,W.heap[base]? =W8.heap[base]? ->(Instr.lookup 119 (.map (some base)) (.string g.dir) false).run Tryz.prog W= .ok (.slice ga gl gc) W from fun W hW=>by
           have:=(hu.o.map.same hW).is.hit fX HW.o (iy H0) (val:=g.val) (aW.2 ⟨g,by simp,rfl⟩) false;rw[hU]at this
           simpa using this)
          clear hf Hf hA Hg HI hU hQ;have HK:=hY.o W8 rfl;refine ey (fun w'=>w'.cell? ⟨base+1+1,11,none⟩=some (.map (some base))/\(Instr.lookup 119 (.map (some base)) (.string (g.dir)) false).run Tryz.prog w'= .ok (.slice ga gl gc) w'/\w'.cell? ⟨wr.heap.size,0,none⟩=some (.string e.path)/\w'.cell? ⟨wr.heap.size,1,none⟩=some (.int .i64 e.kind)/\w'.cell? ⟨wr.heap.size,2,none⟩=some (.int .i64 e.mode)/\w'.cell? ⟨wr.heap.size,3,none⟩=some (.int .i64 e.time)/\w'.cell? ⟨wr.heap.size,4,none⟩=some (.slice da e.data.length dc)/\w'.cell? ⟨wr.heap.size,5,none⟩=some (.string e.link)) (by kernel_rfl) (by kernel_rfl) ?_
          simp only[bw,bz,aG,bo,Nat.reduceAdd,Nat.reduceSub];rw[<-Hz];clear Hz
          iterate 12 (refine cF rfl (by kernel_rfl) (fun _ _ _ h=>h) rfl ⟨k11,HK,d0,d1,d2,d3,d4,d5⟩ (by rintro w' ⟨Yc,Yd,Ye,Yf,YJ,Zg,Zh,Zi⟩; go_simp; rfl) ?_; simp only[Act.put,ag,ai,ah])
          have ho:=an ((ay W8.heap.size W8).alloc (au _) (.cells #[.string e.path, .int .i64 e.kind, .int .i64 e.mode, .int .i64 e.time, .slice da e.data.length dc, .string e.link] 79));have hz:base+1+1<W8.heap.size:=az hc.o;have hT:=aD ((ho.o.cell (p:=⟨base+1+1,11,none⟩) hz).trans k11) (aD (hY.o _ (ho.o.block base (by omega))) (aD ((ho.o.cell (p:=⟨wr.heap.size,0,none⟩) hd).trans d0) (aD ((ho.o.cell (p:=⟨wr.heap.size,1,none⟩) hd).trans d1) (aD ((ho.o.cell (p:=⟨wr.heap.size,2,none⟩) hd).trans d2) (aD ((ho.o.cell (p:=⟨wr.heap.size,3,none⟩) hd).trans d3) (aD ((ho.o.cell (p:=⟨wr.heap.size,4,none⟩) hd).trans d4) ((ho.o.cell (p:=⟨wr.heap.size,5,none⟩) hd).trans d5)))))))
          have Hq:=an hT;clear hT;refine cy 12 rfl (fun K hK=> ?_);go_wp2_with fail
          (first | (refine⟨Hq.o, ?_⟩) | skip)
          refine cy 13 rfl (fun K hK=> ?_);have Hm:base<=W8.heap.size:=by omega
          go_wp2_with (at_builtin; go_must (refine bR Tryz.appEnts rfl _ _ rfl base (.slice ga gl gc) (gl) ((iw g.ents)) rfl W8 [.string e.path, .int .i64 e.kind, .int .i64 e.mode, .int .i64 e.time, .slice da e.data.length dc, .string e.link] _ rfl rfl (kU (e:=e)) (YZ.o) hZ.o Hm ?_); intro v' wc hl ha _ HL; obtain⟨ae,ce,rfl,-,-⟩:=aI hl);have hG:=(ha.block (base+1+1) hz (fun e9=>h8.o.1 e9.symm)).trans hc.o
          have HP:=(ha.block wr.heap.size hd (fun e9=>h8.o.2.1 e9.symm)).trans HX.o;have Hh:=ha.block base (by omega) (fun e9=>h8.o.2.2 e9.symm);have hH:=hY.o wc Hh;have hD:=an hG;have yv:=an HP;have yc:=an Hh;have Ha:=an hl;have hh:=an ha;have Hb:=an HL;clear hG HP Hh hl ha HL HK k11 d0 d1 d2 d3 d4 d5;obtain⟨d0,d1,d2,d3,d4,d5,_⟩:=aT yv.o
          have k11:=aA (k:=11) hD.o;simp only[nr,eI,fR,aM,aL,ak,am,aj]at k11;refine⟨⟨k11,hH,d0,d1,d2,d3,d4,d5⟩, ?_⟩;refine cH (by kernel_rfl) ?_;refine eJ rfl rfl (fun K hK=> ?_);clear k11 hH d0 d1 d2 d3 d4 d5;have yl:=an (show je Tryz.prog 9 wc base (A.map nP++(.string g.dir,g.val)::B.map nP)from by
           have:=hu.o.map.same yc.o
           simpa [nP]using this)
          go_wp2_with (at_mapUpdate; go_must (refine qa fX rfl _ _ _ _ rfl HW.o base (A.map nP) (B.map nP) (.string g.dir) (.slice ae (gl+1) ce) g.val yl.o rfl rfl rfl ?_); intro w10 hI hw);have hv:=an hw;have hV:=an (hu.o.over (au _) (y:=(.slice da e.data.length dc,e)) Hx.o (by rw[<-YY.o]; exact Ha.o) (by rw[Yp.o]; exact hh.o) (by rw[Yp.o]; exact Hb.o) hI hw)
          clear hI hw;have Hd:=hm.o.below.trans ((Hv.o.mono He).trans (((ay base W8).grown hh.o Hm (fun i hi=>h0.o i hi)).grown hv.o (aB Hm hh.o.size) (fun i hi=>by cases hi; exact au _)));have hF:=hs.o.nilKeep (w':=w10) ((hv.o.block _ (aR hz hh.o.size) (fun e9=>by have:=bK e9; omega)).trans (hD.o.trans hc.o.symm)) ((hv.o.block _ (aR hs.o.known.map.lt hh.o.size) (fun e9=>by have:=bK e9; omega)).trans (hh.o.block _ hs.o.known.map.lt (fun e9=>yn.o e9.symm)))
          go_roundw
          case rel=>
           refine⟨j+1,(A++⟨g.dir, .slice ae (gl+1) ce,g.ents++[(.slice da e.data.length dc,e)]⟩::B),by omega,by go_num,⟨hF,hV.o,fun d=> ?_,Hd⟩⟩;rw[oy Yo.o];rw[uJ (A:=A) (B:=B) (g:=g) (g':=(⟨g.dir, .slice ae (gl+1) ce,g.ents++[((Value.slice da e.data.length dc,e):oV)]⟩:Bw)) rfl HA.o d]
           by_cases hJ:g.dir=d
           ·rw[if_pos hJ,if_pos (show cu (bl e.path)=bl d by rw[<-hJ,HQ.o]; exact(iu _).symm),<-hm.o.ents d,<-hJ,H9.o,aO]
            rfl
           ·rw[if_neg hJ,if_neg (fun h9=>hJ (jP (by rw[HQ.o]; exact(iu _).trans h9))),cj];exact hm.o.ents d
          case measure=>simp[intOf]; omega
        ·have z7:j=n:=by omega
         have HZ:Ee wr base base tree:=⟨G,hm.o.grp,fun d=>by have:=hm.o.ents d; rwa [show tree.take j=tree by rw[z7,HN.o,dg]]at this⟩;have He:base<=wr.heap.size:=by have h1:=hm.o.grp.map.lt; omega
         have h7:7<=base:=aB HE.o.seven hL;have y8: ∀p∈gs,0<=p.2/\p.2<=1099511627776:=fun p hp=>by have:=cz.1 Ht.o p hp; simpa using this
         have hX:KA base (base+1+1) (base+1) base k c gs tree (Il k gs c tree):=⟨Zn.o,Ym.o,hsd,y8,by omega,by omega,h7,by omega,Hr.o.val,Hr.o.len,Gf Ym.o Hr.o.len Hr.o.val,Gg,Gh⟩;have hM:Below w.heap.size w wr:=HU.o.trans (hm.o.below.mono hL);have YB:kR (· <base) wr (.map (some gb)) gs:=by
          rcases HG.o with⟨h1,h2⟩ | ⟨gb9,h1,_,h3⟩
          ·exact .inl ⟨h1,h2⟩
          ·exact .inr ⟨gb9,h1,aR h3.lt hL,h3.same (hM.block _ h3.lt)⟩
         have hP:=AX hX 514 (au _) ⟨#[]⟩ (.slice none 0 0) [] wr (by show 514<=0+514; omega) (.inl rfl) hm.o.bd YB HZ (by intro b hb; simp at hb) (HE.o.keep hM HE.o.seven) He;unfold Ay at hP;clear HZ hX YB
         cases Hs:gQ k gs c tree 514 ⟨#[]⟩with
         | error x9=>
          rw[Hs]at hP;have yb:=an (show ik k c tree gs= .error x9 by rw[Yr.o,Hs]);have HV:=an hP;clear hP Hs;go_wp2_with fail;refine HV.o.mono ?_;rintro e' w5 ⟨rfl,Yg,v5,bs5,hO,hy⟩;have HR:=an (hM.trans (hy.below.mono hL));have Hn:=an ((hy.below.block (w.heap.size+2) hR).trans ((hm.o.below.block (w.heap.size+2) hR).trans Hp.o));have za:=an Yg
          have e4:(x9 != 0)=true:=by simp[Yg]
          clear Yg hO hy hM
          go_upto_region 20 with(fail)
          obtain⟨W6,hB⟩: ∃W6:World,W6=w5.alloc (.cells #[.string ⟨#[]⟩, .int .i64 0, .int .i64 0] 26):=⟨_,rfl⟩;rw[<-hB];have hC:Below w5.heap.size w5 W6:=by rw[hB]; exact eN
          have Hu:=an (aw HR.o hC);have hS:=an (dV hC Hn.o);clear hC hB;obtain⟨z0,z1,z2,_⟩:=aT hS.o;obtain⟨y0,y1,y2,_⟩:=gu hS.o;go_wp2_with fail;refine jY hS.o rfl rfl rfl rfl ⟨gW Hu.o (by show w.heap.size<=w.heap.size+2; omega), ?_⟩;rw[yb.o];exact⟨rfl,za.o⟩
         | ok p=>
          rw[Hs]at hP
          dsimp only at hP
          have yb:=an (show ik k c tree gs= .ok (bD k gs p.1,et k gs p.2 []) by rw[Yr.o,Hs]);obtain⟨r,hr⟩: ∃r,r=bD k gs p.1:=⟨_,rfl⟩;rw[<-hr]at hP;have Y6:=an hr;have HV:=an hP;unfold fa at HV;clear hP Hs hr;go_wp2_with fail;refine HV.o.mono ?_;rintro e' w5 ⟨rfl,-,v5,hO,hy⟩;have HR:=an (hM.trans (hy.below.mono hL));have Hn:=an ((hy.below.block (w.heap.size+2) hR).trans ((hm.o.below.block (w.heap.size+2) hR).trans Hp.o))
          have H7:=an hO;clear hO hy hM
          go_upto_region 22 with(fail)
          obtain⟨W6,hB⟩: ∃W6:World,W6=(w5.alloc (.cells #[.string r.name, .int .i64 r.gen, .int .i64 r.size] 26)).drew:=⟨_,rfl⟩;have hC:Below w5.heap.size w5 W6:=by rw[hB]; exact(eN).drew
          have Hu:=an (aw HR.o hC);have hS:=an (dV hC Hn.o);have ya:=an (show W6.heap[w5.heap.size]? =some (.cells #[.string r.name, .int .i64 r.gen, .int .i64 r.size] 26 (0,0)) by rw[hB]; exact dY w5 _);have Hw:=an (H7.o.below hC);obtain⟨zs,YK,y5⟩:=Hw.o.own;obtain⟨va,vc,Zf,-,-⟩:=aI y5.row;subst Zf;have zc:=an YK;have YT:=an y5
          have H8:=an Hw.o.box;clear hC YK y5;have k12:=aA (k:=12) H8.o;have f0:=aA (k:=0) ya.o;have f1:=aA (k:=1) ya.o;have f2:=aA (k:=2) ya.o;simp only[nr,eI,fR,aM,aL,ak,am,aj]at k12 f0 f1 f2;obtain⟨z0,z1,z2,_⟩:=aT hS.o;obtain⟨y0,y1,y2,_⟩:=gu hS.o
          refine eH (fun w'=>w'.cell? ⟨base+1+1,12,none⟩=some (.slice va zs.length vc)/\w'.cell? ⟨w5.heap.size,0,none⟩=some (.string r.name)/\w'.cell? ⟨w5.heap.size,1,none⟩=some (.int .i64 r.gen)/\w'.cell? ⟨w5.heap.size,2,none⟩=some (.int .i64 r.size)) (by kernel_rfl) ?_;rw[<-hB];clear hB
          iterate 5 (refine cF rfl (by kernel_rfl) (fun _ _ _ h=>h) rfl ⟨k12,f0,f1,f2⟩ (by rintro w' ⟨Yc,Yd,Ye,Yf⟩; go_simp; rfl) ?_; simp only[Act.put,ag,ai,ah])
          refine cy 5 rfl (fun K hK=> ?_);have YJ:w.heap.size+1+1<w5.heap.size:=az Hn.o;have y6:base+1+1≠w.heap.size+1+1:=by omega
          have Hk:w5.heap.size≠w.heap.size+1+1:=by omega
          have hT:=fun(u0 u1 u2:Value)=>aD ((cA (a:=⟨base+1+1,12,none⟩) (eh (w:=W6) (x0:=u0) (x1:=u1) (x2:=u2) y6)).trans k12) (aD ((cA (a:=⟨w5.heap.size,0,none⟩) (eh (w:=W6) (x0:=u0) (x1:=u1) (x2:=u2) Hk)).trans f0) (aD ((cA (a:=⟨w5.heap.size,1,none⟩) (eh (w:=W6) (x0:=u0) (x1:=u1) (x2:=u2) Hk)).trans f1) ((cA (a:=⟨w5.heap.size,2,none⟩) (eh (w:=W6) (x0:=u0) (x1:=u1) (x2:=u2) Hk)).trans f2)))
          have Hq:=an hT;clear hT k12 f0 f1 f2;go_wp2_with fail;refine⟨Hq.o _ _ _, ?_⟩
          iterate 2 (refine cF rfl (by kernel_rfl) (fun _ _ _ h=>h) rfl (Hq.o _ _ _) (by rintro w' ⟨Yc,Yd,Ye,Yf⟩; go_simp; rfl) ?_; simp only[Act.put,ag,ai,ah])
          refine cH (by kernel_rfl) ?_;go_wp2_with fail;refine jY hS.o rfl rfl rfl rfl ⟨gW Hu.o (by show w.heap.size<=w.heap.size+2; omega), ?_⟩;rw[yb.o];refine⟨_,zs,by rw[<-Y6.o]; rfl,zc.o,YT.o.other hS.o (by decide) (by decide) hL (fun i hi=>eh hi)⟩
      ·have e1:(x != 0)=true:=by simp[Hl]
       have Yt:=an Hl;clear Hl;obtain⟨z0,z1,z2,_⟩:=aT Hp.o;obtain⟨y0,y1,y2,_⟩:=gu Hp.o;go_wp2_with fail;refine jY Hp.o rfl rfl rfl rfl ⟨gW HU.o (by show w.heap.size<=w.heap.size+2; omega), ?_⟩;rw[Yq.o,if_neg (by rw[hN.o]; exact Yt.o)];rw[hN.o];exact⟨rfl,Yt.o⟩
     ·intro key v1 w1' a0 e0 YD Zv Hi Ya Zr YG ZT;simp only[Ct,cW]at Zv;obtain⟨rfl,rfl⟩:=Zv;have Y3:=an YD;have Y7:=an Ya;have Zc:w2.heap.size<=r9:=by have:=ZD.o; omega
      have Yv:Below w2.heap.size w2 w1':=Ho.o.grown Zr Ho.o.size (fun i hi=>by cases hi; exact Zc);have H5:=an Yv;have z9:wr.rangeLeft gb r9=(gs.map Ct).length-vis.length:=by have:=YM.o.left; omega
      have H4:w1'.rangeLeft gb r9+(vis++[(Value.string a0,Value.int .i64 e0)]).length=(gs.map Ct).length:=Ya.left;have ZC:=an (show w1'.rangeLeft gb r9<wr.rangeLeft gb r9 by
       have h1:=YM.o.left;rw[ar,bQ]at H4
       omega)
      clear YD Hi Ya Zr YG Yv z9 H4
      by_cases YQ:0<=e0/\e0<=1099511627776
      ·obtain⟨ZL,ZM⟩:=YQ;have HO:=an (aD ZL ZM);go_wp2_with fail
       go_roundw
       case rel=>
        refine⟨_,Y7.o,fun p hp=> ?_,H5.o⟩
        rcases aU.1 hp with hp | hp
        ·exact Ys.o p hp
        ·rw[aQ]at hp;subst hp;exact⟨e0,rfl,HO.o.1,HO.o.2⟩
       case measure=>exact ZC.o
      ·have Zp:=an (show ik k c tree gs= .error 1 by
        rw[Y2.o,if_neg];intro h9;have:=cz.1 h9 _ Y3.o;simp only[aJ,aK]at this;exact YQ this)
       have Hn:=an (dV H5.o yp.o);have HR:=an (aw Yh.o H5.o);obtain⟨z0,z1,z2,_⟩:=aT Hn.o;obtain⟨y0,y1,y2,_⟩:=gu Hn.o
       by_cases ZJ:e0<0
       ·clear YQ;go_wp2_with fail;refine jY Hn.o rfl rfl rfl rfl ⟨gW HR.o (by show w.heap.size<=w.heap.size+2; omega), ?_⟩;rw[Zp.o];exact⟨rfl,by decide⟩
       ·have ZF:1099511627776<e0:=by omega
        clear YQ;go_wp2_with fail;refine jY Hn.o rfl rfl rfl rfl ⟨gW HR.o (by show w.heap.size<=w.heap.size+2; omega), ?_⟩;rw[Zp.o];exact⟨rfl,by decide⟩
theorem vJ {W:World} {b n sz:Nat} {cells:List Value} {t:TypeId} (h:W.heap[b]? =some (.cells cells.toArray t (0,0))) (hl:cells.length=n*sz) (hn:n<=maxLen):cE (fun k=>k=b) W sz (.slice (some ⟨b,0,none⟩) n n) n cells:=
 ⟨hl,some ⟨b,0,none⟩,n,rfl,au _,hn, .inr ⟨b,0,rfl,rfl,fun j u hj=>by rw[bH h,bX,ak]; exact hj⟩⟩
theorem ir {S:Nat->Prop} {w:World} {v:Value} {bs:List UInt8} (h:bG S w v bs):(convert 29 9 v).run Tryz.prog w= .ok (.string ⟨bs.toArray⟩) w:=by
 have h1:=yX (S:=S) (w:=w) (v:=v) (bs:=bs) h;rw[xH]at h1;exact h1
theorem Lg (w:World) (c:UInt8):(convert 29 9 (.slice (some ⟨w.heap.size,0,none⟩) 1 1)).run Tryz.prog (w.alloc (.cells #[.int .u8 (c.toNat:Int)] 5))= .ok (.string ⟨#[c]⟩) (w.alloc (.cells #[.int .u8 (c.toNat:Int)] 5)):=by
 have h:=ir (S:=fun _=>True) (bs:=[c]) (w:=w.alloc (.cells #[.int .u8 (c.toNat:Int)] 5)) (v:= .slice (some ⟨w.heap.size,0,none⟩) 1 1) ((vJ (cells:=[aY c]) (aH w _) rfl (by decide)).weak (fun _ _=>trivial));exact h
theorem sV (c:UInt8) (w:World):Calls Tryz.prog 93 #[.int .u8 (c.toNat:Int)] w fun e w'=>e= .returned (.string (wS c))/\Below w.heap.size w w':=by
 have ha:=Lg w c
 go_enter Tryz.func93,Tryz.ntmps93
 go_wp2_with fail;go_ret;refine⟨?_,eN⟩
 rfl
theorem sW (w:World):Calls Tryz.prog 33 #[] w fun e w'=>e= .returned (kt eZ)/\Below w.heap.size w w':=by
 have hc:=an ((ay w.heap.size w).alloc (au _) (.cells #[.string ⟨#[]⟩, .string ⟨#[]⟩, .string ⟨#[]⟩, .string ⟨#[]⟩, .string ⟨#[]⟩] 42));have he:=an (dY w (.cells #[.string ⟨#[]⟩, .string ⟨#[]⟩, .string ⟨#[]⟩, .string ⟨#[]⟩, .string ⟨#[]⟩] 42))
 go_enter Tryz.func33,Tryz.ntmps33
 go_wp2_with fail;refine(sV 110 _).mono ?_;rintro e wk ⟨rfl,ha⟩;have hd:=an (aw hc.o ha);have hf:=an (dV ha he.o);clear ha hc he;have hc:=hd;have he:=hf;clear hd hf;go_wp2_with fail;refine(sV 115 _).mono ?_;rintro e wk ⟨rfl,ha⟩;have hd:=an (aw hc.o ha);have hf:=an (dV ha he.o);clear ha hc he;have hc:=hd;have he:=hf;clear hd hf
 go_wp2_with fail;refine(sV 99 _).mono ?_;rintro e wk ⟨rfl,ha⟩;have hd:=an (aw hc.o ha);have hf:=an (dV ha he.o);clear ha hc he;have hc:=hd;have he:=hf;clear hd hf;go_wp2_with fail;refine(sV 105 _).mono ?_;rintro e wk ⟨rfl,ha⟩;have hd:=an (aw hc.o ha);have hf:=an (dV ha he.o);clear ha hc he;have hc:=hd;have he:=hf;clear hd hf
 go_wp2_with fail;refine(sV 116 _).mono ?_;rintro e wk ⟨rfl,ha⟩;have hd:=an (aw hc.o ha);have hx:=dV ha he.o;obtain⟨c0,c1,c2,c3,c4,_⟩:=aT hx;obtain⟨f0,f1,f2,f3,f4,_⟩:=gu hx;have h5:=jf (k:=4) (jf (k:=3) (jf (k:=2) (jf (k:=1) (jf (k:=0) hx (.string (wS 110))) (.string (wS 115))) (.string (wS 99))) (.string (wS 105))) (.string (wS 116))
 simp only[ag,ai,ah]at h5;have H5:=an h5;clear ha hx h5;go_wp2_with fail;obtain⟨m0,m1,m2,m3,m4,_⟩:=aT H5.o;refine cN (v:=kt eZ) (by simp[results,Tryz.results33,go_sem,m0,m1,m2,m3,m4]; rfl) rfl ⟨rfl, ?_⟩;have hb:w.heap.size<=w.heap.size:=au _;exact cC (cC (cC (cC (cC hd.o hb _) hb _) hb _) hb _) hb _
theorem ou (w:World):Calls Tryz.prog 34 #[] w fun e w'=>e= .returned (ko kF)/\Below w.heap.size w w':=by
 have hx:=dY w (.cells #[.int .i64 2, .int .i64 6, .int .i64 1, .int .i64 1, .int .u64 0] 45);obtain⟨m0,m1,m2,m3,m4,_⟩:=aT hx;have M:=an (aD m0 (aD m1 (aD m2 (aD m3 m4))));clear hx m0 m1 m2 m3 m4
 go_enter Tryz.func34,Tryz.ntmps34
 go_wp2_with fail;obtain⟨m0,m1,m2,m3,m4⟩:=M.o;exact cN (v:=ko kF) (by simp[results,Tryz.results34,go_sem,m0,m1,m2,m3,m4]; rfl) rfl ⟨rfl,eN⟩
end Go.Proofs.YtpffpjbkbaleiaaGreatDoor
namespace Go.Proofs.YtpffpjbkbaleiaaGreatDoor
open Go Go.RowKit
def rr :Array Value:=(pX.list.map fc).toArray
theorem MT :Tryz.prog.built 216 ((pX.list.map fc).zipIdx.map fun p=>(p.2,p.1))=some rr:=by kernel_rfl
section
variable {P : Program} {ops : Array Oper} {Q : Exit → Act → World → Prop} {S : World → Prop}
theorem IU {dst:Option Tmp} {op:Op} {ty:TypeId} {pos:String} {aft:Array Edge} {g:Option (Nat×Bool)} {v:Value} {fuel:Nat} {listed:Array Bool} {a:Act} {w:World} (i:Nat) (hi:ops[i]? =some ⟨dst,op,ty,pos,aft,g⟩)
  (hs:Region.noSelect ops=true) (hf:Region.free .any ops listed i=true) (hr:(Region.ready .any ops listed).contains i=true)
  (hQ: ∀c a w,Q (.panic c) (a.put dst v) w->Q (.panic c) a w) (hY:YieldsIf P ops S ⟨dst,op,ty,pos,aft,g⟩ v a) (hS:S w)
  (h:qk P ops Q S fuel (listed.setIfInBounds i true) (a.put dst v) w):qk P ops Q S (fuel+1) listed a w:=
 qk.of (wpAnyH_take (oi:=⟨dst,op,ty,pos,aft,g⟩) hi hs hf hr hQ hY hS h.out)
end
theorem El {S:Nat->Prop} {w:World} {a:Option Addr} {n cap:Nat} {bs:List UInt8} (h:bG S w (.slice a n cap) bs) (h0:0<bs.length): ∃b o,a=some ⟨b,o,none⟩/\n=bs.length/\n<=cap/\cap<=maxLen/\ ∀j x,bs[j]? =some x->w.cell? ⟨b,o+j,none⟩=some (u8W x):=by
 obtain⟨hl,a0,cap0,hv,hn,hm,h1⟩:=h
 cases hv
 rcases h1 with h1 | ⟨b,o,rfl,hS,hc⟩
 ·omega
 ·exact⟨b,o,rfl,rfl,hn,hm,fun j x hj=>hc j _ (by rw[bn,hj]; rfl)⟩
theorem DN (S:Nat->Prop) (v:Value) (data:List UInt8) (w:World) (hv:bG S w v data) (hl:data.length<549755813888):
  Calls Tryz.prog 206 #[v] w fun e w'=>e= .returned (.string ⟨(pV data).toArray⟩)/\Below w.heap.size w w':=by
 obtain⟨W0,hy⟩: ∃W0:World,W0=(w.alloc (.cells (List.replicate 8 (fc 0)).toArray 216)).setRow w.heap.size rr:=⟨_,rfl⟩;have hM:=an (show Below w.heap.size w W0 by rw[hy]; exact er (eN) (au _) _);have hP:=an (show W0.heap[w.heap.size]? =some (.cells rr 216 (0,0)) by rw[hy]; exact dW _ _ _ _ _ _ (aH w _));have HV:=an hv
 clear hv
 go_enter Tryz.func206,Tryz.ntmps206
 go_upto_region 2 with(first | (refine iH rfl 216 _ rfl ((pX.list.map fc).zipIdx.map fun p=>(p.2,p.1)) (by kernel_rfl) rr MT ?_) | (refine du rfl 216 _ _ rfl w.heap.size rr rfl rfl _ _ (aH w _) (by kernel_rfl) (by kernel_rfl) (by kernel_rfl) ?_) | fail)
 change Code.wp _ _ _ _ ((w.alloc (.cells (List.replicate 8 (fc 0)).toArray 216)).setRow w.heap.size rr)
 rw[<-hy];clear hy;go_wp2_with fail;refine(Md S v data W0 (cE.below HV.o (by omega) hM.o) hl).mono ?_;rintro e w1 ⟨a,c,rfl,ho,hI⟩;have HO:=an ho;have hN:=an (aw hM.o hI);have Hb:=an (dV hI hP.o);obtain⟨p,hp⟩: ∃p,p=data++pn data.length:=⟨_,rfl⟩;rw[<-hp]at HO ⊢;have HP:=an hp;have hL:p.length%64=0:=by rw[hp]; exact Jz data
 have hr:p.length<1099511627775:=by rw[hp,ar,xm]; unfold iI; omega
 obtain⟨q,hq⟩: ∃q,q=p.length/64:=⟨_,rfl⟩;obtain⟨n,hn⟩: ∃n,n=p.length:=⟨_,rfl⟩;rw[<-hn]at HO hL hr hq ⊢;have HN:=an hn;have HQ:=an hq;clear ho hI hp hn;have hF:=an (show lu w.heap.size w1 w1 (jQ p 0)from⟨Hb.o,⟨rfl,rfl,rfl,au _,fun _ _ _=>rfl⟩⟩);go_wp2_with fail
 go_loopw [5] (fun i wr=> ∃k:Nat,k<=q/\i= .int .i64 (((64*k:Nat):Int))/\lu w.heap.size w1 wr (jQ p k)) (fun i _=>64*q-(intOf i).toNat)
 case atStart=>exact⟨0,by omega,rfl,hF.o⟩
 case round=>
  obtain⟨k,hk,rfl,h2⟩:=hrel;have hd:=an h2;clear h2;obtain⟨j,hj⟩: ∃j,j=64*k:=⟨_,rfl⟩;rw[<-hj];have HJ:=an hj
  by_cases HA:k<q
  ·have Hz:j+64<=n:=by omega
   have HC:(j:Int)<n:=by omega
   obtain⟨j2,hY⟩: ∃j2,j2=j+64:=⟨_,rfl⟩;have hD:=an hY;have Hs:IntKind.i64.wrap ((j:Int)+64)=(j2:Int):=by rw[bF]; omega
   have hw:bG (fun _=>True) wr (.slice a n c) p:=by
    have h1:=cG HO.o;exact(cE.same h1 (fun i hS=>hd.o.grown.block i (HO.o.lt i hS.2).2 (fun e=>by cases e; have:=az hP.o; have:=hS.1; omega))).weak (fun _ _=>trivial)
   obtain⟨a3,c3,hA,hz⟩:=ro hw (show j<j2 by omega) (by rw[<-HN.o]; omega);have h0:iT p j j2=(p.drop (64*k)).take 64:=by unfold iT; rw[hD.o,fK,HJ.o]
   have hr:((p.drop (64*k)).take 64).length=64:=by rw[bm,bA,<-HN.o]; omega
   rw[h0]at hz hA;obtain⟨bk,o3,rfl,HB,hX,Hp,hc⟩:=El hz (by rw[hr]; decide);rw[hr]at hz hA hX;clear hj hY;have Hu:=an hc;obtain⟨V,hV⟩: ∃V,V=jQ p k:=⟨_,rfl⟩;rw[<-hV]at hd;have hG:=an hV;have hT:=an (show V.Ok by rw[hV]; exact sH p k);obtain⟨W6,he⟩: ∃W6,W6=wr.drew:=⟨_,rfl⟩;have ha:=an (show lu w.heap.size w1 W6 V by rw[he]; exact hd.o.next ((ay _ _).drew))
   have hs:=an (show ∀i x,((p.drop (64*k)).take 64)[i]? =some x->W6.cell? ⟨bk,o3+i,none⟩=some (u8W x) by rw[he]; exact hc);have Hc:=an (show(Tryz.prog.info? 216).map (·.size)=some (V.list.map fc).length by kernel_rfl);have Hv:=an (show(Tryz.prog.info? 216).map (·.size)=some (V.list.map fc).toArray.size by kernel_rfl);clear hV hw hz hc h0
   go_upto_region 6 with(fail)
   refine ey (fun w'=>w'.heap[w.heap.size]? =some (.cells (V.list.map fc).toArray 216 (0,0))) (by kernel_rfl) (by kernel_rfl) ?_;simp only[bw,bz,aG,bo,Nat.reduceAdd,Nat.reduceSub];rw[<-he];clear he;refine IU 0 rfl (by kernel_rfl) (by kernel_rfl) (by kernel_rfl) (fun _ _ _ h=>h) (yieldsIf_load_mid rfl 216 _ rfl w.heap.size 0 rfl (V.list.map fc) _ (fun w' hh=>mr hh) fC rfl Hc.o) ha.o.box ?_
   simp only[Act.put,ag,ai,ah];refine bJ 1 rfl (by kernel_rfl) (by kernel_rfl) (by kernel_rfl) (fun _ _ _ h=>h) rfl ha.o.box (by intro w' hh; go_simp; rfl) ?_;simp only[Act.put,ag,ai,ah];refine bJ 2 rfl (by kernel_rfl) (by kernel_rfl) (by kernel_rfl) (fun _ _ _ h=>h) rfl ha.o.box (by intro w' hh; go_simp; rfl) ?_
   simp only[Act.put,ag,ai,ah];refine bJ 3 rfl (by kernel_rfl) (by kernel_rfl) (by kernel_rfl) (fun _ _ _ h=>h) rfl ha.o.box (by intro w' hh; go_simp; rfl) ?_;simp only[Act.put,ag,ai,ah];refine bJ 4 rfl (by kernel_rfl) (by kernel_rfl) (by kernel_rfl) (fun _ _ _ h=>h) rfl ha.o.box (by intro w' hh; go_simp; rfl) ?_
   simp only[Act.put,ag,ai,ah];refine bJ 5 rfl (by kernel_rfl) (by kernel_rfl) (by kernel_rfl) (fun _ _ _ h=>h) rfl ha.o.box (by intro w' hh; go_simp; first | rfl | (rw[hA]; rfl)) ?_;simp only[Act.put,ag,ai,ah];have hJ:=Ei V bk o3 c3 _ W6 hT.o hr hX Hp hs.o
   obtain⟨V2,hH⟩: ∃V2,V2=rI V ((p.drop (64*k)).take 64):=⟨_,rfl⟩;rw[<-hH]at hJ;have Hi:=an hH;have Ha:=an hJ;clear hJ hA hr hH;refine cy 6 rfl (fun K hK=> ?_);go_wp2_with fail;refine Ha.o.mono ?_;rintro e w7 ⟨rfl,hW⟩;have hg:=an (ha.o.next hW);have h4:=an (show(V2.list.map fc).toArray.all (·.oneCell')=true from dU (fun x hx=>by obtain⟨y,-,rfl⟩:=aW.1 hx; rfl))
   have Hd:=an (show(Tryz.prog.info? 216).map (·.size)=some (V2.list.map fc).toArray.size by kernel_rfl);clear hW;go_wp2_with fail;refine⟨hg.o.box, ?_⟩;refine cH (by kernel_rfl) ?_;refine eJ rfl rfl (fun K hK=> ?_);go_wp2_with (refine du rfl 216 _ _ rfl w.heap.size (V2.list.map fc).toArray rfl rfl _ _ hg.o.box Hd.o rfl h4.o ?_)
   go_roundw
   case rel=>
    refine⟨k+1,by omega, ?_,hg.o.put (r':=V2) rfl |> fun h=>by rw[show jQ p (k+1)=rI (jQ p k) ((p.drop (64*k)).take 64)from rfl,<-hG.o,<-Hi.o]; exact h⟩;rw[hD.o,HJ.o]; exact congrArg (Value.int .i64) (by omega)
   case measure=>
    have:=HJ.o;have:=hD.o;simp only[intOf,eE];omega
  ·have Hm:k=q:=by omega
   subst Hm;have Hx: ¬(j:Int)<n:=by omega
   obtain⟨w5,Hr⟩: ∃x,x=wr:=⟨_,rfl⟩;subst Hr;obtain⟨V,hV⟩: ∃V,V=jQ p k:=⟨_,rfl⟩;rw[<-hV]at hd;have hT:=an (show V.Ok by rw[hV]; exact sH p k);have hG:=an (show pV data=V.out by unfold pV; rw[<-HP.o,<-HN.o,<-HQ.o,hV]);have He:=an (show(w5.alloc (.cells #[] 5)).ownsRow w5.heap.size 5 1 (.slice (some ⟨w5.heap.size,0,none⟩) 0 0) 0 []from di (e:=5) (size:=1) (base:=w5.heap.size) w5 #[] 0 (au _) (aX _) (by simp))
   have h9:=an ((ay w5.heap.size w5).alloc (au _) (.cells #[] 5));clear hV hj;go_wp2_with fail
   go_loopw [6,7] (fun o i wr=> ∃(j:Nat) (a c:_),j<=8/\i= .int .i64 (j:Int)/\o= .slice a (4*j) c/\wr.ownsRow w5.heap.size 5 1 (.slice a (4*j) c) (4*j) (((V.list.take j).flatMap AH).map aY)/\Below w5.heap.size w5 wr) (fun _ i _=>8-(intOf i).toNat)
   case atStart=>exact⟨0,_,_,by omega,rfl,rfl,He.o,h9.o⟩
   case round=>
    obtain⟨j,a6,c6,hj,rfl,rfl,ho,hb⟩:=hrel;have hE:=an ho;have hB:=an hb;have HD:=hb.size;clear ho hb;obtain⟨m,hm⟩: ∃m,m=4*j:=⟨_,rfl⟩;rw[<-hm]at hE ⊢;have HM:=an hm
    by_cases h8:j<8
    ·obtain⟨x,hx⟩: ∃x,V.list[j]? =some x:=⟨_,bM (show j<V.list.length from h8)⟩;have HX:=an hx;have cx:=(hB.o.cell (p:=⟨w.heap.size,j,none⟩) (az hd.o.box)).trans (hd.o.get hx);have Hy:(j:Int)<8:=by omega
     clear hx hm;obtain⟨W6,he⟩: ∃W6,W6=wr.drew:=⟨_,rfl⟩;have hR:=an (show W6.cell? ⟨w.heap.size,j,none⟩=some (.int .u32 (x:Int)) by rw[he]; exact cx);have Hf:=an (show W6.ownsRow w5.heap.size 5 1 (.slice a6 m c6) m (((V.list.take j).flatMap AH).map aY) by rw[he]; exact hE.o);have hC:=an (show Below w5.heap.size w5 W6 by rw[he]; exact hB.o.drew);have Ht:=hC.o.size
     go_upto_region 11 with(fail)
     refine ey (fun w'=>w'.cell? ⟨w.heap.size,j,none⟩=some (.int .u32 (x:Int))) (by kernel_rfl) (by kernel_rfl) ?_;simp only[bw,bz,aG,bo,Nat.reduceAdd,Nat.reduceSub];rw[<-he];clear he cx
     iterate 20 (refine cF rfl (by kernel_rfl) (fun _ _ _ h=>h) rfl hR.o (by intro w' hh; go_simp; rfl) ?_; simp only[Act.put,ag,ai,ah])
     refine cy 20 rfl (fun K hK=> ?_);go_wp2_with fail;have Ho:w.heap.size<W6.heap.size:=aR (az hd.o.box) Ht;have h7:=an ((ay W6.heap.size W6).alloc (au _) (.cells #[.int .u8 ((x:Int)/16777216%256), .int .u8 ((x:Int)/65536%256), .int .u8 ((x:Int)/256%256), .int .u8 ((x:Int)%256)] 5));have Hj:=(h7.o.cell (p:=⟨w.heap.size,j,none⟩) Ho).trans hR.o
     have Hh:=an (vJ (n:=4) (sz:=1) (cells:=[.int .u8 ((x:Int)/16777216%256), .int .u8 ((x:Int)/65536%256), .int .u8 ((x:Int)/256%256), .int .u8 ((x:Int)%256)]) (aH W6 (.cells #[.int .u8 ((x:Int)/16777216%256), .int .u8 ((x:Int)/65536%256), .int .u8 ((x:Int)/256%256), .int .u8 ((x:Int)%256)] 5)) rfl (by decide));have hQ:=an (Hf.o.alloc (.cells #[.int .u8 ((x:Int)/16777216%256), .int .u8 ((x:Int)/65536%256), .int .u8 ((x:Int)/256%256), .int .u8 ((x:Int)%256)] 5))
     have Hg:=an (show ∀u∈([.int .u8 ((x:Int)/16777216%256), .int .u8 ((x:Int)/65536%256), .int .u8 ((x:Int)/256%256), .int .u8 ((x:Int)%256)]:List Value),u.oneCell'=true by intro u hu; simp only[bh,dt,or_false]at hu; rcases hu with rfl | rfl | rfl | rfl<;> rfl);have Hq:m+4<1099511627775:=by have:=HM.o; omega
     have h3:w5.heap.size<=(W6.alloc (.cells #[.int .u8 ((x:Int)/16777216%256), .int .u8 ((x:Int)/65536%256), .int .u8 ((x:Int)/256%256), .int .u8 ((x:Int)%256)] 5)).heap.size:=by simp; omega
     refine⟨Hj, ?_⟩;refine cy 21 rfl (fun K hK=> ?_);go_wp2_with (at_builtin; go_must (refine el Tryz.appBytes rfl _ _ rfl w5.heap.size (.slice a6 m c6) m (((V.list.take j).flatMap AH).map aY) rfl hQ.o _ 4 [.int .u8 ((x:Int)/16777216%256), .int .u8 ((x:Int)/65536%256), .int .u8 ((x:Int)/256%256), .int .u8 ((x:Int)%256)] rfl Hh.o Hg.o Hq h3 ?_); intro v9 w9 hf Hl; obtain⟨a9,c9,rfl,-,-⟩:=aI hf)
     have hO:=an (cg (hC.o.alloc hC.o.size (.cells #[.int .u8 ((x:Int)/16777216%256), .int .u8 ((x:Int)/65536%256), .int .u8 ((x:Int)/256%256), .int .u8 ((x:Int)%256)] 5)) hQ.o Hl (au _) h3);have Hn:w.heap.size<w5.heap.size:=az hd.o.box;have Hk:w9.cell? ⟨w.heap.size,j,none⟩=some (.int .u32 (x:Int)):=(hO.o.cell (p:=⟨w.heap.size,j,none⟩) Hn).trans (hd.o.get HX.o)
     refine⟨Hk, ?_⟩;refine cH (by kernel_rfl) ?_;refine eJ rfl rfl (fun K hK=> ?_);go_wp2_with fail
     go_roundw
     case rel=>
      have hZ:m+4=4*(j+1):=by rw[HM.o]; omega
      refine⟨j+1,a9,c9,by omega,by simp,by rw[hZ], ?_,hO.o⟩;rw[<-hZ,dZ HX.o,bW,aO];have e4:([x].flatMap AH).map aY=[.int .u8 ((x:Int)/16777216%256), .int .u8 ((x:Int)/65536%256), .int .u8 ((x:Int)/256%256), .int .u8 ((x:Int)%256)]:=by
       have e0:=li (x:=x/2^24) (y:=(x:Int)/16777216%256) (by omega);have e1:=li (x:=x/2^16) (y:=(x:Int)/65536%256) (by omega);have e2:=li (x:=x/2^8) (y:=(x:Int)/256%256) (by omega);have e3:=li (x:=x) (y:=(x:Int)%256) rfl;rw[e0,e1,e2,e3]
       rfl
      rw[e4];exact hf
     case measure=>simp[intOf]; omega
    ·obtain rfl:j=8:=by omega
     obtain rfl:m=V.out.length:=by rw[HM.o,GM]
     have Hw:=ir (bs:=V.out) (cG (show wr.ownsRow w5.heap.size 5 1 (.slice a6 V.out.length c6) V.out.length (V.out.map aY)from hE.o));clear hm;go_wp2_with fail;go_ret;have hU:Below w.heap.size w w5:=me hN.o hd.o.grown (au _) hN.o.size;exact⟨by rw[hG.o]; rfl,hU.trans (hB.o.mono hU.size)⟩
def uf (k:List UInt8) (x:UInt8) (i:Nat):List UInt8:=(List.range i).map fun j=>(k.getD j 0)^^^x
theorem zR (k:List UInt8) (x:UInt8) (i:Nat):uf k x (i+1)=uf k x i++[(k.getD i 0)^^^x]:=by simp[uf,List.range_succ]
theorem Mg (k:List UInt8) (x:UInt8) (i:Nat):(uf k x i).length=i:=by simp[uf]
theorem Mf {k:List UInt8} (x:UInt8) (h:k.length<=64):uf k x 64=(k++List.replicate (64-k.length) 0).map (fun b=>b^^^x):=by
 apply List.ext_getElem?
 intro j;unfold uf;rw[bn,bn]
 by_cases hj:j<64
 ·rw[List.getElem?_range hj]
  by_cases hk:j<k.length
  ·rw[bO hk,bM hk];simp[List.getD_eq_getElem?_getD,hk]
  ·rw[bI (by omega),List.getElem?_replicate,if_pos (by omega)];simp[List.getD_eq_getElem?_getD,List.getElem?_eq_none (show k.length<=j by omega)]
 ·rw[dE (by simp; omega),dE (by simp; omega)]
  rfl
theorem Me (s:ByteArray) (x:UInt8) (w:World):Calls Tryz.prog 207 #[.string s, .int .u8 (x.toNat:Int)] w fun e w'=> ∃a c,e= .returned (.slice a 64 c)/\lA w' w.heap.size (.slice a 64 c) (uf (bl s) x 64)/\Below w.heap.size w w':=by
 have hl:=an (show(w.alloc (.cells #[] 5)).ownsRow w.heap.size 5 1 (.slice (some ⟨w.heap.size,0,none⟩) 0 0) 0 ((uf (bl s) x 0).map aY)from di (e:=5) (size:=1) (base:=w.heap.size) w #[] 0 (au _) (aX _) (by simp));have hj:=an ((ay w.heap.size w).alloc (au _) (.cells #[] 5))
 go_enter Tryz.func207,Tryz.ntmps207
 go_wp2_with fail
 go_loopw [5,6] (fun o i wr=> ∃(k:Nat) (a:Option Addr) (c:Nat),k<=64/\i= .int .i64 (k:Int)/\o= .slice a k c/\wr.ownsRow w.heap.size 5 1 (.slice a k c) k ((uf (bl s) x k).map aY)/\Below w.heap.size w wr) (fun _ i _=>64-(intOf i).toNat)
 case atStart=>exact⟨0,_,_,by omega,rfl,rfl,hl.o,hj.o⟩
 case round=>
  obtain⟨k,a,c,hk,rfl,rfl,ho,hb⟩:=hrel;have HO:=an ho;have HB:=an hb;have hz:=hb.size;clear ho hb hl hj
  by_cases hq:k<64
  ·have hp:(k:Int)<64:=by omega
   have hd:k<1099511627775:=by omega
   by_cases hm:k<s.size
   ·have hh:(k:Int)<(s.size:Int):=by omega
    have HZ:=an (show ∀u∈[Value.int .u8 (bits BinOp.xor IntKind.u8 (s[k].toNat:Int) (x.toNat:Int))],u.oneCell'=true by simp[Value.oneCell']);have hg:=an (show [Value.int .u8 (bits BinOp.xor IntKind.u8 (s[k].toNat:Int) (x.toNat:Int))]=[(bl s).getD k 0^^^x].map aY by
     rw[FU,cK,bM (show k<(bl s).length by rw[<-bi]; exact hm),Option.getD_some,kE s k hm]; rfl)
    go_wp2_with (at_builtin; go_loud (refine bR Tryz.appBytes rfl _ _ rfl w.heap.size (.slice a k c) k ((uf (bl s) x k).map aY) rfl wr [Value.int .u8 (bits BinOp.xor IntKind.u8 (s[k].toNat:Int) (x.toNat:Int))] _ rfl rfl HZ.o HO.o hd hz ?_); intro v' wc ha hc _ _; obtain⟨ae,ce,rfl,-,-⟩:=aI ha; rw[hg.o,<-aO,<-zR]at ha; have hf:=an ha; have he:=an (cg HB.o HO.o hc (au _) hz); clear ha hc)
    go_roundw
    case rel=>exact⟨k+1,_,_,by omega,by go_num,rfl,hf.o,he.o⟩
    case measure=>simp[intOf]; omega
   ·have hh: ¬(k:Int)<(s.size:Int):=by omega
    have HZ:=an (show ∀u∈[Value.int .u8 (bits BinOp.xor IntKind.u8 0 (x.toNat:Int))],u.oneCell'=true by simp[Value.oneCell']);have hg:=an (show [Value.int .u8 (bits BinOp.xor IntKind.u8 0 (x.toNat:Int))]=[(bl s).getD k 0^^^x].map aY by
     rw[cK,dE (show(bl s).length<=k by rw[<-bi]; omega),Option.getD_none];have h1:=FU 0 x;rw[show(((0:UInt8).toNat:Nat):Int)=0 from rfl]at h1;rw[h1]; rfl)
    go_wp2_with (at_builtin; go_loud (refine bR Tryz.appBytes rfl _ _ rfl w.heap.size (.slice a k c) k ((uf (bl s) x k).map aY) rfl wr [Value.int .u8 (bits BinOp.xor IntKind.u8 0 (x.toNat:Int))] _ rfl rfl HZ.o HO.o hd hz ?_); intro v' wc ha hc _ _; obtain⟨ae,ce,rfl,-,-⟩:=aI ha; rw[hg.o,<-aO,<-zR]at ha; have hf:=an ha; have he:=an (cg HB.o HO.o hc (au _) hz); clear ha hc)
    go_roundw
    case rel=>exact⟨k+1,_,_,by omega,by go_num,rfl,hf.o,he.o⟩
    case measure=>simp[intOf]; omega
  ·have hn:k=64:=by omega
   subst hn;go_wp2_with fail;go_ret;refine⟨a,c,rfl, ?_,HB.o⟩;unfold lA;rw[Mg];exact HO.o
theorem GN (s:ByteArray) (x:UInt8) (n:Int) (w:World) (hn:n=(x.toNat:Int)) (hs:s.size<=64):Calls Tryz.prog 207 #[.string s, .int .u8 n] w fun e w'=> ∃a c,e= .returned (.slice a 64 c)/\lA w' w.heap.size (.slice a 64 c) (gt (iP (bl s)) x)/\Below w.heap.size w w':=by
 subst hn;have hk:uf (bl s) x 64=gt (iP (bl s)) x:=by
  rw[Mf x (by rw[<-bi]; exact hs)];unfold gt iP;rw[if_neg (by rw[<-bi]; omega)]
 rw[<-hk];exact Me s x w
theorem MI (S:Nat->Prop) (key:ByteArray) (data:List UInt8) (dv:Value) (w:World) (hk:key.size<=64) (hv:bG S w dv data) (hl:data.length<549755000000):
  Calls Tryz.prog 190 #[.string key,dv] w fun e w'=>e= .returned (.string ⟨(yE (bl key) data).toArray⟩)/\Below w.heap.size w w':=by
 obtain⟨h3,a,cap,rfl,hn,hm,-⟩:=id hv;unfold maxLen at hm;have HV:=an hv;obtain⟨n,hy⟩: ∃n,n=data.length:=⟨_,rfl⟩;rw[<-hy]at HV hl hn ⊢;have HN:=an hy;have h4: ¬(64:Int)<(key.size:Int):=by omega
 obtain⟨kx,hu⟩: ∃kx,kx=gt (iP (bl key)) 54:=⟨_,rfl⟩;obtain⟨ky,hw⟩: ∃ky,ky=gt (iP (bl key)) 92:=⟨_,rfl⟩;have he:kx.length=64:=by rw[hu]; unfold gt; rw[aE,jn]
 have hf:ky.length=64:=by rw[hw]; unfold gt; rw[aE,jn]
 have hA:=an hu;have hB:=an hw;have hp:=an he;have hq:=an hf;clear hv h3 hy hu hw he hf
 go_enter Tryz.func190,Tryz.ntmps190
 go_wp2_with fail;refine(GN key 54 54 _ rfl hk).mono ?_;rintro e w1 ⟨a1,c1,rfl,hg,hj⟩;rw[<-hA.o]at hg;have hC:=an (show w1.ownsRow w.heap.size 5 1 (.slice a1 64 c1) 64 (kx.map aY) by unfold lA at hg; rw[hp.o]at hg; exact hg);have hM:=an hj;have hX:=an (show cE S w1 1 (.slice a n cap) n (data.map aY) by rw[HN.o]; exact cE.below (by have:=HV.o; rw[HN.o]at this; exact this) (by omega) hj)
 have hJ:=hj.size;clear hg hj;have hx:64+n<1099511627775:=by omega
 go_wp2_with (at_builtin; go_loud (refine el Tryz.appBytes rfl _ _ rfl w.heap.size (.slice a1 64 c1) 64 (kx.map aY) rfl hC.o (.slice a n cap) n (data.map aY) rfl hX.o (fo data) hx hJ ?_); intro v2 w2 hb hH; obtain⟨a2,c2,rfl,-,-⟩:=aI hb; have hU:=an hb; have hN:=an (cg hM.o hC.o hH (au _) hJ); clear hb hH);have hY:=an (show bG (fun _=>True) w2 (.slice a2 (64+n) c2) (kx++data) by
  have h1:=cG hU.o;have h2:(kx++data).length=64+n:=by rw[ar,hp.o,HN.o]
  show cE _ w2 1 _ (kx++data).length ((kx++data).map aY)
  rw[h2,aO];exact h1.weak fun _ _=>trivial)
 refine(DN _ _ (kx++data) _ hY.o (by rw[ar,hp.o,<-HN.o]; omega)).mono ?_;rintro e w3 ⟨rfl,hE⟩;have ho:=an (aw hN.o hE);clear hE;obtain⟨inn,hd⟩: ∃i:ByteArray,i=⟨(pV (kx++data)).toArray⟩:=⟨_,rfl⟩;have ha:inn.size=32:=by rw[hd,bi,iu,tD]
 rw[<-hd];have hT:=an hd;clear hd;go_wp2_with fail;refine(GN key 92 92 _ rfl hk).mono ?_;rintro e w4 ⟨a4,c4,rfl,hh,hr⟩;rw[<-hB.o]at hh;have hV:=an (show w4.ownsRow w3.heap.size 5 1 (.slice a4 64 c4) 64 (ky.map aY) by unfold lA at hh; rw[hq.o]at hh; exact hh);have hO:=an (aw ho.o hr);have h8:=hr.size;clear hh hr;obtain⟨W5,cp,h0,hG,hs,h7⟩:=tS inn w4 (by unfold maxLen; omega)
 have hP:=an (aw hO.o hs);have hD:=an (cU hV.o hs);have hS:=an (show cE (fun k=>k=w4.heap.size) W5 1 (.slice (some ⟨w4.heap.size,0,none⟩) 32 cp) 32 ((bl inn).map aY) by have h1:=hG; unfold bG at h1; rw[<-bi,ha]at h1; exact h1);rw[ha]at h0;have hz:=an ha;have hL:w3.heap.size<=W5.heap.size:=by omega
 clear hG hs ha;go_wp2_with (at_builtin; go_loud (refine el Tryz.appBytes rfl _ _ rfl w3.heap.size (.slice a4 64 c4) 64 (ky.map aY) rfl hD.o (.slice (some ⟨w4.heap.size,0,none⟩) 32 cp) 32 ((bl inn).map aY) rfl hS.o (fo (bl inn)) (by decide) hL ?_); intro v6 w6 hc hI; obtain⟨a6,c6,rfl,-,-⟩:=aI hc; have hW:=an hc; have hQ:=an (cg (B:=w.heap.size) hP.o hD.o hI ho.o.size (aB ho.o.size hL)); clear hc hI)
 have hZ:=an (show bG (fun _=>True) w6 (.slice a6 96 c6) (ky++bl inn) by
  have h1:=cG hW.o;have h2:(ky++bl inn).length=64+32:=by rw[ar,hq.o,<-bi,hz.o]
  show cE _ w6 1 _ (ky++bl inn).length ((ky++bl inn).map aY)
  rw[h2,aO];exact h1.weak fun _ _=>trivial)
 refine(DN _ _ (ky++bl inn) _ hZ.o (by rw[ar,hq.o,<-bi,hz.o]; decide)).mono ?_;rintro e w7 ⟨rfl,hF⟩;have hR:=an (aw hQ.o hF);clear hF;have HT:=an (show pV (ky++bl inn)=yE (bl key) data by
  rw[hT.o,iu,hA.o,hB.o]
  rfl)
 go_wp2_with fail;go_ret;exact⟨by rw[<-HT.o]; rfl,hR.o⟩
theorem ER (k:dm) (w:World):Calls Tryz.prog 74 #[kt k] w fun e w'=>e= .returned (.bool (jA k))/\Below w.heap.size w w':=by
 obtain⟨W,hW⟩: ∃W,W=w.alloc (.cells #[.string k.nm, .string k.st, .string k.ck, .string k.ix, .string k.tk] 42):=⟨_,rfl⟩;have HB:=an (show Below w.heap.size w W by rw[hW]; exact eN);have HX:=an (show W.heap[w.heap.size]? =some (.cells #[.string k.nm, .string k.st, .string k.ck, .string k.ix, .string k.tk] 42 (0,0)) by rw[hW]; exact aH w _);have hv:jA k=(((decide (k.nm.size=32) && decide (k.st.size=32)) && decide (k.ck.size=32)) && decide (k.ix.size=32) && decide (k.tk.size=32)):=by
  unfold jA dm.list; simp[Bool.and_assoc]
 have HV:=an hv;clear hv;unfold kt
 go_enter Tryz.func74,Tryz.ntmps74
 go_upto_region 1 with fail
 rw[<-hW];clear hW;obtain⟨c0,c1,c2,c3,c4,_⟩:=aT HX.o;go_wp2_with fail
 all_goals (go_ret; refine⟨bY ?_,HB.o⟩; rw[HV.o,dk]; simp; omega)
theorem Ja (k:dm) (b:Bool) (w:World) (h:jA k=b):Calls Tryz.prog 74 #[kt k] w fun e w'=>e= .returned (.bool b)/\Below w.heap.size w w':=by rw[<-h]; exact ER k w
theorem ye (n:Nat) (w:World) (hn:n<18446744073709551616):Calls Tryz.prog 103 #[.int .u64 (n:Int)] w (fun e w'=> ∃v,e= .returned v/\lA w' w.heap.size v (bE n)/\Below w.heap.size w w'):=by
 have HO:=an (di (e:=5) (size:=1) (base:=w.heap.size) w #[] 0 (au _) (aX _) (by simp));have HB:=an ((ay w.heap.size w).alloc (au _) (.cells #[] 5))
 go_enter Tryz.func103,Tryz.ntmps103
 go_wp2_with fail
 go_loopw [0,3] (fun x o wr=> ∃(f m:Nat) (acc:List UInt8),x= .int .u64 (m:Int)/\m<18446744073709551616/\m<2^(7*f)/\acc++jM f m=bE n/\wr.ownsRow w.heap.size 5 1 o acc.length (acc.map aY)/\acc.length<=20/\Below w.heap.size w wr) (fun x _ _=>(intOf x).toNat)
 case atStart=>exact⟨10,n,[],rfl,hn,iY hn (by decide),rfl,HO.o,by simp,HB.o⟩
 case round=>
  obtain⟨f,m,acc,rfl,hm,hr,he,hd,hu,hb⟩:=hrel;have HE:=an he;have hf:=an hd;have hp:=an hb;have hq:=an hr;have hg:=hb.size;obtain⟨ao,co,rfl,h1,h2⟩:=aI hd;clear he hd hb hr HO HB
  by_cases ho:127<m
  ·have hv:Value.int .u8 ((m:Int)%128+128)=aY (UInt8.ofNat (m%128+128)):=by rw[mf (by omega)]; simp
   have HV:=an hv;obtain⟨f,rfl⟩: ∃g,f=g+1:=⟨f-1,by
    cases f with
    | zero=>have:=hq.o; simp at this; omega
    | succ g=>rfl⟩
   have hj:=an (show(acc++[UInt8.ofNat (m%128+128)])++jM f (m/128)=bE n by rw[<-HE.o,jM,if_pos ho]; simp);have hk:=an (show m/128<2^(7*f) by
    have h3:=hq.o;rw[show 7*(f+1)=7*f+7 by omega,gd]at h3;exact eX (by omega))
   have hs:acc.length<=10:=by
    have h4:=dw n;rw[<-HE.o,ar,jM,if_pos ho,aG]at h4;omega
   clear hv;go_wp2_with (at_builtin; go_must (refine iN Tryz.appBytes rfl _ _ rfl w.heap.size (.slice ao acc.length co) acc.length (acc.map aY) rfl wr [.int .u8 ((m:Int)%128+128)] _ rfl rfl (by rw[HV.o]; exact oZ _) hf.o (by omega) hg ?_); intro v' wc hc ha _; have hh:=an (cg hp.o hf.o ha (au _) hg); have hl:=an (show wc.ownsRow w.heap.size 5 1 v' (acc++[UInt8.ofNat (m%128+128)]).length ((acc++[UInt8.ofNat (m%128+128)]).map aY) by rw[ar,aO,cw,eL,<-HV.o]; exact hc); obtain⟨ae,ce,rfl,-,-⟩:=aI hc; clear hc ha)
   go_roundw
   case rel=>exact⟨f,m/128,acc++[UInt8.ofNat (m%128+128)],by simp,by omega,hk.o,hj.o,hl.o,by simp; omega,hh.o⟩
   case measure=>simp[intOf]; omega
  ·have hv:Value.int .u8 (m:Int)=aY (UInt8.ofNat m):=by rw[mf (by omega)]
   have HV:=an hv;have hj:=an (show acc++[UInt8.ofNat m]=bE n by
    rw[<-HE.o]
    cases f with
    | zero=>rfl
    | succ f=>rw[jM,if_neg ho])
   clear hv;go_wp2_with (at_builtin; go_must (refine iN Tryz.appBytes rfl _ _ rfl w.heap.size (.slice ao acc.length co) acc.length (acc.map aY) rfl wr [.int .u8 (m:Int)] _ rfl rfl (by rw[HV.o]; exact oZ _) hf.o (by omega) hg ?_); intro v' wc hc ha _; have hh:=an (cg hp.o hf.o ha (au _) hg); have hl:=an (show wc.ownsRow w.heap.size 5 1 v' (acc++[UInt8.ofNat m]).length ((acc++[UInt8.ofNat m]).map aY) by rw[ar,aO,cw,eL,<-HV.o]; exact hc); obtain⟨ae,ce,rfl,-,-⟩:=aI hc; clear hc ha)
   go_ret;rw[<-hj.o];exact⟨_,rfl,hl.o,hh.o⟩
def BF (k:dm) (b:Nat) (v:Value) (data:List UInt8) (w:World):Prop:=w.heap[b]? =some (.cells #[.string k.nm, .string k.st, .string k.ck, .string k.ix, .string k.tk] 42 (0,0))/\bG (fun _=>True) w v data
theorem BF.below {k:dm} {b:Nat} {v:Value} {data:List UInt8} {w w':World} (h:BF k b v data w) (hb:Below w.heap.size w w'):BF k b v data w':=⟨(hb.block _ (az h.1)).trans h.1,cE.below h.2 (by omega) hb⟩
theorem EX (S:Nat->Prop) (k:dm) (g:Nat) (data:List UInt8) (dv:Value) (w:World) (hk:jA k=true) (hg:g<=1099511627776) (hv:bG S w dv data) (hl:data.length<=32768):
  Calls Tryz.prog 178 #[kt k, .int .i64 (g:Int),dv] w fun e w'=>e= .returned (.tuple #[.string (lW k g data), .int .i64 0])/\Below w.heap.size w w':=by
 obtain⟨hI,a,cap,rfl,hn,hm,-⟩:=id hv;unfold maxLen at hm;obtain⟨n,hf⟩: ∃n,n=data.length:=⟨_,rfl⟩;have HN:=an hf;have hy:k.nm.size=32:=(uq hk).1;have hD:=an hy;obtain⟨W,hW⟩: ∃W,W=w.alloc (.cells #[.string k.nm, .string k.st, .string k.ck, .string k.ix, .string k.tk] 42):=⟨_,rfl⟩;have HB:=an (show Below w.heap.size w W by rw[hW]; exact eN);have HX:=an (show BF k w.heap.size (.slice a n cap) data W by
  rw[hW,hf];exact⟨aH w _,(cE.below hv (by omega) (eN)).weak fun _ _=>trivial⟩)
 rw[<-hf]at hl hn ⊢;have HK:=an hk;have hM: ¬(g:Int)<0:=by omega
 have hN:IntKind.u64.wrap (g:Int)=(g:Int):=by rw[cT]; omega
 have hO: ¬(32768:Int)<(n:Int):=by omega
 clear hv hI hf hk hy;unfold kt
 go_enter Tryz.func178,Tryz.ntmps178
 go_upto_region 1 with fail
 rw[<-hW];clear hW;obtain⟨c0,c1,c2,c3,c4,_⟩:=aT HX.o.1;go_wp2_with fail;refine(Ja k true _ HK.o).mono ?_;rintro e w1 ⟨rfl,hh⟩;have hA:=an (aw HB.o hh);have hG:=an (HX.o.below hh);clear hh c0 c1 c2 c3 c4
 go_upto_region 5 with fail
 refine eH (BF k w.heap.size (.slice a n cap) data) (by kernel_rfl) ?_;obtain⟨V,hV⟩: ∃V:World,V=w1.drew:=⟨_,rfl⟩;rw[<-hV];have hb:Below w1.heap.size w1 V:=by rw[hV]; exact(ay _ _).drew
 have hp:=an (aw hA.o hb);have SV:=an (hG.o.below hb);clear hV hb
 iterate 4 (refine cF rfl (by kernel_rfl) (fun _ _ _ h=>h) rfl SV.o (by rintro w' ⟨hx,_⟩; have x0:=bH (k:=0) hx; simp only[ak,aj]at x0; go_simp; rfl) ?_; simp only[Act.put,ag,ai,ah])
 refine bJ 5 rfl (by kernel_rfl) (by kernel_rfl) (by kernel_rfl) (fun _ _ _ h=>h) rfl SV.o (by rintro w' ⟨hx,_⟩; have x0:=bH (k:=0) hx; simp only[ak,aj]at x0; go_simp; rfl) ?_;simp only[Act.put,ag,ai,ah];refine cy 4 rfl (fun K hK=> ?_);go_wp2_with fail;refine(ye g _ (by omega)).mono ?_
 rintro e w2 ⟨v2,rfl,hd,hc⟩;obtain⟨a2,c2,rfl,-,-⟩:=aI hd;have hL:=an (aw hp.o hc);have S2:=an (SV.o.below hc);obtain⟨m,he⟩: ∃m,m=(bE g).length:=⟨_,rfl⟩;have hr:=an he;have ho:=dw g;rw[<-he]at ho ⊢;have hs:=an (show w2.ownsRow V.heap.size 5 1 (.slice a2 m c2) m ((bE g).map aY) by unfold lA at hd; rw[<-he]at hd; exact hd)
 have hF:=an (show cE (fun _=>True) w2 1 (.slice a n cap) n (data.map aY) by have h1:=S2.o.2; unfold bG at h1; rw[<-HN.o]at h1; exact h1);have hz:=hc.size;have hu:=an hc;clear hd hc he;go_wp2_with fail;refine⟨S2.o, ?_⟩;refine cy 6 rfl (fun K hK=> ?_);have hJ:m+n<1099511627775:=by omega
 go_wp2_with (at_builtin; go_loud (refine el Tryz.appBytes rfl _ _ rfl V.heap.size (.slice a2 m c2) m ((bE g).map aY) rfl hs.o (.slice a n cap) n (data.map aY) rfl hF.o (fo data) hJ hz ?_); intro v3 w3 ha hw; obtain⟨a3,c3,rfl,-,-⟩:=aI ha; have hE:=an ha; have hq:=an (cg (B:=V.heap.size) ((ay _ _).mono (au _)) hs.o hw (au _) hz); clear ha hw)
 have S3:=an (SV.o.below (hu.o.trans hq.o));have hB:=an (aw hp.o (hu.o.trans hq.o));have hH:=an (show bG (fun _=>True) w3 (.slice a3 (m+n) c3) (bE g++data) by
  have h1:=cG hE.o;have h2:(bE g++data).length=m+n:=by rw[ar,<-hr.o,<-HN.o]
  show cE _ w3 1 _ (bE g++data).length ((bE g++data).map aY)
  rw[h2,aO];exact h1.weak fun _ _=>trivial)
 refine⟨S3.o, ?_⟩;refine cy 7 rfl (fun K hK=> ?_);go_wp2_with fail;refine(MI _ k.nm (bE g++data) _ _ (by rw[hD.o]; decide) hH.o (by rw[ar,<-hr.o,<-HN.o]; omega)).mono ?_;rintro e w4 ⟨rfl,hj⟩;have S4:=an (S3.o.below hj);have hC:=an (aw hB.o hj);clear hj;go_wp2_with fail;refine⟨S4.o, ?_⟩
 iterate 2 (refine cF rfl (by kernel_rfl) (fun _ _ _ h=>h) rfl S4.o (by rintro w' ⟨hx,_⟩; have x0:=bH (k:=0) hx; simp only[ak,aj]at x0; go_simp; rfl) ?_; simp only[Act.put,ag,ai,ah])
 refine cH (by kernel_rfl) ?_;go_wp2_with fail
 go_ret2
 exact⟨rfl,hC.o⟩
theorem LO {a:Act} {w:World} {b:Nat} {x0 x1 x2 x3 x4 x5 x6 x7 x8 x9 e7:Value} (h:w.heap[b]? =some (.cells #[x0,x1,x2,x3,x4,x5,x6,x7,x8,x9] 28 (0,0)))
  (h6:a.tmps[6]? =some (.pointer (some ⟨b,0,none⟩))) (h7:a.tmps[7]? =some e7):(results Tryz.f28 a.tmps).run Tryz.prog w= .ok (.tuple #[.agg #[x0,x1,x2,x3,x4,x5,x6,x7,x8,x9],e7]) w:=by
 obtain⟨m0,m1,m2,m3,m4,m5,m6,m7,m8,m9,_⟩:=aT h;simp[results,Tryz.results28,go_sem,h6,h7,m0,m1,m2,m3,m4,m5,m6,m7,m8,m9]
theorem pi {a:Act} {w:World} {b:Nat} {a0 a1 a2 a3 a4 a5 a6 a7 a8 a9 x0 x1 x2 x3 x4 x5 x6 x7 x8 x9 e7:Value} {Q:Ending->World->Prop} (h:w.heap[b]? =some (.cells #[a0,a1,a2,a3,a4,a5,a6,a7,a8,a9] 28 (0,0)))
  (h6:a.tmps[6]? =some (.pointer (some ⟨b,0,none⟩))) (h7:a.tmps[7]? =some e7) (hd:a.defers=[])
  (hQ:Q (.returned (.tuple #[.agg #[x0,x1,x2,x3,x4,x5,x6,x7,x8,x9],e7])) ((((((((((w.setCell ⟨b,0,none⟩ x0).setCell ⟨b,1,none⟩ x1).setCell ⟨b,2,none⟩ x2).setCell ⟨b,3,none⟩ x3).setCell ⟨b,4,none⟩ x4).setCell ⟨b,5,none⟩ x5).setCell ⟨b,6,none⟩ x6).setCell ⟨b,7,none⟩ x7).setCell ⟨b,8,none⟩ x8).setCell ⟨b,9,none⟩ x9)):
  bodyPost Tryz.prog Tryz.f28 Q Exit.ret a ((((((((((w.setCell ⟨b,0,none⟩ x0).setCell ⟨b,1,none⟩ x1).setCell ⟨b,2,none⟩ x2).setCell ⟨b,3,none⟩ x3).setCell ⟨b,4,none⟩ x4).setCell ⟨b,5,none⟩ x5).setCell ⟨b,6,none⟩ x6).setCell ⟨b,7,none⟩ x7).setCell ⟨b,8,none⟩ x8).setCell ⟨b,9,none⟩ x9):=cN (LO (Af h) h6 h7) hd hQ
theorem ME {S:Nat->Prop} {w w':World} {a:Option Addr} {n cap:Nat} {xs:List ByteArray} (h:lF S w (.slice a n cap) xs) (hb:Below w.heap.size w w') {k:Nat} {x:ByteArray} (hx:xs[k]? =some x):
  ∃b o,a=some ⟨b,o,none⟩/\b<w.heap.size/\w'.cell? ⟨b,o+k,none⟩=some (.string x):=by
 obtain⟨_,a',cap',he,_,_,h0⟩:=h
 cases he
 rcases h0 with h0 | ⟨b,o,rfl,_,hc⟩
 ·have:=(aN.1 hx).1;omega
 ·have q:=hc k (.string x) (GD hx);exact⟨b,o,rfl,bS q,(hb.cell (p:=⟨b,o+k,none⟩) (bS q)).trans q⟩
structure LkI (w2 : World) (ib : Nat) (wr : World) (it : cr) : Prop where
 below:Below ib w2 wr
 box: ∃ca cc,wr.heap[ib]? =some (.cells (fh (.slice ca it.chunks.length cc) it).toArray 28 (0,0))/\dA (fun k=>ib<k) wr (.slice ca it.chunks.length cc) it.chunks
 ok:ii it
theorem LkI.next {w2 wr w':World} {ib:Nat} {it:cr} (h:LkI w2 ib wr it) (hb:Below wr.heap.size wr w'):LkI w2 ib w' it:=by
 obtain⟨ca,cc,h1,h2⟩:=h.box;have hl:=az h1;exact⟨h.below.trans (hb.mono (by omega)),⟨ca,cc,(hb.block ib hl).trans h1,cL.below h2 (by omega) hb (fun _ _ _ h=>h)⟩,h.ok⟩
theorem Et {root:cX} (h:eC root):ii (my root):=⟨by show(0:Nat)<=_; unfold maxLen; omega,by show(0:Nat)<=_; unfold maxLen; omega,h⟩
def AB (cs:List (ByteArray×List UInt8)) (root:cX) (path:ByteArray) (w:World) (e:Ending) (w':World):Prop:=Below w.heap.size w w'/\match jW cs root path with
 | .error x=>e= .returned (.tuple #[.agg #[.string ⟨#[]⟩, .int .i64 0, .int .i64 0, .int .i64 0, .int .i64 0, .string ⟨#[]⟩, .slice none 0 0, .string ⟨#[]⟩, .int .i64 0, .int .i64 0], .int .i64 x])/\x≠0
 | .ok it=> ∃v,e= .returned (.tuple #[lT v it, .int .i64 0])/\dA (w.heap.size<= ·) w' v it.chunks/\ii it
theorem oM (S:Nat->Prop) (cv:Value) (cs:List (ByteArray×List UInt8)) (root:cX) (path:ByteArray) (w:World) (hc:fU S w cv cs) (henv:og w) (hr:eC root):Calls Tryz.prog 28 #[fa root,cv, .string path] w (AB cs root path w):=by
 obtain⟨W0,hG⟩: ∃W0,W0=(w.alloc (.cells #[.string root.name, .int .i64 root.gen, .int .i64 root.size] 26)).alloc (.cells #[.string ⟨#[]⟩, .int .i64 0, .int .i64 0, .int .i64 0, .int .i64 0, .string ⟨#[]⟩, .slice none 0 0, .string ⟨#[]⟩, .int .i64 0, .int .i64 0] 28):=⟨_,rfl⟩;have hA:=an (show Below w.heap.size w W0 by rw[hG]; exact(eN).alloc (by simp) _);have Hp:=an (show W0.heap[w.heap.size]? =some (.cells #[.string root.name, .int .i64 root.gen, .int .i64 root.size] 26 (0,0)) by rw[hG]; exact mT (dY w _) _)
 have He:=an (show W0.heap[w.heap.size+1]? =some (.cells #[.string ⟨#[]⟩, .int .i64 0, .int .i64 0, .int .i64 0, .int .i64 0, .string ⟨#[]⟩, .slice none 0 0, .string ⟨#[]⟩, .int .i64 0, .int .i64 0] 28 (0,0)) by rw[hG]; exact pL w _ _);have HI:=an (lE.start (hc.below hA.o) (henv.below hA.o));have HR:=an hr;unfold fa;clear hc henv hr
 go_enter Tryz.func28,Tryz.ntmps28
 go_upto_region 1 with(fail)
 rw[<-hG];clear hG
 cases hp:dB (bl path)with
 | false=>
  have HM:=an (show jW cs root path= .error 1 by unfold jW; rw[if_neg (by rw[hp]; simp)]);have HP:=an hp;clear hp;go_wp2_with fail;refine(Kj path W0 HI.o.env HP.o).mono ?_;rintro e w1 ⟨rfl,hd⟩;have hB:=an (aw hA.o hd);have hu:=an (dV hd He.o);obtain⟨z0,z1,z2,z3,z4,z5,z6,z7,z8,z9,_⟩:=aT hu.o;obtain⟨g0,g1,g2,g3,g4,g5,g6,g7,g8,g9,_⟩:=gu hu.o
  clear hd;go_wp2_with fail;refine pi hu.o rfl rfl rfl ⟨ij hB.o (by show w.heap.size<=w.heap.size+1; omega), ?_⟩;rw[HM.o];exact⟨rfl,by decide⟩
 | true=>
  have HP:=an hp
  cases hv:ld root with
  | false=>
   have HM:=an (show jW cs root path= .error 1 by unfold jW; rw[if_neg (by rw[hv]; simp)]);have Hc:=an hv;clear hp hv;go_wp2_with fail;refine(DL path W0 HI.o.env HP.o).mono ?_;rintro e w1 ⟨ap,cp,rfl,-,-,-,hd⟩;have hB:=an (aw hA.o hd);have Hn:=an hd;have hN:=an (dV hd Hp.o);have hu:=an (dV hd He.o);obtain⟨r0,r1,r2,_⟩:=aT hN.o
   clear hd;go_wp2_with fail;refine(jp root false _ HR.o Hc.o).mono ?_;rintro e w2 ⟨rfl,hl⟩;have hM:=an (aw hB.o hl);have hn:=an (dV hl hu.o);obtain⟨z0,z1,z2,z3,z4,z5,z6,z7,z8,z9,_⟩:=aT hn.o;obtain⟨g0,g1,g2,g3,g4,g5,g6,g7,g8,g9,_⟩:=gu hn.o;clear hl r0 r1 r2;go_wp2_with fail;refine pi hn.o rfl rfl rfl ⟨ij hM.o (by show w.heap.size<=w.heap.size+1; omega), ?_⟩
   rw[HM.o];exact⟨rfl,by decide⟩
  | true=>
   have HM:=an (show jW cs root path=mN cs (jH (bl path)) (my root) by unfold jW; rw[if_pos ⟨hp,hv⟩]);have Hc:=an hv;clear hp hv;go_wp2_with fail;refine(DL path W0 HI.o.env HP.o).mono ?_;rintro e w1 ⟨ap,cp,rfl,Hv,HN,hT,hd⟩;obtain⟨ps,Hi⟩: ∃ps,ps=jH (bl path):=⟨_,rfl⟩;rw[<-Hi]at hT Hv ⊢;have HF:=an Hi;obtain⟨np,hh⟩: ∃np,np=ps.length:=⟨_,rfl⟩
   rw[<-hh]at hT Hv ⊢;have h7:=an hh;have HG:=an hT;unfold maxLen at HN;have hB:=an (aw hA.o hd);have Hn:=an hd;have hN:=an (dV hd Hp.o);have hu:=an (dV hd He.o);obtain⟨r0,r1,r2,_⟩:=aT hN.o;clear hd;clear Hi hh hT;go_wp2_with fail;refine(jp root true _ HR.o Hc.o).mono ?_;rintro e w2 ⟨rfl,hl⟩;have hM:=an (aw hB.o hl)
   have hn:=an (dV hl hu.o);have Hx:=dV hl hN.o;clear r0 r1 r2;obtain⟨r0,r1,r2,_⟩:=aT Hx;clear Hx;go_wp2_with fail;obtain⟨W3,hP⟩: ∃W3,W3=w2.alloc (.cells #[.string ⟨#[]⟩, .int .i64 2, .int .i64 0, .int .i64 0, .int .i64 0, .string ⟨#[]⟩, .slice none 0 0, .string root.name, .int .i64 root.gen, .int .i64 root.size] 28):=⟨_,rfl⟩;rw[<-hP];have h1:=an (show LkI w2 w2.heap.size W3 (my root)from⟨by rw[hP]; exact eN,⟨none,0,by rw[hP]; exact dY w2 _,cL.nil⟩,Et HR.o⟩)
   obtain⟨ib,Hg⟩: ∃ib,ib=w2.heap.size:=⟨_,rfl⟩;rw[<-Hg]at h1 ⊢;have hs:=an Hg;have h9:=an (cE.below HG.o (by omega) hl);have Hd:=an (aw Hn.o hl);clear hP r0 r1 r2 hl Hg
   go_loopw [33] (fun i wr=> ∃(k:Nat) (it:cr),k<=np/\i= .int .i64 (k:Int)/\mN cs (ps.drop k) it=jW cs root path/\LkI w2 ib wr it) (fun i _=>np-(intOf i).toNat)
   case atStart=>exact⟨0,my root,aX _,rfl,by rw[HM.o,<-HF.o]; rfl,h1.o⟩
   case round=>
    obtain⟨k,it,hk,rfl,Ht,Hh⟩:=hrel;have h2:=an Ht;have ho:=an Hh;obtain⟨ca,cc,Hr,Hw⟩:=Hh.box;have he:=an Hr;have HH:=an Hw;clear Ht Hh Hr Hw h1;have hO:=an ((ho.o.below.block (w.heap.size+1) (by rw[hs.o]; exact az hn.o)).trans hn.o);have Ho:=an (hM.o.trans (ho.o.below.mono (by rw[hs.o]; exact hM.o.size)));have HS:w.heap.size+1≠ib:=by have:=az hn.o; have:=hs.o; omega
    by_cases Hu:k<np
    ·obtain⟨c,hc⟩: ∃c,ps[k]? =some c:=⟨ps[k]'(by rw[<-h7.o]; exact Hu),by simp⟩;obtain⟨pb,po,rfl,HT,hH⟩:=ME h9.o (by have:=ho.o.below; rw[hs.o]at this; exact this) hc;have Hl:=an (show ps.drop k=c::ps.drop (k+1) by
      rw[cI (by rw[<-h7.o]; exact Hu)]
      congr 1
      exact(aN.1 hc).2)
     obtain⟨W4,hQ⟩: ∃W4,W4=wr.alloc (.cells #[.string c] 9):=⟨_,rfl⟩;have hy:Below wr.heap.size wr W4:=by rw[hQ]; exact eN
     have Hk:=an (show W4.cell? ⟨wr.heap.size,0,none⟩=some (.string c) by rw[hQ]; exact(aA (dY wr _)).trans rfl);have hY:=an (ho.o.next hy);have ha:=an (dV hy he.o);have hE:=an (dV hy hO.o);have hU:=an (aw Ho.o hy);have Hm:=an (HI.o.keepL (Hd.o.trans ((ho.o.below.mono (by rw[hs.o]; exact Hd.o.size)).trans (hy.mono (aB Hd.o.size (by have:=ho.o.below.size; exact this))))) (au _))
     clear hc hy
     go_upto_region 8 with(fail)
     rw[<-hQ];clear hQ hH;have i0:=aA (k:=0) ha.o;have i1:=aA (k:=1) ha.o;have i2:=aA (k:=2) ha.o;have i3:=aA (k:=3) ha.o;have i4:=aA (k:=4) ha.o;have i5:=aA (k:=5) ha.o;have i6:=aA (k:=6) ha.o;have i7:=aA (k:=7) ha.o;have i8:=aA (k:=8) ha.o;have i9:=aA (k:=9) ha.o;simp only[fh,ak,am,aj]at i0 i1 i2 i3 i4 i5 i6 i7 i8 i9
     by_cases hq:it.kind=2
     ·have e1:(it.kind != 2)=false:=by simp[hq]
      have hC:=an (show(match jy cs it.node with | .error x=> .error x | .ok l=>match l.find? (fun y=>decide (y.name=c))with | none=> .error 4 | some y=>mN cs (ps.drop (k+1)) y)=jW cs root path by have:=h2.o; rw[Hl.o,mN,if_pos hq]at this; exact this);have hw:=ti _ cv cs it.node W4 Hm.o.cont ho.o.ok.nd Hm.o.env;unfold AE at hw;clear hq
      cases hh:jy cs it.node with
      | error x=>
       rw[hh]at hw;have h4:=an hw;have HD:=an (show jW cs root path= .error x by have:=hC.o; rw[hh]at this; exact this.symm);clear hh hw;go_wp2_with fail;refine h4.o.mono ?_;rintro e w5 ⟨hm,rfl,hx⟩;have hV:=an (aw hU.o hm);have hF:=an (dV hm hE.o);have e2:(x != 0)=true:=by simp[hx]
       have HX:=an hx;clear hx hm i0 i1 i2 i3 i4 i5 i6 i7 i8 i9;obtain⟨z0,z1,z2,z3,z4,z5,z6,z7,z8,z9,_⟩:=aT hF.o;obtain⟨g0,g1,g2,g3,g4,g5,g6,g7,g8,g9,_⟩:=gu hF.o;go_wp2_with fail;refine pi hF.o rfl rfl rfl ⟨ij hV.o (by show w.heap.size<=w.heap.size+1; omega), ?_⟩;rw[HD.o];exact⟨rfl,HX.o⟩
      | ok l=>
       rw[hh]at hw;have h4:=an hw;have hD:=an (show(match l.find? (fun y=>decide (y.name=c))with | none=> .error 4 | some y=>mN cs (ps.drop (k+1)) y)=jW cs root path by have:=hC.o; rw[hh]at this; exact this);have HB:=an (rZ hh);clear hh hw;go_wp2_with fail;refine h4.o.mono ?_;rintro e w5 ⟨hm,v5,rfl,Hj⟩;have hV:=an (aw hU.o hm)
       have hF:=an (dV hm hE.o);have hZ:=an (hY.o.next hm);have hX:=an (dV hm ha.o);have Hz:=an ((hm.cell (p:=⟨wr.heap.size,0,none⟩) (bS Hk.o)).trans Hk.o);obtain⟨a5,cap5,rfl,HK,HL,-⟩:=cL.shape Hj lr.len;unfold maxLen at HL;have Hb:=an Hj;have Hq:=an (show ib<W4.heap.size from az ha.o);obtain⟨nl,hR⟩: ∃nl,nl=l.length:=⟨_,rfl⟩
       rw[<-hR]at Hb HK ⊢;have HE:=an hR;have HQ:nl<=4096:=by rw[hR]; exact HB.o.1
       clear hm Hj hR i0 i1 i2 i3 i4 i5 i6 i7 i8 i9;go_wp2_with fail;refine(yi _ l c wr.heap.size (.slice a5 nl cap5) w5 Hb.o Hz.o).mono ?_;rintro e w6 ⟨rfl,hz⟩;have Hy:=an (aw hV.o hz);have Hf:=an (dV hz hF.o);have h0:=an (hZ.o.next hz);have hb:=an (dV hz hX.o);have hW:=an hz;clear hz
       rcases zq c l 0 with⟨hf,hI⟩ | ⟨j,y,hj,hf,hI⟩
       ·have h3:=an (show jW cs root path= .error 4 by have:=hD.o; rw[hf]at this; exact this.symm);rw[hI];clear hf hI;obtain⟨z0,z1,z2,z3,z4,z5,z6,z7,z8,z9,_⟩:=aT Hf.o;obtain⟨g0,g1,g2,g3,g4,g5,g6,g7,g8,g9,_⟩:=gu Hf.o;go_wp2_with fail;refine pi Hf.o rfl rfl rfl ⟨ij Hy.o (by show w.heap.size<=w.heap.size+1; omega), ?_⟩;rw[h3.o]
        exact⟨rfl,by decide⟩
       ·have h3:=an (show mN cs (ps.drop (k+1)) y=jW cs root path by have:=hD.o; rw[hf]at this; exact this);rw[hI,bX];obtain⟨b7,o7,ca7,cc7,rfl,hJ,hL,HJ,-,hg⟩:=mL Hb.o hW.o hj;have HO:j<nl:=by rw[HE.o]; exact(aN.1 hj).1
        have h8:=an hJ;have Ha:=an hL;have q0:=hg 0 (by omega);have q1:=hg 1 (by omega);have q2:=hg 2 (by omega);have q3:=hg 3 (by omega);have q4:=hg 4 (by omega);have q5:=hg 5 (by omega);have q6:=hg 6 (by omega);have q7:=hg 7 (by omega);have q8:=hg 8 (by omega);have q9:=hg 9 (by omega);simp only[fh,aj,am,de]at q0 q1 q2 q3 q4 q5 q6 q7 q8 q9
        have i0:=aA (k:=0) hb.o;have i1:=aA (k:=1) hb.o;have i2:=aA (k:=2) hb.o;have i3:=aA (k:=3) hb.o;have i4:=aA (k:=4) hb.o;have i5:=aA (k:=5) hb.o;have i6:=aA (k:=6) hb.o;have i7:=aA (k:=7) hb.o;have i8:=aA (k:=8) hb.o;have i9:=aA (k:=9) hb.o;simp only[fh,ak,am,aj]at i0 i1 i2 i3 i4 i5 i6 i7 i8 i9
        obtain⟨g0,g1,g2,g3,g4,g5,g6,g7,g8,g9,_⟩:=gu hb.o;clear hf hI hj hJ hL hg;go_wp2_with fail
        go_roundw
        case rel=>
         refine⟨k+1,y,by omega,by go_num,h3.o,⟨ij h0.o.below (au _),⟨ca7,cc7,Af hb.o,dA.same Ha.o (fun i hi hS=>⟨aR Hq.o hS,mj (by have:=Hq.o; omega)⟩)⟩,h8.o⟩⟩
        case measure=>simp[intOf]; omega
     ·have e1:(it.kind != 2)=true:=by simp[hq]
      have HC:=an (show jW cs root path= .error 4 by have:=h2.o; rw[Hl.o,mN,if_neg hq]at this; exact this.symm);clear hq;obtain⟨z0,z1,z2,z3,z4,z5,z6,z7,z8,z9,_⟩:=aT hE.o;obtain⟨g0,g1,g2,g3,g4,g5,g6,g7,g8,g9,_⟩:=gu hE.o;go_wp2_with fail;refine pi hE.o rfl rfl rfl ⟨ij hU.o (by show w.heap.size<=w.heap.size+1; omega), ?_⟩;rw[HC.o]
      exact⟨rfl,by decide⟩
    ·have hq:k=np:=by omega
     subst hq;have Hs:jW cs root path= .ok it:=by have:=h2.o; rw[h7.o,iW]at this; rw[<-this]; rfl
     have HA:=an Hs;obtain⟨z0,z1,z2,z3,z4,z5,z6,z7,z8,z9,_⟩:=aT hO.o;obtain⟨g0,g1,g2,g3,g4,g5,g6,g7,g8,g9,_⟩:=gu hO.o;have i0:=aA (k:=0) he.o;have i1:=aA (k:=1) he.o;have i2:=aA (k:=2) he.o;have i3:=aA (k:=3) he.o;have i4:=aA (k:=4) he.o;have i5:=aA (k:=5) he.o;have i6:=aA (k:=6) he.o;have i7:=aA (k:=7) he.o
     have i8:=aA (k:=8) he.o;have i9:=aA (k:=9) he.o;simp only[fh,ak,am,aj]at i0 i1 i2 i3 i4 i5 i6 i7 i8 i9;clear Hs;go_wp2_with fail;refine pi hO.o rfl rfl rfl ⟨ij Ho.o (by show w.heap.size<=w.heap.size+1; omega), ?_⟩;rw[HA.o];refine⟨_,rfl,dA.same HH.o (fun k hk hS=>⟨by have:=az hn.o; have:=hs.o; omega,mj (by have:=az hn.o; have:=hs.o; omega)⟩),ho.o.ok⟩
theorem Lm (s:ByteArray) (w:World) (hs:s.size<=16777216):Calls Tryz.prog 87 #[.string s] w fun e w'=> ∃a cap,e= .returned (.slice a (jH (bl s)).length cap)/\(jH (bl s)).length<=cap/\cap<=maxLen/\lF (w.heap.size<= ·) w' (.slice a (jH (bl s)).length cap) (jH (bl s))/\Below w.heap.size w w':=by
 refine(nx s w hs).mono ?_;rintro e w' ⟨v,xs,rfl,hx,hv,hb⟩;have:xs=jH (bl s):=rL (hx.trans (zT _).symm);subst this;obtain⟨a,cap,rfl,h1,h2,_⟩:=hv.shape;exact⟨a,cap,rfl,h1,h2,hv,hb⟩
end Go.Proofs.YtpffpjbkbaleiaaGreatDoor
namespace Go.Proofs.YtpffpjbkbaleiaaGreatDoor
open Go.RowKit
def Bz (d p:List UInt8):Prop:=d=[]\/ ∃r,p=d++47::r
theorem Bz.trans {d p q:List UInt8} (h:Bz d p) (h2:Bz p q) (hp:p≠[]):Bz d q:=by
 rcases h with h | ⟨r,rfl⟩
 ·exact .inl h
 ·rcases h2 with h2 | ⟨s,rfl⟩
  ·exact absurd h2 hp
  ·exact .inr ⟨r++47::s,by simp⟩
theorem vT (p:List UInt8):Bz (cu p) p:=by
 by_cases h:cu p=[]
 ·exact .inl h
 ·exact .inr (qE h)
theorem KX {d p:List UInt8} (h:Bz d p) (hd:d≠[]):cu p=d\/Bz d (cu p):=by
 rcases h with h | ⟨r,h⟩
 ·exact absurd h hd
 ·rcases sF h with h1 | h1
  ·exact .inl h1
  ·exact .inr (.inr h1)
def dz (tree:List dj) (d:ByteArray):List dj:=tree.filter fun e=>decide (cu (bl e.path)=bl d)
theorem ez {tree:List dj} {d:ByteArray} {e:dj} :e∈dz tree d<->e∈tree/\cu (bl e.path)=bl d:=by
 unfold dz; rw[fj,aK]
def oQ (tree:List dj):Nat->ByteArray->List dj
 | 0,_=>[]
 | f+1,d=>(dz tree d).flatMap fun e=>e::(if e.kind=2 then oQ tree f e.path else [])
section
variable {tree : List dj} (h : yM tree)
include h
theorem pK {e:dj} (he:e∈tree):bl e.path≠[]:=xQ (cY (h.val e he))
theorem ES (d:ByteArray): ∀(n:Nat) {e:dj},(bl e.path).length<=n->e∈tree->Bz (bl d) (bl e.path)-> ∃c∈dz tree d,c=e\/(c.kind=2/\Bz (bl c.path) (bl e.path))
 | 0,e,hn,he,_=>absurd (List.length_eq_zero_iff.1 (Nat.le_zero.1 hn)) (pK h he)
 | n+1,e,hn,he,hb=>by
  by_cases hp:cu (bl e.path)=bl d
  ·exact⟨e,ez.2 ⟨he,hp⟩, .inl rfl⟩
  ·have hne:cu (bl e.path)≠[]:=by
    intro h0
    by_cases hd:bl d=[]
    ·exact hp (by rw[h0,hd])
    ·rcases KX hb hd with h1 | h1
     ·exact hp h1
     ·rw[h0]at h1
      rcases h1 with h1 | ⟨r,h1⟩
      ·exact hd h1
      ·simp at h1
   obtain⟨g,hg,ha,hj⟩:=tU (h.up e he) hne;have hh:Bz (bl d) (bl g.path):=by
    rw[ha]
    by_cases hd:bl d=[]
    ·exact .inl hd
    ·exact(KX hb hd).resolve_left hp
   have hk:=fx (cY (h.val e he));have hf:Bz (bl g.path) (bl e.path):=by rw[ha]; exact vT _
   obtain⟨c,hc,h1⟩:=ES d n (e:=g) (by rw[ha]; omega) hg hh;refine⟨c,hc, .inr ?_⟩
   rcases h1 with rfl | ⟨h1,h2⟩
   ·exact⟨hj,hf⟩
   ·exact⟨h1,h2.trans hf (pK h hg)⟩
theorem KW {e x:dj} (he:e∈tree) (hb:Bz (bl e.path) (bl x.path)):nN e x<0:=by
 rcases hb with hb | ⟨r,hb⟩
 ·exact absurd hb (pK h he)
 ·have h1:nN e x<=0:=by unfold nN; rw[hb]; exact AM _ _
  rcases Int.lt_or_eq_of_le h1 with h2 | h2
  ·exact h2
  ·have h3:=oY.1 h2;rw[h3]at hb;have:=congrArg List.length hb;simp at this
theorem CJ {d:ByteArray} {e g x:dj} (he:e∈dz tree d) (hg:g∈dz tree d) (hlt:nN e g<0) (hb:Bz (bl e.path) (bl x.path)):nN x g<0:=by
 obtain⟨ha,hc⟩:=ez.1 he;obtain⟨hf,hd⟩:=ez.1 hg
 rcases hb with hb | ⟨r,hb⟩
 ·exact absurd hb (pK h ha)
 ·rcases Pv (bl x.path) (bl g.path)with h1 | h1 | h1
  ·show fg _ _<0; omega
  all_goals
   exfalso
   have h2:fg (bl g.path) (bl e.path++47::r)<=0:=by
    rw[<-hb,AN]; omega
   rcases uG _ _ _ (show fg (bl e.path) (bl g.path)<=0 from Int.le_of_lt hlt) h2 with h3 | ⟨s,h3⟩
   ·have h4:=oY.2 (jP h3);have h5:=wh e g;omega
   ·have h6:(cu (bl e.path)).length<(bl e.path).length:=fx (cY (h.val e ha))
    rcases sF h3 with h4 | ⟨s',h4⟩
    ·rw[hd,<-hc]at h4;have:=congrArg List.length h4;omega
    ·rw[hd,<-hc]at h4;have:=congrArg List.length h4;simp at this;omega
theorem vG : ∀(f:Nat) (d:ByteArray),512<f+(bl d).length-> ∀e,e∈oQ tree f d<->e∈tree/\Bz (bl d) (bl e.path)
 | 0,d,hf,e=>by
  constructor
  ·intro he; simp[oQ]at he
  ·rintro⟨he,hb⟩
   exfalso
   have h1:=mu (cY (h.val e he))
   rcases hb with hb | ⟨r,hb⟩
   ·rw[hb]at hf; simp at hf
   ·rw[hb]at h1;simp at h1;omega
 | f+1,d,hf,e=>by
  unfold oQ;rw[dG]
  constructor
  ·rintro⟨c,hc,he⟩;obtain⟨hc1,hc2⟩:=ez.1 hc;have hcb:Bz (bl d) (bl c.path):=by rw[<-hc2]; exact vT _
   rcases bh.1 he with rfl | he
   ·exact⟨hc1,hcb⟩
   ·split at he
    ·have ha:=fx (cY (h.val c hc1));rw[hc2]at ha;obtain⟨h1,h2⟩:=(vG f c.path (by omega) e).1 he;exact⟨h1,hcb.trans h2 (pK h hc1)⟩
    ·cases he
  ·rintro⟨he,hb⟩;obtain⟨c,hc,h1⟩:=ES h d _ (au _) he hb;refine⟨c,hc, ?_⟩
   rcases h1 with rfl | ⟨h1,h2⟩
   ·exact List.mem_cons_self
   ·obtain⟨hc1,hc2⟩:=ez.1 hc;have ha:=fx (cY (h.val c hc1));rw[hc2]at ha;rw[if_pos h1];exact gF _ ((vG f c.path (by omega) e).2 ⟨he,h2⟩)
theorem xp : ∀(f:Nat) (d:ByteArray),512<f+(bl d).length->jc (oQ tree f d)
 | 0,_,_=>ff
 | f+1,d,hf=>by
  unfold oQ jc;have hin: ∀c∈dz tree d,512<f+(bl c.path).length:=fun c hc=>by
   obtain⟨hc1,hc2⟩:=ez.1 hc;have hlt:=fx (cY (h.val c hc1));rw[hc2]at hlt;omega
  have hbl: ∀c∈dz tree d,∀x∈(if c.kind=2 then oQ tree f c.path else []),Bz (bl c.path) (bl x.path):=fun c hc x hx=>by
   split at hx
   ·exact((vG h f c.path (hin c hc) x).1 hx).2
   ·cases hx
  rw[List.pairwise_flatMap]
  constructor
  ·intro c hc;rw[fA];refine⟨fun x hx=>KW h (ez.1 hc).1 (hbl c hc x hx), ?_⟩
   split
   ·exact xp f c.path (hin c hc)
   ·exact ff
  ·have hk:jc (dz tree d):=h.ord.filter _;refine List.Pairwise.imp_of_mem (R:=fun a b=>nN a b<0) ?_ hk;intro a b ha hb hab x hx y hy;have h1:nN x b<0:=by
    rcases bh.1 hx with rfl | hx
    ·exact hab
    ·exact CJ h ha hb hab (hbl a ha x hx)
   rcases bh.1 hy with rfl | hy
   ·exact h1
   ·exact rG h1 (KW h (ez.1 hb).1 (hbl b hb y hy))
theorem tE {L:List dj} (hs:jc L):L.Nodup:=by
 have _h:=h;exact List.Pairwise.imp (fun {a b} hab=>by
  intro e; subst e;have h1:=oY (a:=a) (b:=a);have:=h1.2 rfl
  omega) hs
theorem GP {f:Nat} (hf:512<f):oQ tree f ⟨#[]⟩=tree:=by
 have h0:bl (⟨#[]⟩:ByteArray)=[]:=rfl;have hs:=xp h f ⟨#[]⟩ (by omega);refine qN hs h.ord ?_;rw[List.perm_ext_iff_of_nodup (tE h hs) (tE h h.ord)];intro e;rw[vG h f ⟨#[]⟩ (by omega) e];exact⟨fun h1=>h1.1,fun h1=>⟨h1, .inl h0⟩⟩
end
def mM (dir path:List UInt8):List UInt8:=if(path.drop dir.length).head? =some 47 then(path.drop dir.length).tail else path.drop dir.length
theorem BW : ∀ {a b:List UInt8},47∉a->47∉b->fg a b<0->Op.bytesLess a b=true
 | [],[],_,_,h=>by simp[fg]at h
 | [],_::_,_,_,_=>rfl
 | _::_,[],_,_,h=>by simp[fg]at h
 | x::a,y::b,ha,hb,h=>by
  unfold fg at h;unfold Op.bytesLess;simp only[bh,not_or]at ha hb
  by_cases hxy:x=y
  ·rw[if_pos hxy]at h;rw[BW ha.2 hb.2 h,hxy];simp
  ·rw[if_neg hxy]at h;unfold il at h;rw[if_neg (fun e=>ha.1 e.symm),if_neg (fun e=>hb.1 e.symm)]at h;have h1:x<y:=by
    rw[UInt8.lt_iff_toNat_lt];unfold Lib.compareInt at h
    split at h
    ·omega
    ·split at h<;> omega
   simp[h1]
theorem BX : ∀(d a b:List UInt8),fg (d++a) (d++b)=fg a b
 | [],_,_=>rfl
 | x::d,a,b=>by
  rw[aM,aM,fg,if_pos rfl,BX d a b]
theorem NA {t:List UInt8} (h:iK t=true):dB t=true:=by
 have ha:47∉t:=(Cb h).2.2.2;unfold dB;rw[gq 47 t ha];have hl:t.length<=64:=by
  unfold iK at h;simp only[aJ,aK]at h;exact h.1.1.1.1.2
 simp[h];omega
structure qV (d p t : List UInt8) : Prop where
 comp:iK t=true
 path:p=if d=[]then t else d++47::t
 last:mM d p=t
theorem nw {d p:List UInt8} (hv:dB p=true) (hp:cu p=d):qV d p (mM d p):=by
 by_cases hm:(47:UInt8)∈p
 ·obtain⟨q,t,rfl,ht⟩:=nT p hm;rw[lx q t ht]at hp;subst hp;have hl:mM q (q++47::t)=t:=by unfold mM; simp
  have hc:iK t=true:=qQ hv t (by rw[pW,gq 47 t ht]; simp);have hq:q≠[]:=by
   intro h0;subst h0;have:=qQ hv [] (by rw[pW]; simp[dd]);exact absurd this (by decide)
  exact⟨by rw[hl]; exact hc,by rw[hl,if_neg hq],rfl⟩
 ·rw[nX p hm]at hp;subst hp;have ha:=xQ hv;have hc:iK p=true:=qQ hv p (by rw[gq 47 p hm]; simp);have hl:mM [] p=p:=by
   unfold mM
   cases p with
   | nil=>exact absurd rfl ha
   | cons x p=>
    simp only[bo,bT,List.head?_cons,List.tail_cons];rw[if_neg];intro h;rw[br]at h;subst h;exact hm (List.mem_cons_self)
  exact⟨by rw[hl]; exact hc,by rw[hl,if_pos rfl],rfl⟩
theorem qV.no {d p t:List UInt8} (h:qV d p t):47∉t:=(Cb h.comp).2.2.2
theorem LI {d p q s t:List UInt8} (h:qV d p s) (h2:qV d q t) (hlt:fg p q<0):Op.bytesLess s t=true:=by
 refine BW h.no h2.no ?_;rw[h.path,h2.path]at hlt
 split at hlt
 ·exact hlt
 ·rw[BX]at hlt;unfold fg at hlt;rw[if_pos rfl]at hlt;exact hlt
end Go.Proofs.YtpffpjbkbaleiaaGreatDoor
