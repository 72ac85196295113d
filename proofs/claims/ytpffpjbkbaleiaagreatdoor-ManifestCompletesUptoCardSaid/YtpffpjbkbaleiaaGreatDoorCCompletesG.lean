/- Texts of this proof, one after the other: PresA, PresB, MissM, MissL, Refs24, AwP, BldF, BldG, AwQ, R3D, R5, R11, LookB, Luk24, PreP, LastP, GdP. -/
import Derived.Test.YtpffpjbkbaleiaaGreatDoorCCompletesF
set_option maxRecDepth 100000
set_option maxHeartbeats 8000000
namespace Go.Proofs.YtpffpjbkbaleiaaGreatDoor
section
open Go.RowKit
theorem GH (visit:cH->Except Int (List cj)) (cv:Value) (I:World->Prop) (B n:Nat) (hI:GN I B) (hV:LS visit 95 cv I) (IH:LT visit 95 cv I B n):LT visit 95 cv I B (n+1):=by
 intro r st x st' base wb eb sb v w hw Hk h hr hi hB hq;have HI:=ah hI;have HV:=ah hV;have HJ:=ah IH;have HB:=ah hB;have HR:=ah hr;have H:=ah h;have Hr:=ah hi;have HL:=ah Hk;have Hf:=ah hw;have HX:(dC r st.2).length<=st'.2.length:=by
  rw[jx]at hw
  split at hw
  ·simp only[aX,cF]at hw;obtain⟨_,rfl⟩:=hw;exact ai _
  ·split at hw
   ·simp only[aX,cF]at hw;obtain⟨_,rfl⟩:=hw;exact ai _
   ·exact og (pK visit n) _ _ x st' hw
 have yb:=qQ r st.2;have Hp:=ah ((ak w.heap.size w).alloc (ai _) (.cells #[.string r.name, .int .i64 r.gen, .int .i64 r.size] 26));have Hs:=ah (h.below Hp.o);have hC:=ah (aG w (.cells #[.string r.name, .int .i64 r.gen, .int .i64 r.size] 26));have yl:wb<w.heap.size:=am h.box;unfold fi;clear hw h hr hi hI hV IH hB
 go_enter Tryz.func133,Tryz.ntmps133
 go_wp2_with fail;refine(vm base wb eb sb _ v st.1 st.2 r _ Hs.o HR.o (by omega) (by simp; omega)).mono ?_;rintro e w1 ⟨rfl,v1,HA,hZ,HC⟩;have Hb:=ah HA;have hu:=ah (show w1.heap[w.heap.size]? =some (.cells #[.string r.name, .int .i64 r.gen, .int .i64 r.size] 26 (0,0))from(hZ.block w.heap.size (by simp) (fun ho=>by
  rcases ho with e | e | e | e
  ·omega
  ·have:=H.o.exs.map.lt; omega
  ·have:=H.o.see.map.lt; omega
  ·have:=(H.o.row.lt _ e).2; omega)).trans hC.o)
 have H0:=hZ.size;simp at H0;have Hq:=ah (show iq (pk wb eb sb v) w w1 from(iq.of_below Hp.o (S:=pk wb eb sb v)).trans hZ (fun _ _ h=>h));have Hd:=ah (show ∀k,v1.ownBlock=some k->v.ownBlock=some k\/w.heap.size<=k from fun k hk=>by
  rcases HC k hk with e | e
  ·exact .inl e
  ·simp at e; exact .inr (by omega))
 clear HA hZ HC Hs hC;have c1:=bQ (k:=1) Hb.o.box;obtain⟨q0,q1,q2,_⟩:=aS hu.o;simp only[gd]at c1;go_wp2_with fail;refine bL [some 6] (by kernel_rfl) (by kernel_rfl) (by kernel_rfl) ?_;simp only[ed,aR,aZ];obtain⟨W1,Hh⟩:=bI w1.drew;rw[<-Hh];have hf:Below w1.heap.size w1 W1:=by rw[Hh]; exact(ak _ _).drew
 have hl:=ah (Hb.o.below hf);have hd:=ah ((hf.block w.heap.size (by omega)).trans hu.o);have h8:=ah (Hq.o.trans (iq.of_below hf (S:=fun _=>False)) (fun _ _ h=>False.elim h));have yn:=hf.size;clear hf Hb hu Hq c1 q0 q1 q2;have c1:=bQ (k:=1) hl.o.box;have q0:=bQ (k:=0) hd.o;have q1:=bQ (k:=1) hd.o;have q2:=bQ (k:=2) hd.o;have h0:=hl.o.exs.look HR.o
 unfold fi at h0;simp only[gd]at c1 q0 q1 q2;clear Hh
 by_cases hm:r∈st.1
 ·have e1:decide (r∈st.1)=true:=by simp[hm]
  rw[e1]at h0;have hb:=ah (show(x,st')=(0,(st.1,dC r st.2)) by have:=Hf.o; rw[jx,if_pos hm]at this; exact(bK this).symm);clear e1 hm
  repeat (first | (refine cy rfl ?_; simp only[bN]) | (refine cU rfl (fun K hK=> ?_); go_simp; refine hK _ ?_; clear hK K))
  refine cT ?_;go_wp2_with fail;go_ret;obtain⟨e1,e2⟩:=kq hb.o;exact⟨dP e1.symm,v1,by rw[e2]; exact hl.o,h8.o,Hd.o⟩
 ·have e1:decide (r∈st.1)=false:=by simp[hm]
  rw[e1]at h0;have HM:=ah hm;have Hg:=ah (show(match visit r with | .error x=>some (x,(st.1++[r],dC r st.2)) | .ok l=>kH (jx visit n) l (st.1++[r],dC r st.2))=some (x,st') by have:=Hf.o; rw[jx,if_neg hm]at this; exact this);clear e1 hm Hf
  repeat (first | (refine cy rfl ?_; simp only[bN]) | (refine cU rfl (fun K hK=> ?_); go_simp; refine hK _ ?_; clear hK K))
  refine cT ?_;go_wp2_with fail;refine bL [some 5,none] (by kernel_rfl) (by kernel_rfl) (by kernel_rfl) ?_;simp only[ed,aR,aZ,bA,bR]
  repeat (first | (refine cy rfl ?_; simp only[bN]) | (refine cU rfl (fun K hK=> ?_); go_simp; refine hK _ ?_; clear hK K))
  refine cT ?_;refine eu rfl (fun K hK=> ?_);have Ht:=ah (hl.o.below ((ak _ W1).drew));go_wp2_with (at_mapUpdate; go_must (refine mM rfl _ _ _ rfl eb st.1 Ht.o.exs rfl r HR.o rfl rfl HM.o ?_); intro w2 hT Hy);have H7:eb<w.heap.size:=H.o.exs.map.lt;have yc:sb<w.heap.size:=H.o.see.map.lt;have Hm:=H.o.wne;have hP:=H.o.ne;refine bL [some 5,none,some 5] (by kernel_rfl) (by kernel_rfl) (by kernel_rfl) ?_
  simp only[ed,aR,aZ,bA,bR];obtain⟨W2,hX⟩:=bI w2.drew;rw[<-hX];have hv:W1.grownBy W2 (some eb):=by rw[hX]; exact cg (b:=W1.drew) ⟨rfl,rfl,rfl,ai _,fun _ _ _=>rfl⟩ (cg Hy ⟨rfl,rfl,rfl,ai _,fun _ _ _=>rfl⟩)
  have hs:jX W2 eb (st.1++[r]):=by rw[hX]; exact hT.same rfl
  have hU:=ah (show nt W2 base wb eb sb (.func (.func 95) #[cv] #[]) v1 (st.1++[r]) (dC r st.2)from⟨nr hv hl.o.box Hm.1,hs,hl.o.see.same (hv.block sb hl.o.see.map.lt (by simp; exact kT hP)),hl.o.row.kept hv (.inr (fun e=>(hl.o.own e).2.1 rfl)),hP⟩);have hD:=ah (nr hv hd.o (by omega));have h9:=ah (show iq (pk wb eb sb v) w W2 from h8.o.trans (iq.of_grown (S:=fun k=>k=eb) hv (fun k hk=>by cases hk; rfl)) (fun i _ h=> .inr (.inl h)))
  have yp:=hv.size;have HG:=ah (HI.o w W2 Hr.o (xc h9.o (fun k hk=>FU H.o HB.o hk)));clear hX hv hs hT Hy Ht hl hd h8 c1 q0 q1 q2 h0;have c0:=bQ (k:=0) hU.o.box;obtain⟨q0,q1,q2,_⟩:=aS hD.o;simp only[aC,aB]at c0
  repeat (first | (refine cy rfl ?_; simp only[bN]) | (refine cU rfl (fun K hK=> ?_); go_simp; refine hK _ ?_; clear hK K))
  refine cT ?_;refine eu rfl (fun K hK=> ?_);go_wp2_with fail;refine(HV.o W2 r HG.o HR.o).mono ?_;rintro e w3 ⟨hJ,ha⟩;have Hc:=ah (hU.o.below hJ);have Ha:=ah (h9.o.trans (iq.of_below hJ (S:=fun _=>False)) (fun _ _ h=>False.elim h));have H6:=ah hJ;have H4:=hJ.size;clear hJ c0 q0 q1 q2
  cases hA:visit r with
  | error y=>
   rw[hA]at ha;obtain⟨rfl,hy⟩:=ha;have hb:=ah (show(x,st')=(y,(st.1++[r],dC r st.2)) by have:=Hg.o; rw[hA]at this; exact(bK this).symm);have e1:(y != 0)=true:=by simp[hy]
   clear hA hy;go_wp2_with fail
   repeat (first | (refine cy rfl ?_; simp only[bN]) | (refine cU rfl (fun K hK=> ?_); go_simp; refine hK _ ?_; clear hK K))
   refine cT ?_;go_wp2_with fail;go_ret;obtain⟨e1,e2⟩:=kq hb.o;exact⟨dP e1.symm,v1,by rw[e2]; exact Hc.o,Ha.o,Hd.o⟩
  | ok l=>
   rw[hA]at ha;obtain⟨itv,rfl,hx⟩:=ha;have HO:=ah (show kH (jx visit n) l (st.1++[r],dC r st.2)=some (x,st') by have:=Hg.o; rw[hA]at this; exact this);obtain⟨ia,ic,rfl,H8,HS,-⟩:=cN.shape hx lG.len;unfold maxLen at HS;have HK:=ah (show wj w B W2.heap.size w3.heap.size base wb eb sb (.func (.func 95) #[cv] #[]) v (.slice ia l.length ic) l w3 v1 (st.1++[r]) (dC r st.2)from
    ⟨Hc.o,Ha.o,Hd.o,fun k hk=> .inl (hU.o.row.lt k hk).2,⟨by omega,by omega,by omega⟩,⟨by omega,H4,ai _⟩,eP.lt hx⟩)
   clear hA hx Hg hU Hc h9 Ha hD;go_wp2_with fail
   repeat (first | (refine cy rfl ?_; simp only[bN]) | (refine cU rfl (fun K hK=> ?_); go_simp; refine hK _ ?_; clear hK K))
   refine cT ?_;go_wp2_with fail
   go_loopw [40] (fun i wr=> ∃(k:Nat) (v2:Value) (ex2 rs2:List cH),k<=l.length/\i= .int .i64 k/\kH (jx visit n) (l.drop k) (ex2,rs2)=some (x,st')/\wj w B W2.heap.size w3.heap.size base wb eb sb (.func (.func 95) #[cv] #[]) v (.slice ia l.length ic) l wr v2 ex2 rs2) (fun i _=>l.length-(intOf i).toNat)
   ·exact⟨0,v1,_,_,aU _,rfl,HO.o,HK.o⟩
   ·obtain⟨k,v2,ex2,rs2,hk,rfl,HE,Hz⟩:=hrel;have Hw:=ah HE;have hF:=ah Hz;clear HE Hz
    by_cases HW:k<l.length
    ·obtain⟨it,Hn⟩: ∃it,l[k]? =some it:=⟨l[k],by simp[HW]⟩;obtain⟨b,o,ca,cc,rfl,HD,Ho,-,-,hg⟩:=mT hF.o.its (ak _ _) Hn;have hG:=ah (show kH (jx visit n) (it::l.drop (k+1)) (ex2,rs2)=some (x,st') by obtain⟨HT,rfl⟩:=aD.1 Hn;rw[<-cA HT]; exact Hw.o)
     have ya:=Kx hG.o;have HN:=ah HD;have q0:=hg 0 (by omega);have q1:=hg 1 (by omega);have q2:=hg 2 (by omega);have q3:=hg 3 (by omega);have q4:=hg 4 (by omega);have q5:=hg 5 (by omega);have q6:=hg 6 (by omega);have q7:=hg 7 (by omega);have q8:=hg 8 (by omega);have q9:=hg 9 (by omega);simp only[fu,aB,cQ,cZ]at q0 q1 q2 q3 q4 q5 q6 q7 q8 q9
     obtain⟨wo,HZ⟩:=bI wr;subst HZ;have h3:=ah ((ak wo.heap.size wo).alloc (ai _) (.cells #[.string it.name, .int .i64 it.kind, .int .i64 it.mode, .int .i64 it.time, .int .i64 it.size, .string it.link, .slice ca it.chunks.length cc, .string it.node.name, .int .i64 it.node.gen, .int .i64 it.node.size] 28));have Hu:=ah (hF.o.below h3.o);have Hv:=ah (show dN (fun k=>W2.heap.size<=k/\k<w3.heap.size) _ (.slice ca it.chunks.length cc) it.chunks from cN.below Ho (by omega) h3.o (fun _ _ _ h=>h))
     obtain⟨a',cap',HY,HQ,Hi,-⟩:=cN.shape Ho qA.len
     cases HY
     unfold maxLen at Hi;clear Hn HD Ho hg;have hE:=ah (aG wo (.cells #[.string it.name, .int .i64 it.kind, .int .i64 it.mode, .int .i64 it.time, .int .i64 it.size, .string it.link, .slice ca it.chunks.length cc, .string it.node.name, .int .i64 it.node.gen, .int .i64 it.node.size] 28));go_wp2_with fail;clear q0 q1 q2 q3 q4 q5 q6 q7 q8 q9
     go_loopw [47] (fun i wq=> ∃(j:Nat) (v3:Value),j<=it.chunks.length/\i= .int .i64 j/\wj w B W2.heap.size w3.heap.size base wb eb sb (.func (.func 95) #[cv] #[]) v (.slice (some ⟨b,o,none⟩) l.length ic) l wq v3 ex2 (gj (it.chunks.take j) rs2)/\dN (fun k=>W2.heap.size<=k/\k<w3.heap.size) wq (.slice ca it.chunks.length cc) it.chunks/\wq.heap[wo.heap.size]? =some (.cells #[.string it.name, .int .i64 it.kind, .int .i64 it.mode, .int .i64 it.time, .int .i64 it.size, .string it.link, .slice ca it.chunks.length cc, .string it.node.name, .int .i64 it.node.gen, .int .i64 it.node.size] 28 (0,0))) (fun i _=>it.chunks.length-(intOf i).toNat)
     ·exact⟨0,v2,aU _,rfl,Hu.o,Hv.o,hE.o⟩
     ·obtain⟨j,v3,hj,rfl,hN,hR,hL⟩:=hrel;have hp:=ah hN;have hH:=ah hR;have he:=ah hL;clear hN hR hL Hu Hv hE h3
      by_cases Hl:j<it.chunks.length
      ·obtain⟨c,hc⟩: ∃c,it.chunks[j]? =some c:=⟨it.chunks[j],by simp[Hl]⟩;obtain⟨b2,o2,rfl,hM,p0,p1,p2⟩:=nE hH.o (ak _ _) hc;have HF:=ah hM;have HP:=ah (show gj (it.chunks.take (j+1)) rs2=dC c (gj (it.chunks.take j) rs2) by rw[dZ hc,DI]);have H9:=xz it.chunks rs2 j;have hn:=ah ((ak wr.heap.size wr).alloc (ai _) (.cells #[.string c.name, .int .i64 c.gen, .int .i64 c.size] 26))
       have hW:=ah (hp.o.below hn.o);have Hx:base<=(wr.alloc (.cells #[.string c.name, .int .i64 c.gen, .int .i64 c.size] 26)).heap.size:=an hq (an hp.o.gr.size hn.o.size);have h7:=ah Hx;clear hc hM Hx;go_wp2_with fail;refine(vm base wb eb sb _ v3 ex2 _ c _ hW.o.at' HF.o (by omega) h7.o).mono ?_;rintro e w4 ⟨rfl,ha⟩;obtain⟨v4,hh,Hj⟩:=hW.o.step ha
       have hz:=ah hh;have H5:=hn.o.size;have He:=ah (show dN (fun k=>W2.heap.size<=k/\k<w3.heap.size) w4 (.slice (some ⟨b2,o2,none⟩) it.chunks.length cc) it.chunks from dN.same hH.o (fun k hk hS=>⟨hS,(Hj.block k (aO hk H5) (hW.o.notown hS)).trans (hn.o.block k hk)⟩));have hY:=mY he.o (.cells #[.string c.name, .int .i64 c.gen, .int .i64 c.size] 26)
       have h4:=ah ((Hj.block wo.heap.size ((aM.1 hY).1) (hW.o.at'.notown hY (by decide) (by decide))).trans hY);clear ha hh Hj hY p0 p1 p2;go_wp2_with fail
       go_roundw
       ·exact⟨j+1,v4,by omega,by go_num,by rw[HP.o]; exact hz.o,He.o,h4.o⟩
       simp[intOf]; omega
      ·obtain rfl:j=it.chunks.length:=by omega
       rw[bw (ai _)]at hp;have c1:=bQ (k:=1) he.o;have c7:=bQ (k:=7) he.o;have c8:=bQ (k:=8) he.o;have c9:=bQ (k:=9) he.o;simp only[gd]at c1 c7 c8 c9
       rcases xH hG.o with⟨hO,h2⟩ | ⟨hO,y,st2,h1,h2⟩
       ·have e2:(it.kind != 2)=true:=by simp[hO]
        have H2:=ah h2;clear hO h2;go_wp2_with fail
        go_roundw
        ·exact⟨k+1,v3,_,_,by omega,by go_num,H2.o,hp.o⟩
        simp[intOf]; omega
       ·have e2:(it.kind != 2)=false:=by simp[hO]
        have H1:=ah h1;have H2:=ah h2;have HU:st2.2.length<=st'.2.length:=by
         rcases h2 with⟨_,h2⟩ | ⟨_,h2⟩
         ·obtain⟨_,rfl⟩:=kq h2;exact ai _
         ·exact og (pK visit n) _ _ x st' h2
        have HH:=ah (HI.o w wr Hr.o (xc hp.o.gr (fun k hk=>FU H.o HB.o hk)));have h7:=ah (an hq hp.o.gr.size);clear hO h1 h2;go_wp2_with fail;refine(HJ.o it.node (ex2,gj it.chunks rs2) y st2 base wb eb sb v3 wr H1.o (by omega) hp.o.at' HN.o.nd HH.o HB.o h7.o).mono ?_;rintro e w4 ⟨rfl,ha⟩;obtain⟨v4,hh,-⟩:=hp.o.step ha;have hz:=ah hh
        clear ha hh c1 c7 c8 c9
        rcases H2.o with⟨hy,h2⟩ | ⟨hy,h2⟩
        ·have e3:(y != 0)=true:=by simp[hy]
         have hb:=ah h2;clear hy h2;go_wp2_with fail;go_ret;obtain⟨e1,e2⟩:=kq hb.o;exact⟨dP e1.symm,v4,by rw[e2]; exact hz.o.at',hz.o.gr,hz.o.own⟩
        ·subst hy;have H3:=ah h2;clear h2;go_wp2_with fail
         go_roundw
         ·exact⟨k+1,v4,st2.1,st2.2,by omega,by go_num,H3.o,hz.o⟩
         simp[intOf]; omega
    ·obtain rfl:k=l.length:=by omega
     have hb:=ah (show(x,st')=(0,(ex2,rs2)) by have:=Hw.o; rw[gm (ai _)]at this; exact(bK this).symm);go_wp2_with fail;go_ret;obtain⟨e1,e2⟩:=kq hb.o;exact⟨dP e1.symm,v2,by rw[e2]; exact hF.o.at',hF.o.gr,hF.o.own⟩
theorem AQ (visit:cH->Except Int (List cj)) (cv:Value) (I:World->Prop) (B:Nat) (hI:GN I B) (hV:LS visit 95 cv I): ∀n,LT visit 95 cv I B n
 | 0=>by intro r st x st' base wb eb sb v w hw; simp[jx]at hw
 | n+1=>GH visit cv I B n hI hV (AQ visit cv I B hI hV n)
open Go Go.RowKit Go.Maps
theorem FN (visit:cH->Except Int (List cj)) (cv:Value) (I:World->Prop) (n:Nat) (root:cH) (res:Except Int (List cH)) (w:World) (hI:GN I w.heap.size) (hV:LS visit 95 cv I) (hi:I w) (hr:eF root)
  (hn:oK visit n root=some res) (hl: ∀p,jx visit n root ([],[])=some p->p.2.2.length<1099511627775):
  Calls Tryz.prog 94 #[fi root, .func (.func 95) #[cv] #[]] w (Bf res w):=by
 have HI:=ah hI;have HV:=ah hV;have hB:=ah hi;have HR:=ah hr;have HL:=ah hl;have hG:= @run_makeMap Tryz.prog;have hu:=ah ((ak w.heap.size w).alloc (ai _) (.cells #[.string root.name, .int .i64 root.gen, .int .i64 root.size] 26));have hd:=ah (aG w (.cells #[.string root.name, .int .i64 root.gen, .int .i64 root.size] 26));unfold fi;clear hI hV hi hr hl
 cases hv:lF root
 ·have ha:=ah (show res= .error 1 by rw[oK,if_neg (by rw[hv]; simp)]at hn; exact(bK hn).symm);have hp:=ah hv;clear hv hn
  go_enter Tryz.func94,Tryz.ntmps94
  go_wp2_with fail;refine(jw root false _ HR.o hp.o).mono ?_;rintro e w1 ⟨rfl,hc⟩;have hj:=ah (aj hu.o hc);clear hc;go_wp2_with fail
  go_ret2
  exact⟨hj.o,by rw[ha.o]; exact⟨rfl,by decide⟩⟩
 ·have hp:=ah hv;obtain⟨⟨x,st⟩,hs,hf⟩: ∃p,jx visit n root ([],[])=some p/\res=(if p.1=0 then .ok p.2.2 else .error p.1):=by rw[oK,if_pos hv,iu]at hn;obtain⟨p,h1,h2⟩:=hn;exact⟨p,h1,h2.symm⟩
  have hD:=ah hs;have ha:=ah hf;have hC:=ah (HL.o _ hs);clear hv hn hs hf
  go_enter Tryz.func94,Tryz.ntmps94
  go_wp2_with fail;refine(jw root true _ HR.o hp.o).mono ?_;rintro e w1 ⟨rfl,hc⟩;have hj:=ah (aj hu.o hc);have hb:=(hc.block w.heap.size (by simp)).trans hd.o;have he:=ah hb;have hF:=am hb;clear hc hb hd;obtain⟨W,hW⟩:=bI (((w1.alloc (.map #[] 0)).alloc (.map #[] 0)).alloc (.cells #[.func (.func 95) #[cv] #[], .map (some w1.heap.size), .map (some (w1.heap.size+1)), .slice none 0 0] 191))
  have HK:=ah (show nt W w.heap.size (w1.heap.size+1+1) w1.heap.size (w1.heap.size+1) (.func (.func 95) #[cv] #[]) (.slice none 0 0) [] [] by rw[hW]; exact Og);have hq:Below w1.heap.size w1 W:=by rw[hW]; exact((eW).alloc (by simp) _).alloc (by simp; omega) _
  have hg:=ah (aj hj.o hq);have hm:=ah ((hq.block w.heap.size hF).trans he.o);obtain⟨q0,q1,q2,_⟩:=aS hm.o;obtain⟨r0,r1,r2,_⟩:=aS he.o;have hA:=ah (HI.o w W hB.o (iq.of_below hg.o));clear hq
  go_upto_region 4 with(fail)
  rw[<-hW];clear hW;go_wp2_with fail;refine(AQ visit cv I w.heap.size HI.o HV.o n root ([],[]) x st w.heap.size (w1.heap.size+1+1) w1.heap.size (w1.heap.size+1) (.slice none 0 0) W hD.o hC.o HK.o HR.o hA.o ⟨ai _,by omega,by omega,by omega⟩ hg.o.size).mono ?_;rintro e w2 ⟨rfl,v2,hh,hz,hE⟩;have hy:=ah hh;have hw:=ah (show Below w.heap.size w w2 from hg.o.trans (hz.below hg.o.size (fun k hk=>FU HK.o ⟨ai _,by omega,by omega,by omega⟩ hk)))
  obtain⟨a2,c2,rfl⟩:=hh.shape;have d3:=bQ (k:=3) hh.box;simp only[gd]at d3;clear hh hz hE q0 q1 q2 r0 r1 r2
  by_cases hx:x=0
  ·subst hx;have ho:=ah (show res= .ok st.2 by rw[ha.o]; simp);go_wp2_with fail
   go_ret2
   exact⟨hw.o,by rw[ho.o]; exact⟨_,rfl,dN.same (qi hy.o.row hy.o.ok) (fun k _ hS=>⟨hS.1,rfl⟩)⟩⟩
  ·have e1:(x != 0)=true:=by simp[hx]
   have ho:=ah (show res= .error x by rw[ha.o]; simp[hx]);have HX:=ah hx;clear hx;go_wp2_with fail
   go_ret2
   exact⟨hw.o,by rw[ho.o]; exact⟨rfl,HX.o⟩⟩
theorem lO.pres {B:Nat} {cv:Value} {cs:List (ByteArray×List UInt8)} :LS (iQ cs) 95 cv (lO B cv cs):=fun W r hI hr=>(DW (· <B) cv cs r W hI.cont hr hI.env).mono fun _ _ h=>h
def kh (cs:List (ByteArray×List UInt8)) (rs:List cH):List cH:=rs.filter fun r=>(di cs r.name).isNone
def MT (cs:List (ByteArray×List UInt8)) (res:Except Int (List cH)):Except Int (List cH):=match res with
 | .error x=> .error x
 | .ok rs=> .ok (kh cs rs)
theorem Ca {P:Program} {ops:Array Oper} {rest:List Oper} {o:Oper} {a:Act} {Q:Exit->Act->World->Prop} {t e:TypeId} {sz bytes:Nat} (T:kw P t e sz bytes) (hgd:o.guard=none) (s x:Operand)
  (ho:o.op= .call {callee:= .builtin .append,args:= #[s,x],argTypes:= #[t,t]}) (base:Nat) (v:Value) (n:Nat) (xs:List Value) (hs:a.eval s=v) (w0:World) (news:List Value) (e2:TypeId)
  (hx:a.eval x= .slice (some ⟨w0.heap.size,0,none⟩) 1 1) (hl:news.length=sz) (h1: ∀u∈news,u.oneCell'=true) (hown:w0.ownsRow base e sz v n xs) (h63:n+1<=maxLen) (hby:(n+1)*bytes<=140737488355328) (hbase:base<=w0.heap.size)
  (h: ∀v' w',w'.ownsRow base e sz v' (n+1) (xs++news)->w0.grownBy w' v.ownBlock->v'≠ .slice none 0 0->wpList P ops Q rest (a.put o.dst v') w'):wpList P ops Q (o::rest) a (w0.alloc (.cells news.toArray e2)):=by
 obtain⟨ht,⟨i,z,hc,hd,he,hf,hm⟩,hb,hq⟩:=T;have ha: ∀(j:Nat) u,news[j]? =some u->(w0.alloc (.cells news.toArray e2)).cell? ((⟨w0.heap.size,0,none⟩:Addr).add j)=some u:=by intro j u hj;rw[tf,bT];have hh:=aG w0 (.cells news.toArray e2);simp only[World.cell?,hh];simp[hj]
 have hn:news.length=1*sz:=by rw[hl,Nat.one_mul]
 obtain⟨v',w',hr,h2,hg,hv⟩:=run_append_own (P:=P) (w0.alloc (.cells news.toArray e2)) base t o.type e i z sz bytes ht hc hd he hf hm hb v n xs (hown.alloc _) ⟨w0.heap.size,0,none⟩ 1 1 news hn ha h1 h63 hby (by simp; omega);refine fJ hgd fun K hK=> ?_
 unfold Oper.wp execOp;simp only[ho,resolve,invoke,builtin,Sem.run_bind,Sem.run_pure,iJ,jf,bW,fm,hs,hx,hr];refine hK _ _ (h v' w' h2 ⟨hg.os,hg.tape,hg.output,by have:=hg.size; simp at this; omega,fun k hk hp=> ?_⟩ (fun e=>by have:=(hv.1 e).2; omega));rw[hg.block k (by simp; omega) hp];exact cS _ _ _ hk
theorem Fq (cs:List (ByteArray×List UInt8)) (rs:List cH) (r:cH):kh cs (rs++[r])=if(di cs r.name).isNone=true then kh cs rs++[r]else kh cs rs:=by
 unfold kh; rw[gE]
 by_cases h:(di cs r.name).isNone=true<;> simp[List.filter,h]
theorem MC (cs:List (ByteArray×List UInt8)) (rs:List cH):(kh cs rs).length<=rs.length:=dM _ _
theorem tE (S:Nat->Prop) (cv:Value) (cs:List (ByteArray×List UInt8)) (n:Nat) (root:cH) (res:Except Int (List cH)) (w:World) (hc:gy S w cv cs) (henv:oz w) (hr:eF root)
  (hn:oK (iQ cs) n root=some res) (hl: ∀p,jx (iQ cs) n root ([],[])=some p->p.2.2.length<1099511627775) (hle: ∀rs,res= .ok rs->rs.length<1099511627775):
  Calls Tryz.prog 37 #[fi root,cv] w (Bf (MT cs res) w):=by
 have hR: ∀(fn:Fn) (first cap:Array Value) (w:World),(Instr.makeFunc fn first cap).run Tryz.prog w= .ok (.func fn first cap) w:=fun _ _ _ _=>rfl
 have hs:=ah ((ak w.heap.size w).alloc (ai _) (.cells #[.string root.name, .int .i64 root.gen, .int .i64 root.size] 26));have HC:=ah hc;have HI:=ah (lO.start (hc.below hs.o) (henv.below hs.o));have HR:=ah hr;have HN:=ah hn;have HL:=ah hl;unfold fi;clear hc henv hr hn hl
 go_enter Tryz.func37,Tryz.ntmps37
 go_wp2_with fail;refine(FN (iQ cs) cv _ n root res _ lO.keep lO.pres HI.o HR.o HN.o HL.o).mono ?_;rintro e w1 ⟨hD,hj⟩;have ho:=ah (aj hs.o hD);clear hD
 cases res with
 | error x=>
  obtain⟨rfl,hx⟩:=hj;have HX:=ah hx;have e1:(x != 0)=true:=by simp[hx]
  clear hx;go_wp2_with fail
  go_ret2
  exact⟨ho.o,rfl,HX.o⟩
 | ok rs=>
  obtain⟨v,rfl,hv⟩:=hj;have hU:=hle rs rfl;obtain⟨a,cap,rfl,hO,hm,-⟩:=cN.shape hv qA.len;unfold maxLen at hm;have HV:=ah hv;clear hv hle;go_wp2_with fail
  go_loopw [8,25] (fun o i wr=> ∃k:Nat,k<=rs.length/\i= .int .i64 k/\wr.ownsRow w1.heap.size 26 3 o (kh cs (rs.take k)).length ((kh cs (rs.take k)).flatMap jp)/\Below w1.heap.size w1 wr/\ ∀r∈kh cs (rs.take k),eF r) (fun _ i _=>rs.length-(intOf i).toNat)
  ·exact⟨0,aU _,rfl,bM _ _ _ _,ak _ _,by simp[kh]⟩
  ·obtain⟨k,hk,rfl,hg,hb,hE⟩:=hrel;have HO:=ah hg;have HB:=ah hb;have hu:=ah hE;obtain⟨ao,co,rfl,hT,hP⟩:=aH hg;have hA:=MC cs (rs.take k);rw[bn]at hA;clear hg hb hE
   by_cases hN:k<rs.length
   ·obtain⟨r,hr⟩: ∃r,rs[k]? =some r:=⟨rs[k],by simp[hN]⟩;obtain⟨b,o,rfl,hh,q0,q1,q2⟩:=nE HV.o HB.o hr;have hJ:=ah hh;have hC:=ah (show kh cs (rs.take (k+1))=if(di cs r.name).isNone=true then kh cs (rs.take k)++[r]else kh cs (rs.take k) by rw[dZ hr,Fq]);have hq:=hh.nm;clear hr hh
    go_upto_region 8 with(fail)
    obtain⟨W,hW⟩:=bI (wr.alloc (.cells #[.string r.name, .int .i64 r.gen, .int .i64 r.size] 26));rw[<-hW];have hy:Below wr.heap.size wr W:=by rw[hW]; exact eW
    have hH:=ah (show W.heap[wr.heap.size]? =some (.cells #[.string r.name, .int .i64 r.gen, .int .i64 r.size] 26 (0,0)) by rw[hW]; exact aG wr _);have hp:=ah (aj HB.o hy);have hw:=ah (jH HO.o hy);have hB:=ah (HC.o.below (aj ho.o hp.o));have hF:=hp.o.size;obtain⟨p0,p1,p2,_⟩:=aS hH.o;clear hW hy q0 q1 q2
    cases hf:di cs r.name with
    | none=>
     have hM:=hB.o.missM hq hf;have ha:=ah (hC.o.trans (if_pos (by rw[hf]; rfl)));clear hf hq;go_wp2_with (at_builtin; go_must (refine Ca Tryz.appRefs rfl _ _ rfl w1.heap.size (.slice ao (kh cs (rs.take k)).length co) (kh cs (rs.take k)).length ((kh cs (rs.take k)).flatMap jp) rfl W [.string r.name, .int .i64 r.gen, .int .i64 r.size] _ rfl rfl (qY (r:=r)) hw.o (by unfold maxLen; omega) (by omega) hF ?_); intro v' wc he hd _; have hG:=ah (bZ hp.o hw.o hd (ai _) hF); have hI:=ah (show wc.ownsRow w1.heap.size 26 3 v' (kh cs (rs.take (k+1))).length ((kh cs (rs.take (k+1))).flatMap jp) by rw[ha.o,ag,bV]; simpa [jp]using he); obtain⟨ae,ce,rfl,-,-⟩:=aH he; clear he hd)
     go_roundw
     ·refine⟨k+1,by omega,by go_num,hI.o,hG.o, ?_⟩;rw[ha.o];intro x hx
      rcases aN.1 hx with hx | hx
      ·exact hu.o x hx
      ·simp only[aE]at hx; subst hx; exact hJ.o
     simp[intOf]; omega
    | some bs=>
     obtain⟨v,hM,-⟩:=hB.o.hitM hq hf;have ha:=ah (hC.o.trans (if_neg (by rw[hf]; simp)));clear hf hq;go_wp2_with fail
     go_roundw
     ·exact⟨k+1,by omega,by go_num,by rw[ha.o]; exact hw.o,hp.o,by rw[ha.o]; exact hu.o⟩
     simp[intOf]; omega
   ·obtain rfl:k=rs.length:=by omega
    have hL:=ah (show kh cs (rs.take rs.length)=kh cs rs by rw[bw (ai _)]);have hz:=ho.o.size;go_wp2_with fail
    go_ret2
    refine⟨aj ho.o HB.o, ?_⟩
    show ∃v,_/\dN _ _ v (kh cs rs)
    rw[<-hL.o];exact⟨_,rfl,dN.same (qi HO.o hu.o) (fun k _ hS=>⟨an hz hS.1,rfl⟩)⟩
end
section
open Go.RowKit
def OA (cs:List (ByteArray×List UInt8)) (miss:cH->Except Int (List cH)):Prop:= ∀(S:Nat->Prop) (cv:Value) (root:cH) (w:World),gy S w cv cs->oz w->eF root->Calls Tryz.prog 37 #[fi root,cv] w (Bf (miss root) w)
open Go Go.RowKit Go.Maps
theorem FX {cs:List (ByteArray×List UInt8)} {r:cH} {l:List cj} (h:iQ cs r= .ok l) {it:cj} (hit:it∈l): ∀c∈qM it,c∈sA cs:=by
 unfold iQ at h
 cases hn:iz cs r with
 | error x=>
  rw[hn]at h;simp only at h
  split at h
  ·simp only[dr]at h; subst h; simp at hit
  ·simp at h
 | ok l'=>
  rw[hn]at h;simp only[dr]at h;subst h;exact FP hn hit
theorem yr {cs:List (ByteArray×List UInt8)} {U:List cH} (hU: ∀c∈sA cs,c∈U): ∀n,PH U (jx (iQ cs) n) n
 | 0=>fun r st hr hi hn=>by have:=qU hi.e1 hi.e2;omega
 | n+1=>fun r st hr hi hn=>by
  have hm:yA U (st.1,dC r st.2):=⟨hi.e1,hi.e2,qR hi.l1,fun x hx=>by
   rcases nC.1 hx with hx | rfl
   ·exact hi.l2 x hx
   ·exact hr⟩
  rw[jx]
  split
  ·exact⟨0,_,rfl,hm,ai _⟩
  ·rename_i hne;have he:yA U (st.1++[r],dC r st.2):=⟨gR.2 ⟨hi.e1,by simp,fun a ha b hb e=>by simp only[aE]at hb; subst hb e; exact hne ha⟩,fun x hx=>by
    rcases aN.1 hx with hx | hx
    ·exact hi.e2 x hx
    ·simp only[aE]at hx; subst hx; exact hr,hm.l1,hm.l2⟩
   cases hv:iQ cs r with
   | error x=>exact⟨x,_,rfl,he,by simp⟩
   | ok l=>
    obtain⟨x,st',h1,h2,h3⟩:=sM (yr hU n) l (st.1++[r],dC r st.2) (fun it hit c hc=>hU c (FX hv hit c hc)) he (by simp; omega);exact⟨x,st',h1,h2,by simp at h3; omega⟩
theorem ol (cs:List (ByteArray×List UInt8)) (r:cH): ∃x st',jx (iQ cs) (qq cs) r ([],[])=some (x,st')/\yA (r::sA cs) st':=by obtain⟨x,st',h1,h2,_⟩:=yr (cs:=cs) (U:=r::sA cs) (fun c hc=>by simp[hc]) (qq cs) r ([],[]) (by simp) ⟨by simp,by simp,by simp,by simp⟩ (by simp[qq]);exact⟨x,st',h1,h2⟩
def sq (cs:List (ByteArray×List UInt8)) (r:cH):Except Int (List cH):=(oK (iQ cs) (qq cs) r).getD (.error 0)
def MU (cs:List (ByteArray×List UInt8)) (r:cH):Except Int (List cH):=MT cs (sq cs r)
theorem xM {cs:List (ByteArray×List UInt8)} (h:cs.length<=80) (r:cH):oK (iQ cs) (qq cs) r=some (sq cs r)/\ ∀p,jx (iQ cs) (qq cs) r ([],[])=some p->p.2.2.length<=1000000000:=by
 obtain⟨x,st',h1,h2⟩:=ol cs r;refine⟨?_,fun p hp=> ?_⟩
 ·unfold sq;have: ∃y,oK (iQ cs) (qq cs) r=some y:=by
   unfold oK
   split
   ·rw[h1]; exact⟨_,rfl⟩
   ·exact⟨_,rfl⟩
  obtain⟨y,hy⟩:=this;rw[hy]; rfl
 ·rw[h1]at hp;simp only[aX]at hp;subst hp;have h3:=qU h2.l1 h2.l2;have h4:=zw (cs:=cs);have h5:cs.length*3948544<=80*3948544:=dh _ h;simp only[az]at h3;simp only;omega
theorem Nq {cs:List (ByteArray×List UInt8)} (h:cs.length<=80) {r:cH} {l:List cH} (hl:sq cs r= .ok l):l.length<=1000000000:=by
 obtain⟨h1,h2⟩:=xM h r;obtain⟨x,st',h3,_⟩:=ol cs r;have h4:=h2 _ h3;rw[hl]at h1;unfold oK at h1
 split at h1
 ·rw[h3]at h1;simp only[dW,aX]at h1
  split at h1
  ·simp only[dr]at h1; subst h1; exact h4
  ·simp at h1
 ·simp at h1
theorem yJ {cs:List (ByteArray×List UInt8)} (h:cs.length<=80):OA cs (MU cs):=fun S cv root w hc he hr=>by obtain⟨h1,h2⟩:=xM h root;exact tE S cv cs (qq cs) root _ w hc he hr h1 (fun p hp=>by have:=h2 p hp; omega) (fun rs hrs=>by have:=Nq h hrs; omega)
end
section
open Go.RowKit
def xp (c:UInt8):ByteArray:=⟨#[c,49,50,51,52,53,54,55,56,57,97,98,99,100,101,102,48,49,50,51,52,53,54,55,56,57,97,98,99,100,101,102]⟩
def fh :dl:=⟨xp 110,xp 115,xp 99,xp 105,xp 116⟩
def kP :fC:=⟨2,6,1,1,0⟩
def oP :List dd:=[⟨⟨#[97]⟩,1,0,0,[],⟨#[]⟩⟩,⟨⟨#[100]⟩,2,0,0,[],⟨#[]⟩⟩,⟨⟨#[100,47,108]⟩,3,5,6,[],⟨#[97]⟩⟩]
def rQ :List UInt8:=[1,1,108,3,5,6,1,97]
def qZ :cH:=aV fh [] rQ
def tz :cj:=⟨⟨#[97]⟩,1,0,0,0,⟨#[]⟩,[],eq⟩
def LB :cj:=⟨⟨#[100]⟩,2,0,0,0,⟨#[]⟩,[],qZ⟩
def itL :cj:=⟨⟨#[108]⟩,3,5,6,0,⟨#[97]⟩,[],eq⟩
def uf :List UInt8:=gk [tz,LB]
def nh :cH:=aV fh [] uf
def wK :List (ByteArray×List UInt8):=[(nh.name,uf)]
theorem Dr :jK fh=true:=by decide+kernel
theorem Ik :jU kP=true:=by decide+kernel
theorem NZ :iD oP=0:=by decide+kernel
theorem OO :gk [itL]=rQ:=by decide+kernel
theorem Qf :gW oP ⟨#[]⟩=[⟨⟨#[97]⟩,1,0,0,[],⟨#[]⟩⟩,⟨⟨#[100]⟩,2,0,0,[],⟨#[]⟩⟩]:=by decide+kernel
theorem Qg :gW oP ⟨#[100]⟩=[⟨⟨#[100,47,108]⟩,3,5,6,[],⟨#[97]⟩⟩]:=by decide+kernel
theorem Qd :iY [0]=some []:=by kernel_rfl
theorem vn0 :jL []=true:=by decide+kernel
theorem vnL :jL [itL]=true:=by decide+kernel
theorem vnT :jL [tz,LB]=true:=by decide+kernel
theorem QR :qZ≠nh:=by decide+kernel
theorem Qm :qZ.name≠nh.name:=by decide+kernel
theorem QV (n:Nat):gV fh [] kP [] (n+1) ⟨#[]⟩= .ok ([0],[[0]]):=by
 rw[gV,show gZ fh [] kP (gV fh [] kP [] n) ⟨#[]⟩ (gW [] ⟨#[]⟩) [] []= .ok ([],[])from rfl];simp only[if_pos vn0];rw[if_pos (show(gk []).length<=32768 by decide)]
 rfl
theorem Ra :eG fh [] [[0]] []=[⟨aV fh [] [0],[0]⟩]:=by
 show kJ fh [] [] [0]=_
 unfold kJ;rw[if_neg (by simp),aI]
theorem PW :iy fh kP [] []= .ok (aV fh [] [0],[⟨aV fh [] [0],[0]⟩]):=by
 unfold iy;rw[if_pos ⟨Dr,Ik⟩,if_pos (show([]:List (ByteArray×Int)).all (fun p=>decide (0<=p.2) && decide (p.2<=1099511627776))=true from rfl),if_pos (show iD []=0 from rfl),QV 513]
 dsimp only
 rw[Ra]
theorem QQ :eG fh [] [rQ,uf] []=[⟨qZ,rQ⟩,⟨nh,uf⟩]:=by
 unfold eG;rw[ez,ez,List.foldl_nil];have h1:kJ fh [] [] rQ=[⟨qZ,rQ⟩]:=by
  unfold kJ;rw[if_neg (by simp),aI]
  rfl
 rw[h1];unfold kJ;rw[if_neg]
 ·rfl
 ·intro h;simp only[bW,fm,aE]at h;exact QR h.symm
theorem QW (n:Nat):gV fh [] kP oP (n+1) ⟨#[100]⟩= .ok (rQ,[rQ]):=by
 have h:gZ fh [] kP (gV fh [] kP oP n) ⟨#[100]⟩ (gW oP ⟨#[100]⟩) [] []= .ok ([itL],[]):=by rw[Qg]; rfl
 rw[gV,h];simp only[if_pos vnL,OO]
 rfl
theorem QX (n:Nat):gV fh [] kP oP (n+2) ⟨#[]⟩= .ok (uf,[rQ,uf]):=by
 have h:gZ fh [] kP (gV fh [] kP oP (n+1)) ⟨#[]⟩ (gW oP ⟨#[]⟩) [] []= .ok ([tz,LB],[rQ]):=by
  rw[Qf];rw[Aa (by rfl),xr (by rfl),show gV fh [] kP oP (n+1) ⟨#[100]⟩= .ok (rQ,[rQ])from QW n]
  rfl
 rw[gV,h];simp only[if_pos vnT];rw[if_pos (show(gk [tz,LB]).length<=32768 by decide+kernel)]
 rfl
theorem PX :iy fh kP oP []= .ok (nh,[⟨qZ,rQ⟩,⟨nh,uf⟩]):=by
 unfold iy;rw[if_pos ⟨Dr,Ik⟩,if_pos (by rfl),if_pos NZ,show(514:Nat)=512+2 from rfl,QX 512]
 show Except.ok (nh,eG fh [] [rQ,uf] [])=_
 rw[QQ]
theorem Qe :iY uf=some [tz,LB]:=by kernel_rfl
theorem QZ :((uf.length:Nat):Int)=nh.size:=by kernel_rfl
theorem Nb :iz wK nh= .ok [tz,LB]:=by
 have h:iK wK nh= .ok uf:=by
  unfold iK wK;rw[di,if_pos rfl]
  show(if((uf.length:Nat):Int)=nh.size then Except.ok uf else .error 9)=_
  rw[if_pos QZ]
 unfold iz;rw[h];simp only[Qe]
theorem PL :iz wK qZ= .error 10:=by
 have h:iK wK qZ= .error 10:=by unfold iK wK;rw[di,if_neg (fun e=>Qm e.symm),di]
 unfold iz;rw[h]
theorem Oe :lF nh=true:=by decide+kernel
theorem QI (n:Nat):iR wK (ie wK (n+1)) ⟨#[]⟩ [tz,LB] []=(10,[⟨⟨#[97]⟩,1,0,0,[],⟨#[]⟩⟩,⟨⟨#[100]⟩,2,0,0,[],⟨#[]⟩⟩]):=by
 rw[sU (p:=⟨#[97]⟩) (bs:=[]) rfl (by decide+kernel) (by decide) rfl rfl,uC (p:=⟨#[100]⟩) rfl (by decide+kernel) (by decide) rfl];have h1: ∀X,ie wK (n+1) ⟨#[100]⟩ LB.node X=(10,X):=fun X=>by rw[ie,show LB.node=qZ from rfl,PL]
 rw[h1]
 rfl
theorem QJ (n:Nat):ie wK (n+2) ⟨#[]⟩ nh []=(10,[⟨⟨#[97]⟩,1,0,0,[],⟨#[]⟩⟩,⟨⟨#[100]⟩,2,0,0,[],⟨#[]⟩⟩]):=by rw[ie,Nb];exact QI n
theorem QH :lI wK nh= .error 10:=by
 unfold lI;rw[if_pos Oe,show(514:Nat)=512+2 from rfl,QJ 512]
 rfl
theorem QK :lm wK nh ⟨#[97]⟩= .ok tz:=by
 unfold lm;rw[if_pos ⟨by decide+kernel,Oe⟩,show jR (bl ⟨#[97]⟩)=[⟨#[97]⟩] by decide+kernel];rw[pA,if_pos (show(nz nh).kind=2 from rfl),show(nz nh).node=nh from rfl,Nb]
 rfl
theorem Qi :lm wK nh ⟨#[100,47,108]⟩= .error 10:=by
 unfold lm;rw[if_pos ⟨by decide+kernel,Oe⟩,show jR (bl ⟨#[100,47,108]⟩)=[⟨#[100]⟩,⟨#[108]⟩] by decide+kernel];rw[pA,if_pos (show(nz nh).kind=2 from rfl),show(nz nh).node=nh from rfl,Nb]
 show pA wK [⟨#[108]⟩] LB=_
 rw[pA,if_pos (show LB.kind=2 from rfl),show LB.node=qZ from rfl,PL]
theorem QL :MU wK nh= .ok [qZ]:=by kernel_rfl
open Go Go.RowKit Go.Maps
theorem oJ {tree:List dd} {j:Nat} {e:dd} (h:tree[j]? =some e) (d:ByteArray):gW (tree.take (j+1)) d=gW (tree.take j) d++(if cr (bl e.path)=bl d then [e]else []):=by
 unfold gW;rw[dZ h,gE]
 congr 1
 by_cases hp:cr (bl e.path)=bl d
 ·simp[hp]
 ·simp[hp]
theorem uW {G:List Cc} {d:ByteArray} (h:G.find? (fun g=>decide (g.dir=d))=none):mz G d=[]:=by unfold mz; rw[h]
theorem oH {G:List Cc} {d:ByteArray} {g:Cc} (h:G.find? (fun g=>decide (g.dir=d))=some g):mz G d=g.ents.map Prod.snd:=by unfold mz; rw[h]
theorem uX {A B:List Cc} {g g':Cc} (hd:g'.dir=g.dir) (hA: ∀x∈A,x.dir≠g.dir) (d:ByteArray):mz (A++g'::B) d=if g.dir=d then g'.ents.map Prod.snd else mz (A++g::B) d:=by
 by_cases h:g.dir=d
 ·rw[if_pos h];refine oH ?_;rw[iH,eZ.2 (fun x hx=>by rw[aJ]; intro e; exact hA x hx (e.trans h.symm))];simp[hd,h]
 ·rw[if_neg h];unfold mz;rw[iH,iH,List.find?_cons,List.find?_cons,cB (show ¬g'.dir=d by rw[hd]; exact h),cB h]
theorem wW {G:List Cc} {g:Cc} (h:G.find? (fun x=>decide (x.dir=g.dir))=none) (d:ByteArray):mz (G++[g]) d=if g.dir=d then g.ents.map Prod.snd else mz G d:=by
 by_cases hd:g.dir=d
 ·rw[if_pos hd];refine oH ?_;rw[<-hd,iH,h];simp
 ·rw[if_neg hd];unfold mz;rw[iH]
  cases G.find? (fun x=>decide (x.dir=d))with
  | none=>simp[hd]
  | some x=>simp
section
variable {w w1 w2 : World} {base im : Nat} {A B G : List Cc} {g : Cc} {v' : Value} {y : oU} {q : ByteArray}
theorem qz.over (h:qz w base im (A++g::B)) (hb:base<=im) (hd:el (· <base) w y.1 y.2.data/\jP y.2) (hown:w1.ownsRow base 79 6 v' (g.ents.length+1) (iE g.ents++vC y.1 y.2)) (hg:w.grownBy w1 g.val.ownBlock) (hpl: ∀i,v'.ownBlock=some i->g.val.ownBlock=some i\/w.heap.size<=i)
  (hm:ik Tryz.prog 9 w2 im (A.map nY++(.string g.dir,v')::B.map nY)) (hg2:w1.grownBy w2 (some im)):qz w2 base im (A++⟨g.dir,v',g.ents++[y]⟩::B):=by
 have hj:w.ownsRow base 79 6 g.val g.ents.length (iE g.ents):=h.own g (by simp);have hq:w.heap[im]? =w1.heap[im]? ->True:=fun _=>trivial
 have hh: ∀ {u:Value} {n:Nat} {xs:List Value} {t:TypeId} {sz:Nat},w1.ownsRow base t sz u n xs->w2.ownsRow base t sz u n xs:=fun {u n xs t sz} hr=>by
  refine hr.kept hg2 (.inr (fun e=> ?_));obtain⟨cs,hc⟩:=bJ hr e;have h0:=h.map.lt;have hi:w1.heap[im]? =w.heap[im]? :=hg.block im h0 (fun e2=>by obtain⟨cs2,hk⟩:=bJ hj e2.symm;exact h.map.ncells hk)
  exact h.map.ncells (hi.symm.trans hc)
 have he: ∀x,x∈A\/x∈B-> ∀i,x.val.ownBlock=some i->g.val.ownBlock≠some i:=by
  intro x hx i hi;have hp:=dS.1 h.apart
  rcases hx with hx | hx
  ·exact hp.2.2 x hx g (by simp) i hi
  ·intro e;exact(fc.1 hp.2.1).1 x hx i e hi
 have ha: ∀ {u:Value} {bs:List UInt8},el (· <base) w u bs->el (· <base) w2 u bs:=fun {u bs} hu=>by
  refine cD.same hu (fun i hi=>(hg2.block i ?_ ?_).trans (hg.block i ?_ ?_))
  ·by_cases hl:i<w.heap.size
   ·exact aO hl hg.size
   ·exact absurd h.map.lt (by omega)
  ·intro e;have:i=im:=by simpa using e
   omega
  ·have:=h.map.lt;omega
  ·intro e;have:=(hj.lt i e.symm).1;omega
 have hn: ∀x,x∈A++g::B->(x∈A\/x∈B)\/x=g:=by
  intro x hx;simp only[aN,aT]at hx
  rcases hx with hx | hx | hx
  ·exact .inl (.inl hx)
  ·exact .inr hx
  ·exact .inl (.inr hx)
 refine⟨by simpa [nY]using hm,fun x hx=> ?_,fun x hx z hz=> ?_, ?_,fun x hx=> ?_⟩
 ·simp only[aN,aT]at hx
  rcases hx with hx | hx | hx
  ·refine hh ((h.own x (by simp[hx])).kept hg ?_)
   cases hv:x.val.ownBlock with
   | none=>exact .inl rfl
   | some i=>exact .inr (fun e=>he x (.inl hx) i hv e.symm)
  ·subst hx;simp only;rw[ag,bB,wV];exact hh hown
  ·refine hh ((h.own x (by simp[hx])).kept hg ?_)
   cases hv:x.val.ownBlock with
   | none=>exact .inl rfl
   | some i=>exact .inr (fun e=>he x (.inr hx) i hv e.symm)
 ·simp only[aN,aT]at hx
  rcases hx with hx | hx | hx
  ·have:=h.dat x (by simp[hx]) z hz;exact⟨ha this.1,this.2⟩
  ·subst hx
   rcases aN.1 hz with hz | hz
   ·have:=h.dat g (by simp) z hz;exact⟨ha this.1,this.2⟩
   ·rw[aE]at hz;subst hz;exact⟨ha hd.1,hd.2⟩
  ·have:=h.dat x (by simp[hx]) z hz;exact⟨ha this.1,this.2⟩
 ·have hp:=dS.1 h.apart;have hc:=fc.1 hp.2.1;have hf: ∀x,x∈A\/x∈B-> ∀i,x.val.ownBlock=some i->i<w.heap.size:=by
   intro x hx i hi;have ho:x∈A++g::B:=by rcases hx with hx | hx<;> simp[hx]
   exact((h.own x ho).lt i hi).2
  refine dS.2 ⟨hp.1,fc.2 ⟨fun x hx i hi e=> ?_,hc.2⟩,fun x hx z hz i hi e=> ?_⟩
  ·rcases hpl i hi with h2 | h2
   ·exact hc.1 x hx i h2 e
   ·have:=hf x (.inr hx) i e;omega
  ·rcases aT.1 hz with hz | hz
   ·subst hz
    rcases hpl i e with h2 | h2
    ·exact he x (.inl hx) i hi h2
    ·have:=hf x (.inl hx) i hi;omega
   ·exact hp.2.2 x hx z (by simp[hz]) i hi e
 ·simp only[aN,aT]at hx
  rcases hx with hx | hx | hx
  ·exact h.key x (by simp[hx])
  ·subst hx;exact h.key g (by simp)
  ·exact h.key x (by simp[hx])
theorem qz.new (h:qz w base im G) (hb:base<=im) (hq:q.size<=maxLen) (hd:el (· <base) w y.1 y.2.data/\jP y.2) (hown:w1.ownsRow base 79 6 v' 1 (vC y.1 y.2)) (hg:w.grownBy w1 none) (hpl: ∀i,v'.ownBlock=some i->w.heap.size<=i)
  (hm:ik Tryz.prog 9 w2 im (G.map nY++[(.string q,v')])) (hg2:w1.grownBy w2 (some im)):qz w2 base im (G++[⟨q,v',[y]⟩]):=by
 have he: ∀ {u:Value} {n:Nat} {xs:List Value} {t:TypeId} {sz:Nat},w1.ownsRow base t sz u n xs->w2.ownsRow base t sz u n xs:=fun {u n xs t sz} hr=>by refine hr.kept hg2 (.inr (fun e=> ?_));obtain⟨cs,hc⟩:=bJ hr e;have h0:=h.map.lt;have hi:w1.heap[im]? =w.heap[im]? :=hg.block im h0 (by simp);exact h.map.ncells (hi.symm.trans hc)
 have ha: ∀ {u:Value} {bs:List UInt8},el (· <base) w u bs->el (· <base) w2 u bs:=fun {u bs} hu=>by
  have h0:=h.map.lt;refine cD.same hu (fun i hi=>(hg2.block i ?_ ?_).trans (hg.block i ?_ (by simp)))
  ·have:=hg.size;omega
  ·intro e;have:i=im:=by simpa using e
   omega
  ·skip
   omega
 refine⟨by simpa [nY]using hm,fun x hx=> ?_,fun x hx z hz=> ?_,dS.2 ⟨h.apart,by simp,fun x hx z hz i hi e=> ?_⟩,fun x hx=> ?_⟩
 ·rcases aN.1 hx with hx | hx
  ·exact he ((h.own x hx).kept hg (by cases hv:x.val.ownBlock<;> simp))
  ·rw[aE]at hx;subst hx
   simpa [iE]using he hown
 ·rcases aN.1 hx with hx | hx
  ·have:=h.dat x hx z hz;exact⟨ha this.1,this.2⟩
  ·rw[aE]at hx;subst hx;simp only[aE]at hz;subst hz;exact⟨ha hd.1,hd.2⟩
 ·rw[aE]at hz;subst hz;have h1:=hpl i e;have h2:=((h.own x hx).lt i hi).2;omega
 ·rcases aN.1 hx with hx | hx
  ·exact h.key x hx
  ·rw[aE]at hx;subst hx;exact hq
end
def Jm (k:dl) (gs:List (ByteArray×Int)) (c:fC) (tree:List dd):List cH:=
 (tree.flatMap fun e=>(fO c e.data).map (aV k gs))++(List.range 515).flatMap fun n=>(⟨#[]⟩::tree.map dd.path).flatMap fun d=>match gV k gs c tree n d with
  | .ok p=>[aV k gs p.1]
  | .error _=>[]
theorem GW {k:dl} {gs:List (ByteArray×Int)} {c:fC} {tree:List dd} (hc:jU c=true) (hl:tree.length<=4096) (hv: ∀e∈tree,ig e=true):(Jm k gs c tree).length<=100000000000:=by
 have h1:=mP (fun e:dd=>(fO c e.data).map (aV k gs)) 1048576 tree (fun e he=>by
  rw[aw];have:=Bu hc e.data;have:=(my (hv e he)).2.2
  omega)
 have h2:=mP (fun n:Nat=>(⟨#[]⟩::tree.map dd.path).flatMap fun d=>match gV k gs c tree n d with
  | .ok p=>[aV k gs p.1]
  | .error _=>[]) 4097 (List.range 515) (fun n _=>by
   have h3:=mP (fun d=>match gV k gs c tree n d with
    | .ok p=>[aV k gs p.1]
    | .error _=>[]) 1 (⟨#[]⟩::tree.map dd.path) (fun d _=>by cases gV k gs c tree n d<;> simp)
   simp only[az,aw]at h3
   omega)
 rw[List.length_range]at h2;have h4:tree.length*1048576<=4096*1048576:=dh _ hl;unfold Jm;rw[ag];omega
theorem GX {k:dl} {gs:List (ByteArray×Int)} {c:fC} {tree:List dd} : ∀e∈tree,∀y∈fO c e.data,aV k gs y∈Jm k gs c tree:=fun e he y hy=>
 aN.2 (.inl (cO.2 ⟨e,he,aP.2 ⟨y,hy,rfl⟩⟩))
theorem GY {k:dl} {gs:List (ByteArray×Int)} {c:fC} {tree:List dd} : ∀(n:Nat) (d:ByteArray) (p:List UInt8×List (List UInt8)),n<=514->(d.size=0\/ ∃e∈tree,e.path=d)->gV k gs c tree n d= .ok p->aV k gs p.1∈Jm k gs c tree:=fun n d p hn hd hp=>by
 refine aN.2 (.inr (cO.2 ⟨n,dU.2 (by omega),cO.2 ⟨d, ?_, ?_⟩⟩))
 ·rcases hd with hd | ⟨e,he,rfl⟩
  ·have:d=⟨#[]⟩:=by
    apply kr
    exact bq (by rw[<-bi]; exact hd)
   simp[this]
  ·exact eB _ (aP.2 ⟨e,he,rfl⟩)
 ·rw[hp]; simp
theorem Ju {a:Act} {w:World} {b:Nat} {x0 x1 x2 e9 e10:Value} (h:w.heap[b]? =some (.cells #[x0,x1,x2] 26 (0,0)))
  (h8:a.tmps[8]? =some (.pointer (some ⟨b,0,none⟩))) (h9:a.tmps[9]? =some e9) (h10:a.tmps[10]? =some e10):(results Tryz.f22 a.tmps).run Tryz.prog w= .ok (.tuple #[.agg #[x0,x1,x2],e9,e10]) w:=by
 obtain⟨m0,m1,m2,_⟩:=aS h;simp[results,Tryz.results22,go_sem,h8,h9,h10,m0,m1,m2]
theorem kj {a:Act} {w:World} {b:Nat} {a0 a1 a2 x0 x1 x2 e9 e10:Value} {Q:Ending->World->Prop} (h:w.heap[b]? =some (.cells #[a0,a1,a2] 26 (0,0)))
  (h8:a.tmps[8]? =some (.pointer (some ⟨b,0,none⟩))) (h9:a.tmps[9]? =some e9) (h10:a.tmps[10]? =some e10) (hd:a.defers=[])
  (hQ:Q (.returned (.tuple #[.agg #[x0,x1,x2],e9,e10])) (((w.setCell ⟨b,0,none⟩ x0).setCell ⟨b,1,none⟩ x1).setCell ⟨b,2,none⟩ x2)):
  bodyPost Tryz.prog Tryz.f22 Q Exit.ret a (((w.setCell ⟨b,0,none⟩ x0).setCell ⟨b,1,none⟩ x1).setCell ⟨b,2,none⟩ x2):=cP (Ju (vu h) h8 h9 h10) hd hQ
def sY (res:Except Int (cH×List dt)) (w:World) (e:Ending) (w':World):Prop:=Below w.heap.size w w'/\match res with
 | .error x=>e= .returned (.tuple #[.agg #[.string ⟨#[]⟩, .int .i64 0, .int .i64 0], .slice none 0 0, .int .i64 x])/\x≠0
 | .ok p=> ∃v zs,e= .returned (.tuple #[fi p.1,v, .int .i64 0])/\zs.map Prod.snd=p.2/\iw w' w.heap.size v zs
theorem iw.other {w w':World} {base B b:Nat} {v:Value} {zs:List mN} {cs:Array Value} {t:TypeId} {z:Nat×Nat} (h:iw w base v zs) (hb:w.heap[b]? =some (.cells cs t z)) (h1:t≠53) (h2:t≠5) (hB:B<=base) (hs: ∀i,i≠b->w'.heap[i]? =w.heap[i]?):iw w' B v zs:=by
 refine⟨gB (ff h.row (fun i hi hu=>hs i (fun e=> ?_))) hB,fun y hy=>gB (ff (h.dat y hy) (fun i hi hu=>hs i (fun e=> ?_))) hB⟩
 ·subst e;obtain⟨cs2,ha⟩:=bJ h.row hu;exact h1 (bU hb ha)
 ·subst e;obtain⟨cs2,ha⟩:=bJ (h.dat y hy) hu;exact h2 (bU hb ha)
theorem Ig (S:Nat->Prop) (L:List dd) (v:Value) (x:Int) (w:World) (hv:dY S w v L) (henv:oz w) (hx:iD L=x):Calls Tryz.prog 71 #[v] w fun e w'=>e= .returned (.int .i64 x)/\Below w.heap.size w w':=by rw[<-hx]; exact JC S L v w hv henv
theorem kL.nilKeep {w w':World} {base bb im kb:Nat} {k:dl} {c:fC} {gv:Value} (h:kL w base bb k c gv im kb (.slice none 0 0) []) (hs:w'.heap[bb]? =w.heap[bb]?) (hk:w'.heap[kb]? =w.heap[kb]?):kL w' base bb k c gv im kb (.slice none 0 0) []:=
 ⟨hs.trans h.box,⟨[],rfl,bM _ _ _ _,by simp⟩,h.known.same hk⟩
structure BgI (w4 : World) (base bb im kb : Nat) (k : dl) (c : fC) (gv : Value) (T : List dd) (wr : World) (G : List Cc) : Prop where
 bd:kL wr base bb k c gv im kb (.slice none 0 0) []
 grp:qz wr base im G
 ents: ∀d,mz G d=gW T d
 below:Below base w4 wr
theorem uc (S T:Nat->Prop) (k:dl) (c:fC) (tree:List dd) (gs:List (ByteArray×Int)) (tv gv:Value) (w:World) (hsd:c.seed<18446744073709551616) (ht:dY S w tv tree) (hg:kZ T w gv gs) (hE:rP w):
  Calls Tryz.prog 22 #[kF k,kB c,tv,gv] w (sY (iy k c tree gs) w):=by
 obtain⟨ta,tc,rfl,ZQ,ZP,-⟩:=cN.shape ht mj.len;unfold maxLen at ZP;obtain⟨n,hn⟩:=bI tree.length;rw[<-hn]at ht ZQ ⊢;have HN:=ah hn;have HT:=ah ht;have HG:=ah hg;have HE:=ah hE;obtain⟨W0,Yk⟩:=bI (((w.alloc (.cells #[.string k.nm, .string k.st, .string k.ck, .string k.ix, .string k.tk] 42)).alloc (.cells #[.int .i64 c.mn, .int .i64 c.mx, .int .i64 c.win, .int .i64 c.bits, .int .u64 (c.seed:Int)] 45)).alloc (.cells #[.string ⟨#[]⟩, .int .i64 0, .int .i64 0] 26))
 have Yl:Below w.heap.size w W0:=by rw[Yk]; exact((eW).alloc (by simp) _).alloc (by simp; omega) _
 have Zk:=ah Yl;have Zp:=ah (show W0.heap[w.heap.size]? =some (.cells #[.string k.nm, .string k.st, .string k.ck, .string k.ix, .string k.tk] 42 (0,0)) by rw[Yk]; exact mY (mY (ep w _) _) _);have Zz:=ah (show W0.heap[w.heap.size+1]? =some (.cells #[.int .i64 c.mn, .int .i64 c.mx, .int .i64 c.win, .int .i64 c.bits, .int .u64 (c.seed:Int)] 45 (0,0)) by rw[Yk]; exact mY (qa w _ _) _)
 have Zr:=ah (show W0.heap[w.heap.size+2]? =some (.cells #[.string ⟨#[]⟩, .int .i64 0, .int .i64 0] 26 (0,0)) by
  rw[Yk];have:=ep ((w.alloc (.cells #[.string k.nm, .string k.st, .string k.ck, .string k.ix, .string k.tk] 42)).alloc (.cells #[.int .i64 c.mn, .int .i64 c.mx, .int .i64 c.win, .int .i64 c.bits, .int .u64 (c.seed:Int)] 45)) (.cells #[.string ⟨#[]⟩, .int .i64 0, .int .i64 0] 26);rw[show((w.alloc (.cells #[.string k.nm, .string k.st, .string k.ck, .string k.ix, .string k.tk] 42)).alloc (.cells #[.int .i64 c.mn, .int .i64 c.mx, .int .i64 c.win, .int .i64 c.bits, .int .u64 (c.seed:Int)] 45)).heap.size=w.heap.size+2 by simp]at this
  exact this)
 have Zf:=yV k W0 (hE.below Yl).envh;unfold kF at Zf ⊢;unfold kB;have YO:=ah Zf;clear ht hg hE hn Yl Zf
 go_enter Tryz.func22,Tryz.ntmps22
 go_upto_region 1 with(fail)
 rw[<-Yk];clear Yk;obtain⟨a0,a1,a2,a3,a4,_⟩:=aS Zp.o
 cases H4:jK k with
 | false=>
  rw[H4]at YO;have HM:=ah (show iy k c tree gs= .error 1 by unfold iy; rw[if_neg (by rw[H4]; simp)]);clear H4;go_wp2_with fail;refine YO.o.mono ?_;rintro e w1 ⟨⟨sv,rfl⟩,HU⟩;have YM:=ah (aj Zk.o HU);have Yj:=ah (er HU Zr.o);clear HU a0 a1 a2 a3 a4;obtain⟨z0,z1,z2,_⟩:=aS Yj.o;obtain⟨y0,y1,y2,_⟩:=gI Yj.o;go_wp2_with fail;refine kj Yj.o rfl rfl rfl rfl ⟨il YM.o (by show w.heap.size<=w.heap.size+2; omega), ?_⟩
  rw[HM.o];exact⟨rfl,by decide⟩
 | true=>
  rw[H4]at YO;have Zo:=ah H4;go_wp2_with fail;refine YO.o.mono ?_;rintro e w1 ⟨⟨sv,rfl⟩,HU⟩;have YM:=ah (aj Zk.o HU);have ZT:=ah HU;have Yj:=ah (er HU Zr.o);have ZC:=ah (er HU Zp.o);have Zl:=ah (er HU Zz.o);clear HU a0 a1 a2 a3 a4;obtain⟨b0,b1,b2,b3,b4,_⟩:=aS Zl.o
  cases H2:jU c with
  | false=>
   have Yn:=ah H2;have HM:=ah (show iy k c tree gs= .error 1 by unfold iy; rw[if_neg (by rw[H2]; simp)]);have Yc:=oE c false w1 H2;unfold kB at Yc;have Y9:=ah Yc;clear H4 H2 Yc;go_wp2_with fail;refine Y9.o.mono ?_;rintro e w2 ⟨rfl,HZ⟩;have Yi:=ah (aj YM.o HZ);have yv:=ah (er HZ Yj.o);clear HZ b0 b1 b2 b3 b4;obtain⟨z0,z1,z2,_⟩:=aS yv.o
   obtain⟨y0,y1,y2,_⟩:=gI yv.o;go_wp2_with fail;refine kj yv.o rfl rfl rfl rfl ⟨il Yi.o (by show w.heap.size<=w.heap.size+2; omega), ?_⟩;rw[HM.o];exact⟨rfl,by decide⟩
  | true=>
   have Yn:=ah H2;have Y3:=ah (show iy k c tree gs=(if(gs.all fun p=>decide (0<=p.2) && decide (p.2<=1099511627776))=true then
    (if iD tree=0 then(match gV k gs c tree 514 ⟨#[]⟩with
     | .error x=> .error x
     | .ok p=> .ok (aV k gs p.1,eG k gs p.2 []))
    else .error (iD tree))else .error 1) by unfold iy; rw[if_pos ⟨H4,H2⟩]; rfl)
   have Yc:=oE c true w1 H2;unfold kB at Yc;have Y9:=ah Yc;clear H4 H2 Yc;go_wp2_with fail;refine Y9.o.mono ?_;rintro e w2 ⟨rfl,HZ⟩;have Yi:=ah (aj YM.o HZ);have yv:=ah (er HZ Yj.o);have Zn:=ah (er HZ ZC.o);have Zm:=ah (er HZ Zl.o);clear HZ b0 b1 b2 b3 b4
   rcases HG.o with⟨rfl,Zt⟩ | ⟨gb,rfl,ZF,YQ⟩
   ·have ZB:=ah Zt;have hr:=fun(w:World)=>run_range_nilMap (P:=Tryz.prog) w 47 9 3 Tryz.underlying47
    have Zu:=fun(w:World) (ty:TypeId) (a b:Nat) (s:Array Nat)=>run_next_nilMap (P:=Tryz.prog) w ty a b s
    clear Zt;go_wp2_with fail;obtain⟨W3,YP⟩:=bI (w2.alloc (.mapIter none 0 #[] 0));have ZL: ∀ty,(Instr.next (.pointer (some ⟨w2.heap.size,0,none⟩)) false ty).run Tryz.prog W3= .ok (.tuple #[.bool false]) W3:=by rw[YP]; exact fun ty=>Zu w2 ty _ _ _
    have Yy:Below w2.heap.size w2 W3:=by rw[YP]; exact eW
    have H7:=ah (aj Yi.o Yy);have Y6:=ah (er Yy yv.o);have Y1:=ah (er Yy Zn.o);have YV:=ah (er Yy Zm.o);have Hu:=ah (show gs.all (fun p=>decide (0<=p.2) && decide (p.2<=1099511627776))=true by rw[ZB.o]; rfl);rw[<-YP];clear hr Zu Yy YP
    go_loopw [14] (fun _ wr=>wr=W3) (fun _ _=>0)
    ·rfl
    ·subst hrel
     go_upto_region 9 with(fail)
     have Yr:=ah (show iy k c tree gs=(if iD tree=0 then(match gV k gs c tree 514 ⟨#[]⟩with
      | .error x=> .error x
      | .ok p=> .ok (aV k gs p.1,eG k gs p.2 []))
     else .error (iD tree)) by rw[Y3.o,if_pos Hu.o])
     have YI:dY S (wr) (.slice ta n tc) tree:=dY.below HT.o H7.o;have YB:=HE.o.below H7.o;obtain⟨x,hx⟩: ∃x,iD tree=x:=⟨_,rfl⟩;have Yz:=Ig S tree (.slice ta n tc) x (wr) YI YB.env hx;have YX:=ah Yz;have hN:=ah hx;clear YI YB Yz hx;go_wp2_with fail;refine YX.o.mono ?_;rintro e w4 ⟨rfl,HC⟩;have HV:=ah (aj H7.o HC);have Hq:=ah (er HC Y6.o)
     have Y2:=ah (er HC Y1.o);have YW:=ah (er HC YV.o);clear HC
     by_cases Hm:x=0
     ·have e1:(x != 0)=false:=by simp[Hm]
      have Hs:=ah (pP.1 (hN.o.trans Hm));have Ys:=ah (show iy k c tree gs=(match gV k gs c tree 514 ⟨#[]⟩with
       | .error x=> .error x
       | .ok p=> .ok (aV k gs p.1,eG k gs p.2 [])) by rw[Yr.o,if_pos (hN.o.trans Hm)])
      clear Hm;obtain⟨a0,a1,a2,a3,a4,_⟩:=aS Y2.o;obtain⟨b0,b1,b2,b3,b4,_⟩:=aS YW.o;have Zb:= @run_makeMap Tryz.prog
      go_upto_region 13 with(fail)
      obtain⟨W5,Hd⟩:=bI (((w4.alloc (.map #[] 0)).alloc (.map #[] 0)).alloc (.cells #[.string k.nm, .string k.st, .string k.ck, .string k.ix, .string k.tk, .int .i64 c.mn, .int .i64 c.mx, .int .i64 c.win, .int .i64 c.bits, .int .u64 (c.seed:Int), .map none, .map (some w4.heap.size), .slice none 0 0, .map (some (w4.heap.size+1))] 122));rw[<-Hd];obtain⟨base,hk⟩:=bI w4.heap.size;rw[<-hk]at Hd ⊢
      have Zy:=ah hk;have HD:BgI w4 base (base+1+1) base (base+1) k c (.map none) [] W5 []:=by
       have e1:(w4.alloc (.map #[] 0)).heap.size=base+1:=by simp[hk]
       have e2:((w4.alloc (.map #[] 0)).alloc (.map #[] 0)).heap.size=base+1+1:=by simp[hk]
       have h1:=ik.made (P:=Tryz.prog) (k:=9) w4;have h2:=jX.made (w4.alloc (.map #[] 0));rw[e1]at h2;rw[<-hk]at h1;have h3:=ep ((w4.alloc (.map #[] 0)).alloc (.map #[] 0)) (.cells #[.string k.nm, .string k.st, .string k.ck, .string k.ix, .string k.tk, .int .i64 c.mn, .int .i64 c.mx, .int .i64 c.win, .int .i64 c.bits, .int .u64 (c.seed:Int), .map none, .map (some base), .slice none 0 0, .map (some (base+1))] 122)
       rw[e2]at h3;have YH:W5.heap[base]? =(w4.alloc (.map #[] 0)).heap[base]? :=by rw[Hd]; exact(cS _ _ _ (by rw[e2]; omega)).trans (cS _ _ _ (by rw[e1]; omega))
       have Ze:W5.heap[base+1]? =((w4.alloc (.map #[] 0)).alloc (.map #[] 0)).heap[base+1]? :=by rw[Hd]; exact cS _ _ _ (by rw[e2]; omega)
       refine⟨⟨by rw[Hd]; exact h3,⟨[],rfl,bM _ _ _ _,by simp⟩,h2.same Ze⟩,⟨h1.same YH,by simp,by simp,fp,by simp⟩,fun d=>rfl, ?_⟩;rw[Hd,hk];exact((eW).alloc (by simp) _).alloc (by simp; omega) _
      have Ym:=ah HD;have hS:w.heap.size+2<base:=by have:=am Hq.o; omega
      have hL:w.heap.size<=base:=by omega
      clear Hd a0 a1 a2 a3 a4 b0 b1 b2 b3 b4 Zb hk HD;go_wp2_with fail
      go_loopw [64] (fun i wr=> ∃(j:Nat) (G:List Cc),j<=n/\i= .int .i64 (j:Int)/\BgI w4 base (base+1+1) base (base+1) k c (.map none) (tree.take j) wr G) (fun i _=>n-(intOf i).toNat)
      ·exact⟨0,[],aU _,rfl,Ym.o⟩
      ·obtain⟨j,G,hj,rfl,YD⟩:=hrel;rename_i wq;have hm:=ah YD;clear YD Ym
       by_cases z9:j<n
       ·obtain⟨e,he⟩: ∃e,tree[j]? =some e:=⟨tree[j]'(by rw[<-HN.o]; exact z9),by simp⟩;have hM:Below w.heap.size w wr:=HV.o.trans (hm.o.below.mono hL);obtain⟨b,o,dv,rfl,-,-,YA,HI,-,p0,p1,p2,p3,p4,p5⟩:=jN (dY.below HT.o hM) he;obtain⟨da,dc,rfl,-,-⟩:=el.slice YA;have Yo:=ah (show el (· <base) wr (.slice da e.data.length dc) e.data/\jP e from by
         obtain⟨b9,o9,dv9,z5,_,_,z4,_,_,_,_,_,_,YF,_⟩:=jN HT.o he
         cases z5
         have hq:=(hM.cell (p:=⟨b,o+j*6+4,none⟩) (bP (a:=⟨b,o+j*6+4,none⟩) YF)).trans YF;rw[p4]at hq
         cases hq
         have z3:=cD.lt' z4 (by decide);exact⟨cD.same (cD.weak (T:=(· <w.heap.size)) z3 (fun _ h=>h)) (fun i hi=>hM.block i hi) |> fun h=>cD.weak h (fun i hi=>aO hi hL),HI⟩)
        have Hk:=Hs.o.val e (aQ he);have y8:=dj Hk;have ZH:e.path.size<=512:=(my Hk).1;obtain⟨q,hq⟩: ∃q:ByteArray,q=⟨(cr (bl e.path)).toArray⟩:=⟨_,rfl⟩;have HQ:=ah hq;have H1:q.size<=maxLen:=by have h1:=qe (l:=bl e.path) (fun h=>by have:=qm y8; rw[h]at this; simp at this);rw[hq,bi,iX];rw[<-bi e.path]at h1;unfold maxLen;omega
        have Yp:=ah he;have YG:=fun W hE=>lp e.path q W hE y8 hq
        have Y5:=ah YG;have Hf:base<=wr.heap.size:=by have h1:=hm.o.grp.map.lt; omega
        have h7:7<=base:=an HE.o.seven hL;clear Hk y8 hq YA HI he YG
        go_upto_region 16 with(fail)
        obtain⟨W6,hB⟩:=bI (wr.alloc (.cells #[.string e.path, .int .i64 e.kind, .int .i64 e.mode, .int .i64 e.time, .slice da e.data.length dc, .string e.link] 79));rw[<-hB];have hC:Below wr.heap.size wr W6:=by rw[hB]; exact eW
        have Hv:=ah hC;have Yv:=ah (show W6.heap[wr.heap.size]? =some (.cells #[.string e.path, .int .i64 e.kind, .int .i64 e.mode, .int .i64 e.time, .slice da e.data.length dc, .string e.link] 79 (0,0)) by rw[hB]; exact ep wr _);have YY:=ah (HE.o.keep (HV.o.trans ((hm.o.below.mono hL).trans (hC.mono (an hL Hf)))) HE.o.seven);clear hB hC p0 p1 p2 p3 p4 p5;obtain⟨d0,d1,d2,d3,d4,d5,_⟩:=aS Yv.o
        go_wp2_with fail;refine(Y5.o W6 YY.o.env).mono ?_;rintro e' w7 ⟨rfl,y4⟩;have za:=ah (er y4 Yv.o);have YT:=ah (aj Hv.o y4);clear y4 d0 d1 d2 d3 d4 d5;go_wp2_with fail;obtain⟨W8,HB⟩:=bI w7.drew;have y5:Below w7.heap.size w7 W8:=by rw[HB]; exact(ak _ _).drew
        have Hw:=ah (aj YT.o y5);have HY:=ah (er y5 za.o);have HK:=jr.ofBelow (bb:=base+1+1) (kb:=base+1) (v:= .slice none 0 0) Hw.o Hf;have hs:=ah (hm.o.bd.below Hw.o);have hu:=ah (hm.o.grp.keep hm.o.bd HK (by omega));have hc:=ah hs.o.box;have hd:wr.heap.size<W8.heap.size:=am HY.o;have Hy:=ah (show el (· <base) W8 (.slice da e.data.length dc) e.data/\jP e from⟨pR Yo.o.1 (Hw.o.mono Hf),Yo.o.2⟩)
        have ht:Tryz.prog.underlying 119=some (.map 9 46):=Tryz.underlying119;have HX:=ah ht;clear ht y5 HK;have k0:=ar (k:=0) hc.o;have k1:=ar (k:=1) hc.o;have k2:=ar (k:=2) hc.o;have k3:=ar (k:=3) hc.o;have k4:=ar (k:=4) hc.o;have k10:=ar (k:=10) hc.o;have k11:=ar (k:=11) hc.o;have k12:=ar (k:=12) hc.o;have k13:=ar (k:=13) hc.o
        simp only[nw,eT,fZ,aK,aI,gd]at k0 k1 k2 k3 k4 k10 k11 k12 k13;clear k0 k1 k2 k3 k4 k10 k12 k13;obtain⟨d0,d1,d2,d3,d4,d5,_⟩:=aS HY.o
        cases hf:G.find? (fun g=>decide (g.dir=q))with
        | none=>
         have HF:=ah hf;clear hf;have Hj: ∀p∈G.map nY,p.1≠Value.string q:=by intro p hp e9;obtain⟨g9,z6,rfl⟩:=aP.1 hp;simp only[nY,eD]at e9;have:=eZ.1 HF.o g9 z6;simp[e9]at this
         have Hz:=ah Hj;have hZ:=ah (show ∀W:World,W.heap[base]? =W8.heap[base]? ->(Instr.lookup 119 (.map (some base)) (.string q) false).run Tryz.prog W= .ok (.slice none 0 0) W from fun W hW=>by
          have:=(hu.o.map.same hW).is.miss fw HX.o (show(zeroValue 46).run Tryz.prog W= .ok (.slice none 0 0) W by kernel_rfl) (gY H1) Hz.o false
          simpa using this)
         clear Hj;have Ha:=ah (show(Value.slice none 0 0).ownBlock≠some (base+1+1)/\(Value.slice none 0 0).ownBlock≠some wr.heap.size/\(Value.slice none 0 0).ownBlock≠some base from⟨by simp[Value.ownBlock],by simp[Value.ownBlock],by simp[Value.ownBlock]⟩);have yp:=ah (show(Value.slice none 0 0).ownBlock≠some (base+1) by simp[Value.ownBlock]);have h8:=ah (show ∀i,(Value.slice none 0 0).ownBlock=some i->base<=i from fun i hi=>by simp[Value.ownBlock]at hi)
         have h0:=ah (show(0:Nat)<1099511627775 by decide);have HL:=hZ.o W8 rfl;refine eJ (fun w'=>w'.cell? ⟨base+1+1,11,none⟩=some (.map (some base))/\(Instr.lookup 119 (.map (some base)) (.string (q)) false).run Tryz.prog w'= .ok (.slice none 0 0) w'/\w'.cell? ⟨wr.heap.size,0,none⟩=some (.string e.path)/\w'.cell? ⟨wr.heap.size,1,none⟩=some (.int .i64 e.kind)/\w'.cell? ⟨wr.heap.size,2,none⟩=some (.int .i64 e.mode)/\w'.cell? ⟨wr.heap.size,3,none⟩=some (.int .i64 e.time)/\w'.cell? ⟨wr.heap.size,4,none⟩=some (.slice da e.data.length dc)/\w'.cell? ⟨wr.heap.size,5,none⟩=some (.string e.link)) (by kernel_rfl) (by kernel_rfl) ?_
         simp only[bt,bu,az,bo,Nat.reduceAdd,Nat.reduceSub];rw[<-HB];clear HB
         iterate 12 (refine cI rfl ⟨k11,HL,d0,d1,d2,d3,d4,d5⟩ (by rintro w' ⟨Yd,Ye,Yf,Yg,YK,Zh,Zi,Zj⟩; go_simp; rfl) ?_; simp only[bN])
         have ho:=ah ((ak W8.heap.size W8).alloc (ai _) (.cells #[.string e.path, .int .i64 e.kind, .int .i64 e.mode, .int .i64 e.time, .slice da e.data.length dc, .string e.link] 79));have hz:base+1+1<W8.heap.size:=am hc.o;have hU:=aA ((ho.o.cell (p:=⟨base+1+1,11,none⟩) hz).trans k11) (aA (hZ.o _ (ho.o.block base (by omega))) (aA ((ho.o.cell (p:=⟨wr.heap.size,0,none⟩) hd).trans d0) (aA ((ho.o.cell (p:=⟨wr.heap.size,1,none⟩) hd).trans d1) (aA ((ho.o.cell (p:=⟨wr.heap.size,2,none⟩) hd).trans d2) (aA ((ho.o.cell (p:=⟨wr.heap.size,3,none⟩) hd).trans d3) (aA ((ho.o.cell (p:=⟨wr.heap.size,4,none⟩) hd).trans d4) ((ho.o.cell (p:=⟨wr.heap.size,5,none⟩) hd).trans d5)))))))
         have Hr:=ah hU;clear hU;refine cC 12 rfl (fun K hK=> ?_);go_wp2_with fail
         (first | (refine⟨Hr.o, ?_⟩) | skip)
         refine cC 13 rfl (fun K hK=> ?_);have Hn:base<=W8.heap.size:=by omega
         go_wp2_with (at_builtin; go_must (refine bO Tryz.appEnts rfl _ _ rfl base (.slice none 0 0) (0) ([]) rfl W8 [.string e.path, .int .i64 e.kind, .int .i64 e.mode, .int .i64 e.time, .slice da e.data.length dc, .string e.link] _ rfl rfl (lj (e:=e)) ((bM _ _ _ _)) h0.o Hn ?_); intro v' wc hl ha _ HP; obtain⟨ae,ce,rfl,-,-⟩:=aH hl);have hG:=(ha.block (base+1+1) hz (fun e9=>Ha.o.1 e9.symm)).trans hc.o
         have HR:=(ha.block wr.heap.size hd (fun e9=>Ha.o.2.1 e9.symm)).trans HY.o;have Hi:=ha.block base (by omega) (fun e9=>Ha.o.2.2 e9.symm);have hH:=hZ.o wc Hi;have hD:=ah hG;have y3:=ah HR;have yl:=ah Hi;have Hb:=ah hl;have hh:=ah ha;have Hc:=ah HP;clear hG HR Hi hl ha HP HL k11 d0 d1 d2 d3 d4 d5;obtain⟨d0,d1,d2,d3,d4,d5,_⟩:=aS y3.o
         have k11:=ar (k:=11) hD.o;simp only[nw,eT,fZ,aK,aI,gd]at k11;refine⟨⟨k11,hH,d0,d1,d2,d3,d4,d5⟩, ?_⟩;refine cL (by kernel_rfl) ?_;refine eU rfl rfl (fun K hK=> ?_);clear k11 hH d0 d1 d2 d3 d4 d5;have yn:=ah (hu.o.map.same yl.o);go_wp2_with (at_mapUpdate; go_must (refine jY fw rfl _ _ _ _ rfl HX.o base (G.map nY) yn.o rfl (.string q) (.slice ae (0+1) ce) rfl rfl (gY H1) Hz.o ?_); intro w10 hI hw)
         have hv:=ah hw;have hY:=ah (hu.o.new (ai _) H1 (y:=(.slice da e.data.length dc,e)) Hy.o Hb.o hh.o (fun i hi=>by
          rcases Hc.o i hi with h9 | h9
          ·simp[Value.ownBlock]at h9
          ·exact h9) hI hw)
         clear hI hw;have He:=hm.o.below.trans ((Hw.o.mono Hf).trans (((ak base W8).grown hh.o Hn (fun i hi=>h8.o i hi)).grown hv.o (an Hn hh.o.size) (fun i hi=>by cases hi; exact ai _)));have hF:=hs.o.nilKeep (w':=w10) ((hv.o.block _ (aO hz hh.o.size) (fun e9=>by have:=bK e9; omega)).trans (hD.o.trans hc.o.symm)) ((hv.o.block _ (aO hs.o.known.map.lt hh.o.size) (fun e9=>by have:=bK e9; omega)).trans (hh.o.block _ hs.o.known.map.lt (fun e9=>yp.o e9.symm)))
         go_roundw
         ·refine⟨j+1,(G++[⟨q, .slice ae (0+1) ce,[(.slice da e.data.length dc,e)]⟩]),by omega,by go_num,⟨hF,hY.o,fun d=> ?_,He⟩⟩;rw[oJ Yp.o];rw[wW (g:=⟨q, .slice ae (0+1) ce,[(.slice da e.data.length dc,e)]⟩) HF.o]
          by_cases hJ:q=d
          ·rw[if_pos hJ,if_pos (show cr (bl e.path)=bl d by rw[<-hJ,HQ.o]; exact(iX _).symm),<-hm.o.ents d,<-hJ,uW HF.o]
           rfl
          ·rw[if_neg hJ,if_neg (fun h9=>hJ (kr (by rw[HQ.o]; exact(iX _).trans h9))),ci];exact hm.o.ents d
         simp[intOf]; omega
        | some g=>
         obtain⟨A,B,zz,z7,hA⟩: ∃A B,G=A++g::B/\g.dir=q/\ ∀x∈A,x.dir≠q:=by have h9:=List.find?_eq_some_iff_append.1 hf;obtain⟨h1,A,B,h2,h3⟩:=h9;exact⟨A,B,h2,by simpa using h1,fun x hx=>by simpa using h3 x hx⟩
         have Hg:=oH hf;subst z7;subst zz;have ya:=ah Hg;have HA:=ah hA;have Hh:=hu.o.own g (by simp);have HJ:=hm.o.grp.own g (by simp);obtain⟨ga,gc,hV,ZJ,-⟩:=aH Hh;have H0:g.ents.length<=4096:=by have h1:=hm.o.ents g.dir;rw[Hg]at h1;have h2:=congrArg List.length h1;rw[aw]at h2;rw[h2];have h3:(gW (tree.take j) g.dir).length<=(tree.take j).length:=dM _ _;rw[bn]at h3;have h4:=Hs.o.len;omega
         obtain⟨gl,hR⟩:=bI g.ents.length;have YZ:=ah hR;rw[<-hR]at hV H0;have h0:=ah (show gl<1099511627775 by omega);have Y0:=ah (show W8.ownsRow base 79 6 (.slice ga gl gc) gl (iE g.ents) by rw[<-hV,hR]; exact Hh);have Yq:=ah hV;have Ha:=ah (show(Value.slice ga gl gc).ownBlock≠some (base+1+1)/\(Value.slice ga gl gc).ownBlock≠some wr.heap.size/\(Value.slice ga gl gc).ownBlock≠some base from by
          rw[<-hV];refine⟨fun e9=> ?_,fun e9=> ?_,fun e9=> ?_⟩
          ·obtain⟨cs2,HH⟩:=bJ Hh e9;exact absurd (bU hc.o HH) (by decide)
          ·have:=(HJ.lt _ e9).2;omega
          ·obtain⟨cs2,HH⟩:=bJ Hh e9;exact hu.o.map.ncells HH)
         have yp:=ah (show(Value.slice ga gl gc).ownBlock≠some (base+1)from by rw[<-hV];intro e9;obtain⟨cs2,HH⟩:=bJ Hh e9;exact hs.o.known.cells HH)
         have h8:=ah (show ∀i,(Value.slice ga gl gc).ownBlock=some i->base<=i from fun i hi=>by rw[<-hV]at hi;exact(Hh.lt i hi).1)
         have hZ:=ah (show ∀W:World,W.heap[base]? =W8.heap[base]? ->(Instr.lookup 119 (.map (some base)) (.string g.dir) false).run Tryz.prog W= .ok (.slice ga gl gc) W from fun W hW=>by
          have:=(hu.o.map.same hW).is.hit fw HX.o (gY H1) (val:=g.val) (aP.2 ⟨g,by simp,rfl⟩) false;rw[hV]at this
          simpa using this)
         clear hf Hg hA Hh HJ hV hR;have HL:=hZ.o W8 rfl;refine eJ (fun w'=>w'.cell? ⟨base+1+1,11,none⟩=some (.map (some base))/\(Instr.lookup 119 (.map (some base)) (.string (g.dir)) false).run Tryz.prog w'= .ok (.slice ga gl gc) w'/\w'.cell? ⟨wr.heap.size,0,none⟩=some (.string e.path)/\w'.cell? ⟨wr.heap.size,1,none⟩=some (.int .i64 e.kind)/\w'.cell? ⟨wr.heap.size,2,none⟩=some (.int .i64 e.mode)/\w'.cell? ⟨wr.heap.size,3,none⟩=some (.int .i64 e.time)/\w'.cell? ⟨wr.heap.size,4,none⟩=some (.slice da e.data.length dc)/\w'.cell? ⟨wr.heap.size,5,none⟩=some (.string e.link)) (by kernel_rfl) (by kernel_rfl) ?_
         simp only[bt,bu,az,bo,Nat.reduceAdd,Nat.reduceSub];rw[<-HB];clear HB
         iterate 12 (refine cI rfl ⟨k11,HL,d0,d1,d2,d3,d4,d5⟩ (by rintro w' ⟨Yd,Ye,Yf,Yg,YK,Zh,Zi,Zj⟩; go_simp; rfl) ?_; simp only[bN])
         have ho:=ah ((ak W8.heap.size W8).alloc (ai _) (.cells #[.string e.path, .int .i64 e.kind, .int .i64 e.mode, .int .i64 e.time, .slice da e.data.length dc, .string e.link] 79));have hz:base+1+1<W8.heap.size:=am hc.o;have hU:=aA ((ho.o.cell (p:=⟨base+1+1,11,none⟩) hz).trans k11) (aA (hZ.o _ (ho.o.block base (by omega))) (aA ((ho.o.cell (p:=⟨wr.heap.size,0,none⟩) hd).trans d0) (aA ((ho.o.cell (p:=⟨wr.heap.size,1,none⟩) hd).trans d1) (aA ((ho.o.cell (p:=⟨wr.heap.size,2,none⟩) hd).trans d2) (aA ((ho.o.cell (p:=⟨wr.heap.size,3,none⟩) hd).trans d3) (aA ((ho.o.cell (p:=⟨wr.heap.size,4,none⟩) hd).trans d4) ((ho.o.cell (p:=⟨wr.heap.size,5,none⟩) hd).trans d5)))))))
         have Hr:=ah hU;clear hU;refine cC 12 rfl (fun K hK=> ?_);go_wp2_with fail
         (first | (refine⟨Hr.o, ?_⟩) | skip)
         refine cC 13 rfl (fun K hK=> ?_);have Hn:base<=W8.heap.size:=by omega
         go_wp2_with (at_builtin; go_must (refine bO Tryz.appEnts rfl _ _ rfl base (.slice ga gl gc) (gl) ((iE g.ents)) rfl W8 [.string e.path, .int .i64 e.kind, .int .i64 e.mode, .int .i64 e.time, .slice da e.data.length dc, .string e.link] _ rfl rfl (lj (e:=e)) (Y0.o) h0.o Hn ?_); intro v' wc hl ha _ HP; obtain⟨ae,ce,rfl,-,-⟩:=aH hl);have hG:=(ha.block (base+1+1) hz (fun e9=>Ha.o.1 e9.symm)).trans hc.o
         have HR:=(ha.block wr.heap.size hd (fun e9=>Ha.o.2.1 e9.symm)).trans HY.o;have Hi:=ha.block base (by omega) (fun e9=>Ha.o.2.2 e9.symm);have hH:=hZ.o wc Hi;have hD:=ah hG;have y3:=ah HR;have yl:=ah Hi;have Hb:=ah hl;have hh:=ah ha;have Hc:=ah HP;clear hG HR Hi hl ha HP HL k11 d0 d1 d2 d3 d4 d5;obtain⟨d0,d1,d2,d3,d4,d5,_⟩:=aS y3.o
         have k11:=ar (k:=11) hD.o;simp only[nw,eT,fZ,aK,aI,gd]at k11;refine⟨⟨k11,hH,d0,d1,d2,d3,d4,d5⟩, ?_⟩;refine cL (by kernel_rfl) ?_;refine eU rfl rfl (fun K hK=> ?_);clear k11 hH d0 d1 d2 d3 d4 d5;have yn:=ah (show ik Tryz.prog 9 wc base (A.map nY++(.string g.dir,g.val)::B.map nY)from by
          have:=hu.o.map.same yl.o
          simpa [nY]using this)
         go_wp2_with (at_mapUpdate; go_must (refine qo fw rfl _ _ _ _ rfl HX.o base (A.map nY) (B.map nY) (.string g.dir) (.slice ae (gl+1) ce) g.val yn.o rfl rfl rfl ?_); intro w10 hI hw);have hv:=ah hw;have hY:=ah (hu.o.over (ai _) (y:=(.slice da e.data.length dc,e)) Hy.o (by rw[<-YZ.o]; exact Hb.o) (by rw[Yq.o]; exact hh.o) (by rw[Yq.o]; exact Hc.o) hI hw)
         clear hI hw;have He:=hm.o.below.trans ((Hw.o.mono Hf).trans (((ak base W8).grown hh.o Hn (fun i hi=>h8.o i hi)).grown hv.o (an Hn hh.o.size) (fun i hi=>by cases hi; exact ai _)));have hF:=hs.o.nilKeep (w':=w10) ((hv.o.block _ (aO hz hh.o.size) (fun e9=>by have:=bK e9; omega)).trans (hD.o.trans hc.o.symm)) ((hv.o.block _ (aO hs.o.known.map.lt hh.o.size) (fun e9=>by have:=bK e9; omega)).trans (hh.o.block _ hs.o.known.map.lt (fun e9=>yp.o e9.symm)))
         go_roundw
         ·refine⟨j+1,(A++⟨g.dir, .slice ae (gl+1) ce,g.ents++[(.slice da e.data.length dc,e)]⟩::B),by omega,by go_num,⟨hF,hY.o,fun d=> ?_,He⟩⟩;rw[oJ Yp.o];rw[uX (A:=A) (B:=B) (g:=g) (g':=(⟨g.dir, .slice ae (gl+1) ce,g.ents++[((Value.slice da e.data.length dc,e):oU)]⟩:Cc)) rfl HA.o d]
          by_cases hJ:g.dir=d
          ·rw[if_pos hJ,if_pos (show cr (bl e.path)=bl d by rw[<-hJ,HQ.o]; exact(iX _).symm),<-hm.o.ents d,<-hJ,ya.o,aL]
           rfl
          ·rw[if_neg hJ,if_neg (fun h9=>hJ (kr (by rw[HQ.o]; exact(iX _).trans h9))),ci];exact hm.o.ents d
         simp[intOf]; omega
       ·have z8:j=n:=by omega
        have H0:ES wr base base tree:=⟨G,hm.o.grp,fun d=>by have:=hm.o.ents d; rwa [show tree.take j=tree by rw[z8,HN.o,dw]]at this⟩;have Hf:base<=wr.heap.size:=by have h1:=hm.o.grp.map.lt; omega
        have h7:7<=base:=an HE.o.seven hL;have y9: ∀p∈gs,0<=p.2/\p.2<=1099511627776:=fun p hp=>by have:=cu.1 Hu.o p hp; simpa using this
        have hX:LE base (base+1+1) (base+1) base k c gs tree (Jm k gs c tree):=⟨Zo.o,Yn.o,hsd,y9,by omega,by omega,h7,by omega,Hs.o.val,Hs.o.len,GW Yn.o Hs.o.len Hs.o.val,GX,GY⟩;have hM:Below w.heap.size w wr:=HV.o.trans (hm.o.below.mono hL);have YC:kZ (· <base) wr (.map none) gs:=by
         rcases HG.o with⟨h1,h2⟩ | ⟨gb9,h1,_,h3⟩
         ·exact .inl ⟨h1,h2⟩
         ·exact .inr ⟨gb9,h1,aO h3.lt hL,h3.same (hM.block _ h3.lt)⟩
        have hP:=Bx hX 514 (ai _) ⟨#[]⟩ (.slice none 0 0) [] wr (by show 514<=0+514; omega) (.inl rfl) hm.o.bd YC H0 (by intro b hb; simp at hb) (HE.o.keep hM HE.o.seven) Hf;unfold Ba at hP;clear H0 hX YC
        cases Ht:gV k gs c tree 514 ⟨#[]⟩with
        | error x9=>
         rw[Ht]at hP;have yc:=ah (show iy k c tree gs= .error x9 by rw[Ys.o,Ht]);have HW:=ah hP;clear hP Ht;go_wp2_with fail;refine HW.o.mono ?_;rintro e' w5 ⟨rfl,Yh,v5,bs5,hO,hy⟩;have HS:=ah (hM.trans (hy.below.mono hL));have Ho:=ah ((hy.below.block (w.heap.size+2) hS).trans ((hm.o.below.block (w.heap.size+2) hS).trans Hq.o));have zc:=ah Yh
         have e4:(x9 != 0)=true:=by simp[Yh]
         clear Yh hO hy hM
         go_upto_region 20 with(fail)
         obtain⟨W6,hB⟩:=bI (w5.alloc (.cells #[.string ⟨#[]⟩, .int .i64 0, .int .i64 0] 26));rw[<-hB];have hC:Below w5.heap.size w5 W6:=by rw[hB]; exact eW
         have Hv:=ah (aj HS.o hC);have hT:=ah (er hC Ho.o);clear hC hB;obtain⟨z0,z1,z2,_⟩:=aS hT.o;obtain⟨y0,y1,y2,_⟩:=gI hT.o;go_wp2_with fail;refine kj hT.o rfl rfl rfl rfl ⟨il Hv.o (by show w.heap.size<=w.heap.size+2; omega), ?_⟩;rw[yc.o];exact⟨rfl,zc.o⟩
        | ok p=>
         rw[Ht]at hP
         dsimp only at hP
         have yc:=ah (show iy k c tree gs= .ok (aV k gs p.1,eG k gs p.2 []) by rw[Ys.o,Ht]);obtain⟨r,hr⟩:=bI (aV k gs p.1);rw[<-hr]at hP;have Y7:=ah hr;have HW:=ah hP;unfold fi at HW;clear hP Ht hr;go_wp2_with fail;refine HW.o.mono ?_;rintro e' w5 ⟨rfl,-,v5,hO,hy⟩;have HS:=ah (hM.trans (hy.below.mono hL));have Ho:=ah ((hy.below.block (w.heap.size+2) hS).trans ((hm.o.below.block (w.heap.size+2) hS).trans Hq.o))
         have H8:=ah hO;clear hO hy hM
         go_upto_region 22 with(fail)
         obtain⟨W6,hB⟩:=bI ((w5.alloc (.cells #[.string r.name, .int .i64 r.gen, .int .i64 r.size] 26)).drew);have hC:Below w5.heap.size w5 W6:=by rw[hB]; exact(eW).drew
         have Hv:=ah (aj HS.o hC);have hT:=ah (er hC Ho.o);have yb:=ah (show W6.heap[w5.heap.size]? =some (.cells #[.string r.name, .int .i64 r.gen, .int .i64 r.size] 26 (0,0)) by rw[hB]; exact ep w5 _);have Hx:=ah (H8.o.below hC);obtain⟨zs,YL,y6⟩:=Hx.o.own;obtain⟨va,vc,Zg,-,-⟩:=aH y6.row;subst Zg;have zl:=ah YL;have YU:=ah y6
         have H9:=ah Hx.o.box;clear hC YL y6;have k12:=ar (k:=12) H9.o;have f0:=ar (k:=0) yb.o;have f1:=ar (k:=1) yb.o;have f2:=ar (k:=2) yb.o;simp only[nw,eT,fZ,aK,aI,gd]at k12 f0 f1 f2;obtain⟨z0,z1,z2,_⟩:=aS hT.o;obtain⟨y0,y1,y2,_⟩:=gI hT.o;refine fd (fun w'=>w'.cell? ⟨base+1+1,12,none⟩=some (.slice va zs.length vc)/\w'.cell? ⟨w5.heap.size,0,none⟩=some (.string r.name)/\w'.cell? ⟨w5.heap.size,1,none⟩=some (.int .i64 r.gen)/\w'.cell? ⟨w5.heap.size,2,none⟩=some (.int .i64 r.size)) (by kernel_rfl) ?_
         rw[<-hB];clear hB
         iterate 5 (refine cI rfl ⟨k12,f0,f1,f2⟩ (by rintro w' ⟨Yd,Ye,Yf,Yg⟩; go_simp; rfl) ?_; simp only[bN])
         refine cC 5 rfl (fun K hK=> ?_);have YK:w.heap.size+1+1<w5.heap.size:=am Ho.o;have y7:base+1+1≠w.heap.size+1+1:=by omega
         have Hl:w5.heap.size≠w.heap.size+1+1:=by omega
         have hU:=fun(u0 u1 u2:Value)=>aA ((cw (a:=⟨base+1+1,12,none⟩) (et (w:=W6) (x0:=u0) (x1:=u1) (x2:=u2) y7)).trans k12) (aA ((cw (a:=⟨w5.heap.size,0,none⟩) (et (w:=W6) (x0:=u0) (x1:=u1) (x2:=u2) Hl)).trans f0) (aA ((cw (a:=⟨w5.heap.size,1,none⟩) (et (w:=W6) (x0:=u0) (x1:=u1) (x2:=u2) Hl)).trans f1) ((cw (a:=⟨w5.heap.size,2,none⟩) (et (w:=W6) (x0:=u0) (x1:=u1) (x2:=u2) Hl)).trans f2)))
         have Hr:=ah hU;clear hU k12 f0 f1 f2;go_wp2_with fail;refine⟨Hr.o _ _ _, ?_⟩
         iterate 2 (refine cI rfl (Hr.o _ _ _) (by rintro w' ⟨Yd,Ye,Yf,Yg⟩; go_simp; rfl) ?_; simp only[bN])
         refine cL (by kernel_rfl) ?_;go_wp2_with fail;refine kj hT.o rfl rfl rfl rfl ⟨il Hv.o (by show w.heap.size<=w.heap.size+2; omega), ?_⟩;rw[yc.o];refine⟨_,zs,by rw[<-Y7.o]; rfl,zl.o,YU.o.other hT.o (by decide) (by decide) hL (fun i hi=>et hi)⟩
     ·have e1:(x != 0)=true:=by simp[Hm]
      have Yu:=ah Hm;clear Hm;obtain⟨z0,z1,z2,_⟩:=aS Hq.o;obtain⟨y0,y1,y2,_⟩:=gI Hq.o;go_wp2_with fail;refine kj Hq.o rfl rfl rfl rfl ⟨il HV.o (by show w.heap.size<=w.heap.size+2; omega), ?_⟩;rw[Yr.o,if_neg (by rw[hN.o]; exact Yu.o)];rw[hN.o];exact⟨rfl,Yu.o⟩
   ·have ZA:=ah (YQ.same (w':=w2) (Yi.o.block gb YQ.lt));have ZI:gb<w.heap.size:=YQ.lt;clear YQ ZF;go_wp2_with (at_range; go_must (refine ze rfl _ _ rfl ln gb _ rfl ZA.o ?_); intro w0 Ya Yl ZO);obtain⟨r9,Zc⟩:=bI w2.heap.size;rw[<-Zc]at Ya ⊢;have ZE:=ah Zc;have YS:=ah Yl;clear Zc ZO Yl
    go_frame
    go_loopw [14] (fun _ wr=> ∃vis,pN Tryz.prog 9 wr gb r9 (gs.map CY) vis/\(∀p∈vis,∃z:Int,p.2= .int .i64 z/\0<=z/\z<=1099511627776)/\Below w2.heap.size w2 wr) (fun _ wr=>wr.rangeLeft gb r9)
    ·exact⟨[],Ya,by simp,YS.o⟩
    ·obtain⟨vis,Zv,YJ,Yx⟩:=hrel;have YN:=ah Zv;have Yt:=ah YJ;have Hp:=ah Yx;clear Zv YJ Yx;go_wp2_with (at_next; go_must (refine Cb rfl _ rfl gb r9 _ _ rfl YN.o ?_ ?_))
     ·intro H3;have Hu:=ah (show gs.all (fun p=>decide (0<=p.2) && decide (p.2<=1099511627776))=true from by rw[cu];intro p hp;obtain⟨z,Zx,ZR,ZS⟩:=Yt.o (CY p) (H3.mem_iff.2 (aP.2 ⟨p,hp,rfl⟩));simp only[CY,Value.int.injEq,true_and]at Zx;subst Zx;simp[ZR,ZS])
      have H7:=ah (aj Yi.o Hp.o);have Y6:=ah (er Hp.o yv.o);have Y1:=ah (er Hp.o Zn.o);have YV:=ah (er Hp.o Zm.o);clear H3 YN Ya
      go_upto_region 9 with(fail)
      have Yr:=ah (show iy k c tree gs=(if iD tree=0 then(match gV k gs c tree 514 ⟨#[]⟩with
       | .error x=> .error x
       | .ok p=> .ok (aV k gs p.1,eG k gs p.2 []))
      else .error (iD tree)) by rw[Y3.o,if_pos Hu.o])
      have YI:dY S (wr) (.slice ta n tc) tree:=dY.below HT.o H7.o;have YB:=HE.o.below H7.o;obtain⟨x,hx⟩: ∃x,iD tree=x:=⟨_,rfl⟩;have Yz:=Ig S tree (.slice ta n tc) x (wr) YI YB.env hx;have YX:=ah Yz;have hN:=ah hx;clear YI YB Yz hx;go_wp2_with fail;refine YX.o.mono ?_;rintro e w4 ⟨rfl,HC⟩;have HV:=ah (aj H7.o HC);have Hq:=ah (er HC Y6.o)
      have Y2:=ah (er HC Y1.o);have YW:=ah (er HC YV.o);clear HC
      by_cases Hm:x=0
      ·have e1:(x != 0)=false:=by simp[Hm]
       have Hs:=ah (pP.1 (hN.o.trans Hm));have Ys:=ah (show iy k c tree gs=(match gV k gs c tree 514 ⟨#[]⟩with
        | .error x=> .error x
        | .ok p=> .ok (aV k gs p.1,eG k gs p.2 [])) by rw[Yr.o,if_pos (hN.o.trans Hm)])
       clear Hm;obtain⟨a0,a1,a2,a3,a4,_⟩:=aS Y2.o;obtain⟨b0,b1,b2,b3,b4,_⟩:=aS YW.o;have Zb:= @run_makeMap Tryz.prog
       go_upto_region 13 with(fail)
       obtain⟨W5,Hd⟩:=bI (((w4.alloc (.map #[] 0)).alloc (.map #[] 0)).alloc (.cells #[.string k.nm, .string k.st, .string k.ck, .string k.ix, .string k.tk, .int .i64 c.mn, .int .i64 c.mx, .int .i64 c.win, .int .i64 c.bits, .int .u64 (c.seed:Int), .map (some gb), .map (some w4.heap.size), .slice none 0 0, .map (some (w4.heap.size+1))] 122));rw[<-Hd];obtain⟨base,hk⟩:=bI w4.heap.size
       rw[<-hk]at Hd ⊢;have Zy:=ah hk;have HD:BgI w4 base (base+1+1) base (base+1) k c (.map (some gb)) [] W5 []:=by
        have e1:(w4.alloc (.map #[] 0)).heap.size=base+1:=by simp[hk]
        have e2:((w4.alloc (.map #[] 0)).alloc (.map #[] 0)).heap.size=base+1+1:=by simp[hk]
        have h1:=ik.made (P:=Tryz.prog) (k:=9) w4;have h2:=jX.made (w4.alloc (.map #[] 0));rw[e1]at h2;rw[<-hk]at h1;have h3:=ep ((w4.alloc (.map #[] 0)).alloc (.map #[] 0)) (.cells #[.string k.nm, .string k.st, .string k.ck, .string k.ix, .string k.tk, .int .i64 c.mn, .int .i64 c.mx, .int .i64 c.win, .int .i64 c.bits, .int .u64 (c.seed:Int), .map (some gb), .map (some base), .slice none 0 0, .map (some (base+1))] 122)
        rw[e2]at h3;have YH:W5.heap[base]? =(w4.alloc (.map #[] 0)).heap[base]? :=by rw[Hd]; exact(cS _ _ _ (by rw[e2]; omega)).trans (cS _ _ _ (by rw[e1]; omega))
        have Ze:W5.heap[base+1]? =((w4.alloc (.map #[] 0)).alloc (.map #[] 0)).heap[base+1]? :=by rw[Hd]; exact cS _ _ _ (by rw[e2]; omega)
        refine⟨⟨by rw[Hd]; exact h3,⟨[],rfl,bM _ _ _ _,by simp⟩,h2.same Ze⟩,⟨h1.same YH,by simp,by simp,fp,by simp⟩,fun d=>rfl, ?_⟩;rw[Hd,hk];exact((eW).alloc (by simp) _).alloc (by simp; omega) _
       have Ym:=ah HD;have hS:w.heap.size+2<base:=by have:=am Hq.o; omega
       have hL:w.heap.size<=base:=by omega
       clear Hd a0 a1 a2 a3 a4 b0 b1 b2 b3 b4 Zb hk HD;go_wp2_with fail
       go_loopw [64] (fun i wr=> ∃(j:Nat) (G:List Cc),j<=n/\i= .int .i64 (j:Int)/\BgI w4 base (base+1+1) base (base+1) k c (.map (some gb)) (tree.take j) wr G) (fun i _=>n-(intOf i).toNat)
       ·exact⟨0,[],aU _,rfl,Ym.o⟩
       ·obtain⟨j,G,hj,rfl,YD⟩:=hrel;rename_i wq;have hm:=ah YD;clear YD Ym
        by_cases z9:j<n
        ·obtain⟨e,he⟩: ∃e,tree[j]? =some e:=⟨tree[j]'(by rw[<-HN.o]; exact z9),by simp⟩;have hM:Below w.heap.size w wr:=HV.o.trans (hm.o.below.mono hL);obtain⟨b,o,dv,rfl,-,-,YA,HI,-,p0,p1,p2,p3,p4,p5⟩:=jN (dY.below HT.o hM) he;obtain⟨da,dc,rfl,-,-⟩:=el.slice YA;have Yo:=ah (show el (· <base) wr (.slice da e.data.length dc) e.data/\jP e from by
          obtain⟨b9,o9,dv9,z5,_,_,z4,_,_,_,_,_,_,YF,_⟩:=jN HT.o he
          cases z5
          have hq:=(hM.cell (p:=⟨b,o+j*6+4,none⟩) (bP (a:=⟨b,o+j*6+4,none⟩) YF)).trans YF;rw[p4]at hq
          cases hq
          have z3:=cD.lt' z4 (by decide);exact⟨cD.same (cD.weak (T:=(· <w.heap.size)) z3 (fun _ h=>h)) (fun i hi=>hM.block i hi) |> fun h=>cD.weak h (fun i hi=>aO hi hL),HI⟩)
         have Hk:=Hs.o.val e (aQ he);have y8:=dj Hk;have ZH:e.path.size<=512:=(my Hk).1;obtain⟨q,hq⟩: ∃q:ByteArray,q=⟨(cr (bl e.path)).toArray⟩:=⟨_,rfl⟩;have HQ:=ah hq;have H1:q.size<=maxLen:=by have h1:=qe (l:=bl e.path) (fun h=>by have:=qm y8; rw[h]at this; simp at this);rw[hq,bi,iX];rw[<-bi e.path]at h1;unfold maxLen;omega
         have Yp:=ah he;have YG:=fun W hE=>lp e.path q W hE y8 hq
         have Y5:=ah YG;have Hf:base<=wr.heap.size:=by have h1:=hm.o.grp.map.lt; omega
         have h7:7<=base:=an HE.o.seven hL;clear Hk y8 hq YA HI he YG
         go_upto_region 16 with(fail)
         obtain⟨W6,hB⟩:=bI (wr.alloc (.cells #[.string e.path, .int .i64 e.kind, .int .i64 e.mode, .int .i64 e.time, .slice da e.data.length dc, .string e.link] 79));rw[<-hB];have hC:Below wr.heap.size wr W6:=by rw[hB]; exact eW
         have Hv:=ah hC;have Yv:=ah (show W6.heap[wr.heap.size]? =some (.cells #[.string e.path, .int .i64 e.kind, .int .i64 e.mode, .int .i64 e.time, .slice da e.data.length dc, .string e.link] 79 (0,0)) by rw[hB]; exact ep wr _);have YY:=ah (HE.o.keep (HV.o.trans ((hm.o.below.mono hL).trans (hC.mono (an hL Hf)))) HE.o.seven);clear hB hC p0 p1 p2 p3 p4 p5;obtain⟨d0,d1,d2,d3,d4,d5,_⟩:=aS Yv.o
         go_wp2_with fail;refine(Y5.o W6 YY.o.env).mono ?_;rintro e' w7 ⟨rfl,y4⟩;have za:=ah (er y4 Yv.o);have YT:=ah (aj Hv.o y4);clear y4 d0 d1 d2 d3 d4 d5;go_wp2_with fail;obtain⟨W8,HB⟩:=bI w7.drew;have y5:Below w7.heap.size w7 W8:=by rw[HB]; exact(ak _ _).drew
         have Hw:=ah (aj YT.o y5);have HY:=ah (er y5 za.o);have HK:=jr.ofBelow (bb:=base+1+1) (kb:=base+1) (v:= .slice none 0 0) Hw.o Hf;have hs:=ah (hm.o.bd.below Hw.o);have hu:=ah (hm.o.grp.keep hm.o.bd HK (by omega));have hc:=ah hs.o.box;have hd:wr.heap.size<W8.heap.size:=am HY.o;have Hy:=ah (show el (· <base) W8 (.slice da e.data.length dc) e.data/\jP e from⟨pR Yo.o.1 (Hw.o.mono Hf),Yo.o.2⟩)
         have ht:Tryz.prog.underlying 119=some (.map 9 46):=Tryz.underlying119;have HX:=ah ht;clear ht y5 HK;have k0:=ar (k:=0) hc.o;have k1:=ar (k:=1) hc.o;have k2:=ar (k:=2) hc.o;have k3:=ar (k:=3) hc.o;have k4:=ar (k:=4) hc.o;have k10:=ar (k:=10) hc.o;have k11:=ar (k:=11) hc.o;have k12:=ar (k:=12) hc.o;have k13:=ar (k:=13) hc.o
         simp only[nw,eT,fZ,aK,aI,gd]at k0 k1 k2 k3 k4 k10 k11 k12 k13;clear k0 k1 k2 k3 k4 k10 k12 k13;obtain⟨d0,d1,d2,d3,d4,d5,_⟩:=aS HY.o
         cases hf:G.find? (fun g=>decide (g.dir=q))with
         | none=>
          have HF:=ah hf;clear hf;have Hj: ∀p∈G.map nY,p.1≠Value.string q:=by intro p hp e9;obtain⟨g9,z6,rfl⟩:=aP.1 hp;simp only[nY,eD]at e9;have:=eZ.1 HF.o g9 z6;simp[e9]at this
          have Hz:=ah Hj;have hZ:=ah (show ∀W:World,W.heap[base]? =W8.heap[base]? ->(Instr.lookup 119 (.map (some base)) (.string q) false).run Tryz.prog W= .ok (.slice none 0 0) W from fun W hW=>by
           have:=(hu.o.map.same hW).is.miss fw HX.o (show(zeroValue 46).run Tryz.prog W= .ok (.slice none 0 0) W by kernel_rfl) (gY H1) Hz.o false
           simpa using this)
          clear Hj;have Ha:=ah (show(Value.slice none 0 0).ownBlock≠some (base+1+1)/\(Value.slice none 0 0).ownBlock≠some wr.heap.size/\(Value.slice none 0 0).ownBlock≠some base from⟨by simp[Value.ownBlock],by simp[Value.ownBlock],by simp[Value.ownBlock]⟩);have yp:=ah (show(Value.slice none 0 0).ownBlock≠some (base+1) by simp[Value.ownBlock]);have h8:=ah (show ∀i,(Value.slice none 0 0).ownBlock=some i->base<=i from fun i hi=>by simp[Value.ownBlock]at hi)
          have h0:=ah (show(0:Nat)<1099511627775 by decide);have HL:=hZ.o W8 rfl;refine eJ (fun w'=>w'.cell? ⟨base+1+1,11,none⟩=some (.map (some base))/\(Instr.lookup 119 (.map (some base)) (.string (q)) false).run Tryz.prog w'= .ok (.slice none 0 0) w'/\w'.cell? ⟨wr.heap.size,0,none⟩=some (.string e.path)/\w'.cell? ⟨wr.heap.size,1,none⟩=some (.int .i64 e.kind)/\w'.cell? ⟨wr.heap.size,2,none⟩=some (.int .i64 e.mode)/\w'.cell? ⟨wr.heap.size,3,none⟩=some (.int .i64 e.time)/\w'.cell? ⟨wr.heap.size,4,none⟩=some (.slice da e.data.length dc)/\w'.cell? ⟨wr.heap.size,5,none⟩=some (.string e.link)) (by kernel_rfl) (by kernel_rfl) ?_
          simp only[bt,bu,az,bo,Nat.reduceAdd,Nat.reduceSub];rw[<-HB];clear HB
          iterate 12 (refine cI rfl ⟨k11,HL,d0,d1,d2,d3,d4,d5⟩ (by rintro w' ⟨Yd,Ye,Yf,Yg,YK,Zh,Zi,Zj⟩; go_simp; rfl) ?_; simp only[bN])
          have ho:=ah ((ak W8.heap.size W8).alloc (ai _) (.cells #[.string e.path, .int .i64 e.kind, .int .i64 e.mode, .int .i64 e.time, .slice da e.data.length dc, .string e.link] 79));have hz:base+1+1<W8.heap.size:=am hc.o;have hU:=aA ((ho.o.cell (p:=⟨base+1+1,11,none⟩) hz).trans k11) (aA (hZ.o _ (ho.o.block base (by omega))) (aA ((ho.o.cell (p:=⟨wr.heap.size,0,none⟩) hd).trans d0) (aA ((ho.o.cell (p:=⟨wr.heap.size,1,none⟩) hd).trans d1) (aA ((ho.o.cell (p:=⟨wr.heap.size,2,none⟩) hd).trans d2) (aA ((ho.o.cell (p:=⟨wr.heap.size,3,none⟩) hd).trans d3) (aA ((ho.o.cell (p:=⟨wr.heap.size,4,none⟩) hd).trans d4) ((ho.o.cell (p:=⟨wr.heap.size,5,none⟩) hd).trans d5)))))))
          have Hr:=ah hU;clear hU;refine cC 12 rfl (fun K hK=> ?_);go_wp2_with fail
          (first | (refine⟨Hr.o, ?_⟩) | skip)
          refine cC 13 rfl (fun K hK=> ?_);have Hn:base<=W8.heap.size:=by omega
          go_wp2_with (at_builtin; go_must (refine bO Tryz.appEnts rfl _ _ rfl base (.slice none 0 0) (0) ([]) rfl W8 [.string e.path, .int .i64 e.kind, .int .i64 e.mode, .int .i64 e.time, .slice da e.data.length dc, .string e.link] _ rfl rfl (lj (e:=e)) ((bM _ _ _ _)) h0.o Hn ?_); intro v' wc hl ha _ HP; obtain⟨ae,ce,rfl,-,-⟩:=aH hl)
          have hG:=(ha.block (base+1+1) hz (fun e9=>Ha.o.1 e9.symm)).trans hc.o;have HR:=(ha.block wr.heap.size hd (fun e9=>Ha.o.2.1 e9.symm)).trans HY.o;have Hi:=ha.block base (by omega) (fun e9=>Ha.o.2.2 e9.symm);have hH:=hZ.o wc Hi;have hD:=ah hG;have y3:=ah HR;have yl:=ah Hi;have Hb:=ah hl;have hh:=ah ha;have Hc:=ah HP
          clear hG HR Hi hl ha HP HL k11 d0 d1 d2 d3 d4 d5;obtain⟨d0,d1,d2,d3,d4,d5,_⟩:=aS y3.o;have k11:=ar (k:=11) hD.o;simp only[nw,eT,fZ,aK,aI,gd]at k11;refine⟨⟨k11,hH,d0,d1,d2,d3,d4,d5⟩, ?_⟩;refine cL (by kernel_rfl) ?_;refine eU rfl rfl (fun K hK=> ?_);clear k11 hH d0 d1 d2 d3 d4 d5;have yn:=ah (hu.o.map.same yl.o)
          go_wp2_with (at_mapUpdate; go_must (refine jY fw rfl _ _ _ _ rfl HX.o base (G.map nY) yn.o rfl (.string q) (.slice ae (0+1) ce) rfl rfl (gY H1) Hz.o ?_); intro w10 hI hw);have hv:=ah hw;have hY:=ah (hu.o.new (ai _) H1 (y:=(.slice da e.data.length dc,e)) Hy.o Hb.o hh.o (fun i hi=>by
           rcases Hc.o i hi with h9 | h9
           ·simp[Value.ownBlock]at h9
           ·exact h9) hI hw)
          clear hI hw;have He:=hm.o.below.trans ((Hw.o.mono Hf).trans (((ak base W8).grown hh.o Hn (fun i hi=>h8.o i hi)).grown hv.o (an Hn hh.o.size) (fun i hi=>by cases hi; exact ai _)));have hF:=hs.o.nilKeep (w':=w10) ((hv.o.block _ (aO hz hh.o.size) (fun e9=>by have:=bK e9; omega)).trans (hD.o.trans hc.o.symm)) ((hv.o.block _ (aO hs.o.known.map.lt hh.o.size) (fun e9=>by have:=bK e9; omega)).trans (hh.o.block _ hs.o.known.map.lt (fun e9=>yp.o e9.symm)))
          go_roundw
          ·refine⟨j+1,(G++[⟨q, .slice ae (0+1) ce,[(.slice da e.data.length dc,e)]⟩]),by omega,by go_num,⟨hF,hY.o,fun d=> ?_,He⟩⟩;rw[oJ Yp.o];rw[wW (g:=⟨q, .slice ae (0+1) ce,[(.slice da e.data.length dc,e)]⟩) HF.o]
           by_cases hJ:q=d
           ·rw[if_pos hJ,if_pos (show cr (bl e.path)=bl d by rw[<-hJ,HQ.o]; exact(iX _).symm),<-hm.o.ents d,<-hJ,uW HF.o]
            rfl
           ·rw[if_neg hJ,if_neg (fun h9=>hJ (kr (by rw[HQ.o]; exact(iX _).trans h9))),ci];exact hm.o.ents d
          simp[intOf]; omega
         | some g=>
          obtain⟨A,B,zz,z7,hA⟩: ∃A B,G=A++g::B/\g.dir=q/\ ∀x∈A,x.dir≠q:=by have h9:=List.find?_eq_some_iff_append.1 hf;obtain⟨h1,A,B,h2,h3⟩:=h9;exact⟨A,B,h2,by simpa using h1,fun x hx=>by simpa using h3 x hx⟩
          have Hg:=oH hf;subst z7;subst zz;have ya:=ah Hg;have HA:=ah hA;have Hh:=hu.o.own g (by simp);have HJ:=hm.o.grp.own g (by simp);obtain⟨ga,gc,hV,ZJ,-⟩:=aH Hh;have H0:g.ents.length<=4096:=by have h1:=hm.o.ents g.dir;rw[Hg]at h1;have h2:=congrArg List.length h1;rw[aw]at h2;rw[h2];have h3:(gW (tree.take j) g.dir).length<=(tree.take j).length:=dM _ _;rw[bn]at h3;have h4:=Hs.o.len;omega
          obtain⟨gl,hR⟩:=bI g.ents.length;have YZ:=ah hR;rw[<-hR]at hV H0;have h0:=ah (show gl<1099511627775 by omega);have Y0:=ah (show W8.ownsRow base 79 6 (.slice ga gl gc) gl (iE g.ents) by rw[<-hV,hR]; exact Hh);have Yq:=ah hV;have Ha:=ah (show(Value.slice ga gl gc).ownBlock≠some (base+1+1)/\(Value.slice ga gl gc).ownBlock≠some wr.heap.size/\(Value.slice ga gl gc).ownBlock≠some base from by
           rw[<-hV];refine⟨fun e9=> ?_,fun e9=> ?_,fun e9=> ?_⟩
           ·obtain⟨cs2,HH⟩:=bJ Hh e9;exact absurd (bU hc.o HH) (by decide)
           ·have:=(HJ.lt _ e9).2;omega
           ·obtain⟨cs2,HH⟩:=bJ Hh e9;exact hu.o.map.ncells HH)
          have yp:=ah (show(Value.slice ga gl gc).ownBlock≠some (base+1)from by rw[<-hV];intro e9;obtain⟨cs2,HH⟩:=bJ Hh e9;exact hs.o.known.cells HH)
          have h8:=ah (show ∀i,(Value.slice ga gl gc).ownBlock=some i->base<=i from fun i hi=>by rw[<-hV]at hi;exact(Hh.lt i hi).1)
          have hZ:=ah (show ∀W:World,W.heap[base]? =W8.heap[base]? ->(Instr.lookup 119 (.map (some base)) (.string g.dir) false).run Tryz.prog W= .ok (.slice ga gl gc) W from fun W hW=>by
           have:=(hu.o.map.same hW).is.hit fw HX.o (gY H1) (val:=g.val) (aP.2 ⟨g,by simp,rfl⟩) false;rw[hV]at this
           simpa using this)
          clear hf Hg hA Hh HJ hV hR;have HL:=hZ.o W8 rfl;refine eJ (fun w'=>w'.cell? ⟨base+1+1,11,none⟩=some (.map (some base))/\(Instr.lookup 119 (.map (some base)) (.string (g.dir)) false).run Tryz.prog w'= .ok (.slice ga gl gc) w'/\w'.cell? ⟨wr.heap.size,0,none⟩=some (.string e.path)/\w'.cell? ⟨wr.heap.size,1,none⟩=some (.int .i64 e.kind)/\w'.cell? ⟨wr.heap.size,2,none⟩=some (.int .i64 e.mode)/\w'.cell? ⟨wr.heap.size,3,none⟩=some (.int .i64 e.time)/\w'.cell? ⟨wr.heap.size,4,none⟩=some (.slice da e.data.length dc)/\w'.cell? ⟨wr.heap.size,5,none⟩=some (.string e.link)) (by kernel_rfl) (by kernel_rfl) ?_
          simp only[bt,bu,az,bo,Nat.reduceAdd,Nat.reduceSub];rw[<-HB];clear HB
          iterate 12 (refine cI rfl ⟨k11,HL,d0,d1,d2,d3,d4,d5⟩ (by rintro w' ⟨Yd,Ye,Yf,Yg,YK,Zh,Zi,Zj⟩; go_simp; rfl) ?_; simp only[bN])
          have ho:=ah ((ak W8.heap.size W8).alloc (ai _) (.cells #[.string e.path, .int .i64 e.kind, .int .i64 e.mode, .int .i64 e.time, .slice da e.data.length dc, .string e.link] 79));have hz:base+1+1<W8.heap.size:=am hc.o;have hU:=aA ((ho.o.cell (p:=⟨base+1+1,11,none⟩) hz).trans k11) (aA (hZ.o _ (ho.o.block base (by omega))) (aA ((ho.o.cell (p:=⟨wr.heap.size,0,none⟩) hd).trans d0) (aA ((ho.o.cell (p:=⟨wr.heap.size,1,none⟩) hd).trans d1) (aA ((ho.o.cell (p:=⟨wr.heap.size,2,none⟩) hd).trans d2) (aA ((ho.o.cell (p:=⟨wr.heap.size,3,none⟩) hd).trans d3) (aA ((ho.o.cell (p:=⟨wr.heap.size,4,none⟩) hd).trans d4) ((ho.o.cell (p:=⟨wr.heap.size,5,none⟩) hd).trans d5)))))))
          have Hr:=ah hU;clear hU;refine cC 12 rfl (fun K hK=> ?_);go_wp2_with fail
          (first | (refine⟨Hr.o, ?_⟩) | skip)
          refine cC 13 rfl (fun K hK=> ?_);have Hn:base<=W8.heap.size:=by omega
          go_wp2_with (at_builtin; go_must (refine bO Tryz.appEnts rfl _ _ rfl base (.slice ga gl gc) (gl) ((iE g.ents)) rfl W8 [.string e.path, .int .i64 e.kind, .int .i64 e.mode, .int .i64 e.time, .slice da e.data.length dc, .string e.link] _ rfl rfl (lj (e:=e)) (Y0.o) h0.o Hn ?_); intro v' wc hl ha _ HP; obtain⟨ae,ce,rfl,-,-⟩:=aH hl);have hG:=(ha.block (base+1+1) hz (fun e9=>Ha.o.1 e9.symm)).trans hc.o
          have HR:=(ha.block wr.heap.size hd (fun e9=>Ha.o.2.1 e9.symm)).trans HY.o;have Hi:=ha.block base (by omega) (fun e9=>Ha.o.2.2 e9.symm);have hH:=hZ.o wc Hi;have hD:=ah hG;have y3:=ah HR;have yl:=ah Hi;have Hb:=ah hl;have hh:=ah ha;have Hc:=ah HP;clear hG HR Hi hl ha HP HL k11 d0 d1 d2 d3 d4 d5;obtain⟨d0,d1,d2,d3,d4,d5,_⟩:=aS y3.o
          have k11:=ar (k:=11) hD.o;simp only[nw,eT,fZ,aK,aI,gd]at k11;refine⟨⟨k11,hH,d0,d1,d2,d3,d4,d5⟩, ?_⟩;refine cL (by kernel_rfl) ?_;refine eU rfl rfl (fun K hK=> ?_);clear k11 hH d0 d1 d2 d3 d4 d5;have yn:=ah (show ik Tryz.prog 9 wc base (A.map nY++(.string g.dir,g.val)::B.map nY)from by
           have:=hu.o.map.same yl.o
           simpa [nY]using this)
          go_wp2_with (at_mapUpdate; go_must (refine qo fw rfl _ _ _ _ rfl HX.o base (A.map nY) (B.map nY) (.string g.dir) (.slice ae (gl+1) ce) g.val yn.o rfl rfl rfl ?_); intro w10 hI hw);have hv:=ah hw;have hY:=ah (hu.o.over (ai _) (y:=(.slice da e.data.length dc,e)) Hy.o (by rw[<-YZ.o]; exact Hb.o) (by rw[Yq.o]; exact hh.o) (by rw[Yq.o]; exact Hc.o) hI hw)
          clear hI hw;have He:=hm.o.below.trans ((Hw.o.mono Hf).trans (((ak base W8).grown hh.o Hn (fun i hi=>h8.o i hi)).grown hv.o (an Hn hh.o.size) (fun i hi=>by cases hi; exact ai _)));have hF:=hs.o.nilKeep (w':=w10) ((hv.o.block _ (aO hz hh.o.size) (fun e9=>by have:=bK e9; omega)).trans (hD.o.trans hc.o.symm)) ((hv.o.block _ (aO hs.o.known.map.lt hh.o.size) (fun e9=>by have:=bK e9; omega)).trans (hh.o.block _ hs.o.known.map.lt (fun e9=>yp.o e9.symm)))
          go_roundw
          ·refine⟨j+1,(A++⟨g.dir, .slice ae (gl+1) ce,g.ents++[(.slice da e.data.length dc,e)]⟩::B),by omega,by go_num,⟨hF,hY.o,fun d=> ?_,He⟩⟩;rw[oJ Yp.o];rw[uX (A:=A) (B:=B) (g:=g) (g':=(⟨g.dir, .slice ae (gl+1) ce,g.ents++[((Value.slice da e.data.length dc,e):oU)]⟩:Cc)) rfl HA.o d]
           by_cases hJ:g.dir=d
           ·rw[if_pos hJ,if_pos (show cr (bl e.path)=bl d by rw[<-hJ,HQ.o]; exact(iX _).symm),<-hm.o.ents d,<-hJ,ya.o,aL]
            rfl
           ·rw[if_neg hJ,if_neg (fun h9=>hJ (kr (by rw[HQ.o]; exact(iX _).trans h9))),ci];exact hm.o.ents d
          simp[intOf]; omega
        ·have z8:j=n:=by omega
         have H0:ES wr base base tree:=⟨G,hm.o.grp,fun d=>by have:=hm.o.ents d; rwa [show tree.take j=tree by rw[z8,HN.o,dw]]at this⟩;have Hf:base<=wr.heap.size:=by have h1:=hm.o.grp.map.lt; omega
         have h7:7<=base:=an HE.o.seven hL;have y9: ∀p∈gs,0<=p.2/\p.2<=1099511627776:=fun p hp=>by have:=cu.1 Hu.o p hp; simpa using this
         have hX:LE base (base+1+1) (base+1) base k c gs tree (Jm k gs c tree):=⟨Zo.o,Yn.o,hsd,y9,by omega,by omega,h7,by omega,Hs.o.val,Hs.o.len,GW Yn.o Hs.o.len Hs.o.val,GX,GY⟩;have hM:Below w.heap.size w wr:=HV.o.trans (hm.o.below.mono hL);have YC:kZ (· <base) wr (.map (some gb)) gs:=by
          rcases HG.o with⟨h1,h2⟩ | ⟨gb9,h1,_,h3⟩
          ·exact .inl ⟨h1,h2⟩
          ·exact .inr ⟨gb9,h1,aO h3.lt hL,h3.same (hM.block _ h3.lt)⟩
         have hP:=Bx hX 514 (ai _) ⟨#[]⟩ (.slice none 0 0) [] wr (by show 514<=0+514; omega) (.inl rfl) hm.o.bd YC H0 (by intro b hb; simp at hb) (HE.o.keep hM HE.o.seven) Hf;unfold Ba at hP;clear H0 hX YC
         cases Ht:gV k gs c tree 514 ⟨#[]⟩with
         | error x9=>
          rw[Ht]at hP;have yc:=ah (show iy k c tree gs= .error x9 by rw[Ys.o,Ht]);have HW:=ah hP;clear hP Ht;go_wp2_with fail;refine HW.o.mono ?_;rintro e' w5 ⟨rfl,Yh,v5,bs5,hO,hy⟩;have HS:=ah (hM.trans (hy.below.mono hL));have Ho:=ah ((hy.below.block (w.heap.size+2) hS).trans ((hm.o.below.block (w.heap.size+2) hS).trans Hq.o));have zc:=ah Yh
          have e4:(x9 != 0)=true:=by simp[Yh]
          clear Yh hO hy hM
          go_upto_region 20 with(fail)
          obtain⟨W6,hB⟩:=bI (w5.alloc (.cells #[.string ⟨#[]⟩, .int .i64 0, .int .i64 0] 26));rw[<-hB];have hC:Below w5.heap.size w5 W6:=by rw[hB]; exact eW
          have Hv:=ah (aj HS.o hC);have hT:=ah (er hC Ho.o);clear hC hB;obtain⟨z0,z1,z2,_⟩:=aS hT.o;obtain⟨y0,y1,y2,_⟩:=gI hT.o;go_wp2_with fail;refine kj hT.o rfl rfl rfl rfl ⟨il Hv.o (by show w.heap.size<=w.heap.size+2; omega), ?_⟩;rw[yc.o];exact⟨rfl,zc.o⟩
         | ok p=>
          rw[Ht]at hP
          dsimp only at hP
          have yc:=ah (show iy k c tree gs= .ok (aV k gs p.1,eG k gs p.2 []) by rw[Ys.o,Ht]);obtain⟨r,hr⟩:=bI (aV k gs p.1);rw[<-hr]at hP;have Y7:=ah hr;have HW:=ah hP;unfold fi at HW;clear hP Ht hr;go_wp2_with fail;refine HW.o.mono ?_;rintro e' w5 ⟨rfl,-,v5,hO,hy⟩;have HS:=ah (hM.trans (hy.below.mono hL));have Ho:=ah ((hy.below.block (w.heap.size+2) hS).trans ((hm.o.below.block (w.heap.size+2) hS).trans Hq.o))
          have H8:=ah hO;clear hO hy hM
          go_upto_region 22 with(fail)
          obtain⟨W6,hB⟩:=bI ((w5.alloc (.cells #[.string r.name, .int .i64 r.gen, .int .i64 r.size] 26)).drew);have hC:Below w5.heap.size w5 W6:=by rw[hB]; exact(eW).drew
          have Hv:=ah (aj HS.o hC);have hT:=ah (er hC Ho.o);have yb:=ah (show W6.heap[w5.heap.size]? =some (.cells #[.string r.name, .int .i64 r.gen, .int .i64 r.size] 26 (0,0)) by rw[hB]; exact ep w5 _);have Hx:=ah (H8.o.below hC);obtain⟨zs,YL,y6⟩:=Hx.o.own;obtain⟨va,vc,Zg,-,-⟩:=aH y6.row;subst Zg;have zl:=ah YL;have YU:=ah y6
          have H9:=ah Hx.o.box;clear hC YL y6;have k12:=ar (k:=12) H9.o;have f0:=ar (k:=0) yb.o;have f1:=ar (k:=1) yb.o;have f2:=ar (k:=2) yb.o;simp only[nw,eT,fZ,aK,aI,gd]at k12 f0 f1 f2;obtain⟨z0,z1,z2,_⟩:=aS hT.o;obtain⟨y0,y1,y2,_⟩:=gI hT.o;refine fd (fun w'=>w'.cell? ⟨base+1+1,12,none⟩=some (.slice va zs.length vc)/\w'.cell? ⟨w5.heap.size,0,none⟩=some (.string r.name)/\w'.cell? ⟨w5.heap.size,1,none⟩=some (.int .i64 r.gen)/\w'.cell? ⟨w5.heap.size,2,none⟩=some (.int .i64 r.size)) (by kernel_rfl) ?_
          rw[<-hB];clear hB
          iterate 5 (refine cI rfl ⟨k12,f0,f1,f2⟩ (by rintro w' ⟨Yd,Ye,Yf,Yg⟩; go_simp; rfl) ?_; simp only[bN])
          refine cC 5 rfl (fun K hK=> ?_);have YK:w.heap.size+1+1<w5.heap.size:=am Ho.o;have y7:base+1+1≠w.heap.size+1+1:=by omega
          have Hl:w5.heap.size≠w.heap.size+1+1:=by omega
          have hU:=fun(u0 u1 u2:Value)=>aA ((cw (a:=⟨base+1+1,12,none⟩) (et (w:=W6) (x0:=u0) (x1:=u1) (x2:=u2) y7)).trans k12) (aA ((cw (a:=⟨w5.heap.size,0,none⟩) (et (w:=W6) (x0:=u0) (x1:=u1) (x2:=u2) Hl)).trans f0) (aA ((cw (a:=⟨w5.heap.size,1,none⟩) (et (w:=W6) (x0:=u0) (x1:=u1) (x2:=u2) Hl)).trans f1) ((cw (a:=⟨w5.heap.size,2,none⟩) (et (w:=W6) (x0:=u0) (x1:=u1) (x2:=u2) Hl)).trans f2)))
          have Hr:=ah hU;clear hU k12 f0 f1 f2;go_wp2_with fail;refine⟨Hr.o _ _ _, ?_⟩
          iterate 2 (refine cI rfl (Hr.o _ _ _) (by rintro w' ⟨Yd,Ye,Yf,Yg⟩; go_simp; rfl) ?_; simp only[bN])
          refine cL (by kernel_rfl) ?_;go_wp2_with fail;refine kj hT.o rfl rfl rfl rfl ⟨il Hv.o (by show w.heap.size<=w.heap.size+2; omega), ?_⟩;rw[yc.o];refine⟨_,zs,by rw[<-Y7.o]; rfl,zl.o,YU.o.other hT.o (by decide) (by decide) hL (fun i hi=>et hi)⟩
      ·have e1:(x != 0)=true:=by simp[Hm]
       have Yu:=ah Hm;clear Hm;obtain⟨z0,z1,z2,_⟩:=aS Hq.o;obtain⟨y0,y1,y2,_⟩:=gI Hq.o;go_wp2_with fail;refine kj Hq.o rfl rfl rfl rfl ⟨il HV.o (by show w.heap.size<=w.heap.size+2; omega), ?_⟩;rw[Yr.o,if_neg (by rw[hN.o]; exact Yu.o)];rw[hN.o];exact⟨rfl,Yu.o⟩
     ·intro key v1 w1' a0 e0 YE Zw Hj Yb Zs YH ZU;simp only[CY,cF]at Zw;obtain⟨rfl,rfl⟩:=Zw;have Y4:=ah YE;have Y8:=ah Yb;have Zd:w2.heap.size<=r9:=by have:=ZE.o; omega
      have Yw:Below w2.heap.size w2 w1':=Hp.o.grown Zs Hp.o.size (fun i hi=>by cases hi; exact Zd);have H6:=ah Yw;have Za:wr.rangeLeft gb r9=(gs.map CY).length-vis.length:=by have:=YN.o.left; omega
      have H5:w1'.rangeLeft gb r9+(vis++[(Value.string a0,Value.int .i64 e0)]).length=(gs.map CY).length:=Yb.left;have ZD:=ah (show w1'.rangeLeft gb r9<wr.rangeLeft gb r9 by
       have h1:=YN.o.left;rw[ag,bB]at H5
       omega)
      clear YE Hj Yb Zs YH Yw Za H5
      by_cases YR:0<=e0/\e0<=1099511627776
      ·obtain⟨ZM,ZN⟩:=YR;have HO:=ah (aA ZM ZN);go_wp2_with fail
       go_roundw
       ·refine⟨_,Y8.o,fun p hp=> ?_,H6.o⟩
        rcases aN.1 hp with hp | hp
        ·exact Yt.o p hp
        ·rw[aE]at hp;subst hp;exact⟨e0,rfl,HO.o.1,HO.o.2⟩
       exact ZD.o
      ·have Zq:=ah (show iy k c tree gs= .error 1 by rw[Y3.o,if_neg];intro h9;have:=cu.1 h9 _ Y4.o;simp only[aF,aJ]at this;exact YR this)
       have Ho:=ah (er H6.o yv.o);have HS:=ah (aj Yi.o H6.o);obtain⟨z0,z1,z2,_⟩:=aS Ho.o;obtain⟨y0,y1,y2,_⟩:=gI Ho.o
       by_cases ZK:e0<0
       ·clear YR;go_wp2_with fail;refine kj Ho.o rfl rfl rfl rfl ⟨il HS.o (by show w.heap.size<=w.heap.size+2; omega), ?_⟩;rw[Zq.o];exact⟨rfl,by decide⟩
       ·have ZG:1099511627776<e0:=by omega
        clear YR;go_wp2_with fail;refine kj Ho.o rfl rfl rfl rfl ⟨il HS.o (by show w.heap.size<=w.heap.size+2; omega), ?_⟩;rw[Zq.o];exact⟨rfl,by decide⟩
theorem vX {W:World} {b n sz:Nat} {cells:List Value} {t:TypeId} (h:W.heap[b]? =some (.cells cells.toArray t (0,0))) (hl:cells.length=n*sz) (hn:n<=maxLen):cD (fun k=>k=b) W sz (.slice (some ⟨b,0,none⟩) n n) n cells:=
 ⟨hl,some ⟨b,0,none⟩,n,rfl,ai _,hn, .inr ⟨b,0,rfl,rfl,fun j u hj=>by rw[bQ h,bT,aC]; exact hj⟩⟩
theorem jG {S:Nat->Prop} {w:World} {v:Value} {bs:List UInt8} (h:bD S w v bs):(convert 29 9 v).run Tryz.prog w= .ok (.string ⟨bs.toArray⟩) w:=by have h1:=zu (S:=S) (w:=w) (v:=v) (bs:=bs) h;rw[yd]at h1;exact h1
theorem Mm (w:World) (c:UInt8):(convert 29 9 (.slice (some ⟨w.heap.size,0,none⟩) 1 1)).run Tryz.prog (w.alloc (.cells #[.int .u8 (c.toNat:Int)] 5))= .ok (.string ⟨#[c]⟩) (w.alloc (.cells #[.int .u8 (c.toNat:Int)] 5)):=by have h:=jG (S:=fun _=>True) (bs:=[c]) (w:=w.alloc (.cells #[.int .u8 (c.toNat:Int)] 5)) (v:= .slice (some ⟨w.heap.size,0,none⟩) 1 1) ((vX (cells:=[aY c]) (aG w _) rfl (by decide)).weak (fun _ _=>trivial));exact h
theorem tA (c:UInt8) (w:World):Calls Tryz.prog 93 #[.int .u8 (c.toNat:Int)] w fun e w'=>e= .returned (.string (xp c))/\Below w.heap.size w w':=by
 have ha:=Mm w c
 go_enter Tryz.func93,Tryz.ntmps93
 go_wp2_with fail;go_ret;refine⟨?_,eW⟩
 rfl
theorem tB (w:World):Calls Tryz.prog 33 #[] w fun e w'=>e= .returned (kF fh)/\Below w.heap.size w w':=by
 have hc:=ah ((ak w.heap.size w).alloc (ai _) (.cells #[.string ⟨#[]⟩, .string ⟨#[]⟩, .string ⟨#[]⟩, .string ⟨#[]⟩, .string ⟨#[]⟩] 42));have he:=ah (ep w (.cells #[.string ⟨#[]⟩, .string ⟨#[]⟩, .string ⟨#[]⟩, .string ⟨#[]⟩, .string ⟨#[]⟩] 42))
 go_enter Tryz.func33,Tryz.ntmps33
 go_wp2_with fail;refine(tA 110 _).mono ?_;rintro e wk ⟨rfl,ha⟩;have hd:=ah (aj hc.o ha);have hf:=ah (er ha he.o);clear ha hc he;have hc:=hd;have he:=hf;clear hd hf;go_wp2_with fail;refine(tA 115 _).mono ?_;rintro e wk ⟨rfl,ha⟩;have hd:=ah (aj hc.o ha);have hf:=ah (er ha he.o);clear ha hc he;have hc:=hd;have he:=hf;clear hd hf
 go_wp2_with fail;refine(tA 99 _).mono ?_;rintro e wk ⟨rfl,ha⟩;have hd:=ah (aj hc.o ha);have hf:=ah (er ha he.o);clear ha hc he;have hc:=hd;have he:=hf;clear hd hf;go_wp2_with fail;refine(tA 105 _).mono ?_;rintro e wk ⟨rfl,ha⟩;have hd:=ah (aj hc.o ha);have hf:=ah (er ha he.o);clear ha hc he;have hc:=hd;have he:=hf;clear hd hf
 go_wp2_with fail;refine(tA 116 _).mono ?_;rintro e wk ⟨rfl,ha⟩;have hd:=ah (aj hc.o ha);have hx:=er ha he.o;obtain⟨c0,c1,c2,c3,c4,_⟩:=aS hx;obtain⟨f0,f1,f2,f3,f4,_⟩:=gI hx;have h5:=jm (k:=4) (jm (k:=3) (jm (k:=2) (jm (k:=1) (jm (k:=0) hx (.string (xp 110))) (.string (xp 115))) (.string (xp 99))) (.string (xp 105))) (.string (xp 116))
 simp only[aW,cG,cn]at h5;have H5:=ah h5;clear ha hx h5;go_wp2_with fail;obtain⟨m0,m1,m2,m3,m4,_⟩:=aS H5.o;refine cP (v:=kF fh) (by simp[results,Tryz.results33,go_sem,m0,m1,m2,m3,m4]; rfl) rfl ⟨rfl, ?_⟩;have hb:w.heap.size<=w.heap.size:=ai _;exact cz (cz (cz (cz (cz hd.o hb _) hb _) hb _) hb _) hb _
theorem oF (w:World):Calls Tryz.prog 34 #[] w fun e w'=>e= .returned (kB kP)/\Below w.heap.size w w':=by
 have hx:=ep w (.cells #[.int .i64 2, .int .i64 6, .int .i64 1, .int .i64 1, .int .u64 0] 45);obtain⟨m0,m1,m2,m3,m4,_⟩:=aS hx;have M:=ah (aA m0 (aA m1 (aA m2 (aA m3 m4))));clear hx m0 m1 m2 m3 m4
 go_enter Tryz.func34,Tryz.ntmps34
 go_wp2_with fail;obtain⟨m0,m1,m2,m3,m4⟩:=M.o;exact cP (v:=kB kP) (by simp[results,Tryz.results34,go_sem,m0,m1,m2,m3,m4]; rfl) rfl ⟨rfl,eW⟩
end
section
open Go Go.RowKit
def rN :Array Value:=(ql.list.map fj).toArray
theorem Od :Tryz.prog.built 216 ((ql.list.map fj).zipIdx.map fun p=>(p.2,p.1))=some rN:=by kernel_rfl
section
variable {P : Program} {ops : Array Oper} {Q : Exit → Act → World → Prop} {S : World → Prop}
theorem JR {dst:Option Tmp} {op:Op} {ty:TypeId} {pos:String} {aft:Array Edge} {g:Option (Nat×Bool)} {v:Value} {fuel:Nat} {listed:Array Bool} {a:Act} {w:World} (i:Nat) (hi:ops[i]? =some ⟨dst,op,ty,pos,aft,g⟩)
  (hs:Region.noSelect ops=true) (hf:Region.free .any ops listed i=true) (hr:(Region.ready .any ops listed).contains i=true)
  (hQ: ∀c a w,Q (.panic c) (a.put dst v) w->Q (.panic c) a w) (hY:YieldsIf P ops S ⟨dst,op,ty,pos,aft,g⟩ v a) (hS:S w)
  (h:pM P ops Q S fuel (listed.setIfInBounds i true) (a.put dst v) w):pM P ops Q S (fuel+1) listed a w:=
 pM.of (wpAnyH_take (oi:=⟨dst,op,ty,pos,aft,g⟩) hi hs hf hr hQ hY hS h.out)
end
theorem Fa {S:Nat->Prop} {w:World} {a:Option Addr} {n cap:Nat} {bs:List UInt8} (h:bD S w (.slice a n cap) bs) (h0:0<bs.length): ∃b o,a=some ⟨b,o,none⟩/\n=bs.length/\n<=cap/\cap<=maxLen/\ ∀j x,bs[j]? =some x->w.cell? ⟨b,o+j,none⟩=some (u8W x):=by
 obtain⟨hl,a0,cap0,hv,hn,hm,h1⟩:=h
 cases hv
 rcases h1 with h1 | ⟨b,o,rfl,hS,hc⟩
 ·omega
 ·exact⟨b,o,rfl,rfl,hn,hm,fun j x hj=>hc j _ (by rw[bh,hj]; rfl)⟩
theorem Ez (S:Nat->Prop) (v:Value) (data:List UInt8) (w:World) (hv:bD S w v data) (hl:data.length<549755813888):
  Calls Tryz.prog 206 #[v] w fun e w'=>e= .returned (.string ⟨(qk data).toArray⟩)/\Below w.heap.size w w':=by
 obtain⟨W0,hy⟩:=bI ((w.alloc (.cells (List.replicate 8 (fj 0)).toArray 216)).setRow w.heap.size rN);have hM:=ah (show Below w.heap.size w W0 by rw[hy]; exact eE (eW) (ai _) _);have hP:=ah (show W0.heap[w.heap.size]? =some (.cells rN 216 (0,0)) by rw[hy]; exact em _ _ _ _ _ _ (aG w _));have HV:=ah hv;clear hv
 go_enter Tryz.func206,Tryz.ntmps206
 go_upto_region 2 with(first | (refine iM rfl 216 _ rfl ((ql.list.map fj).zipIdx.map fun p=>(p.2,p.1)) (by kernel_rfl) rN Od ?_) | (refine dA rfl 216 _ _ rfl w.heap.size rN rfl rfl _ _ (aG w _) (by kernel_rfl) (by kernel_rfl) (by kernel_rfl) ?_) | fail)
 change Code.wp _ _ _ _ ((w.alloc (.cells (List.replicate 8 (fj 0)).toArray 216)).setRow w.heap.size rN)
 rw[<-hy];clear hy;go_wp2_with fail;refine(Nj S v data W0 (cD.below HV.o (by omega) hM.o) hl).mono ?_;rintro e w1 ⟨a,c,rfl,ho,hI⟩;have HO:=ah ho;have hN:=ah (aj hM.o hI);have Hc:=ah (er hI hP.o);obtain⟨p,hp⟩:=bI (data++pF data.length);rw[<-hp]at HO ⊢;have HP:=ah hp;have hL:p.length%64=0:=by rw[hp]; exact KA data
 have hr:p.length<1099511627775:=by rw[hp,ag,xI]; unfold iN; omega
 obtain⟨q,hq⟩:=bI (p.length/64);obtain⟨n,hn⟩:=bI p.length;rw[<-hn]at HO hL hr hq ⊢;have HN:=ah hn;have HQ:=ah hq;clear ho hI hp hn;have hF:=ah (show lH w.heap.size w1 w1 (jZ p 0)from⟨Hc.o,⟨rfl,rfl,rfl,ai _,fun _ _ _=>rfl⟩⟩);go_wp2_with fail
 go_loopw [5] (fun i wr=> ∃k:Nat,k<=q/\i= .int .i64 (((64*k:Nat):Int))/\lH w.heap.size w1 wr (jZ p k)) (fun i _=>64*q-(intOf i).toNat)
 ·exact⟨0,by omega,rfl,hF.o⟩
 ·obtain⟨k,hk,rfl,h3⟩:=hrel;have hd:=ah h3;clear h3;obtain⟨j,hj⟩:=bI (64*k);rw[<-hj];have HJ:=ah hj
  by_cases HB:k<q
  ·have HA:j+64<=n:=by omega
   have HD:(j:Int)<n:=by omega
   obtain⟨j2,hZ⟩:=bI (j+64);have hD:=ah hZ;have Ht:IntKind.i64.wrap ((j:Int)+64)=(j2:Int):=by rw[bF]; omega
   have hw:bD (fun _=>True) wr (.slice a n c) p:=by have h1:=cJ HO.o;exact(cD.same h1 (fun i hS=>hd.o.grown.block i (HO.o.lt i hS.2).2 (fun e=>by cases e; have:=am hP.o; have:=hS.1; omega))).weak (fun _ _=>trivial)
   obtain⟨a3,c3,hA,hz⟩:=rJ hw (show j<j2 by omega) (by rw[<-HN.o]; omega);have h2:ja p j j2=(p.drop (64*k)).take 64:=by unfold ja; rw[hD.o,fT,HJ.o]
   have hr:((p.drop (64*k)).take 64).length=64:=by rw[bn,bz,<-HN.o]; omega
   rw[h2]at hz hA;obtain⟨bk,o3,rfl,HC,hY,Hq,hc⟩:=Fa hz (by rw[hr]; decide);rw[hr]at hz hA hY;clear hj hZ;have Hv:=ah hc;obtain⟨V,hV⟩:=bI (jZ p k);rw[<-hV]at hd;have hG:=ah hV;have hU:=ah (show V.Ok by rw[hV]; exact ti p k);obtain⟨W6,he⟩:=bI wr.drew;have ha:=ah (show lH w.heap.size w1 W6 V by rw[he]; exact hd.o.next ((ak _ _).drew))
   have hs:=ah (show ∀i x,((p.drop (64*k)).take 64)[i]? =some x->W6.cell? ⟨bk,o3+i,none⟩=some (u8W x) by rw[he]; exact hc);have Hd:=ah (show(Tryz.prog.info? 216).map (·.size)=some (V.list.map fj).length by kernel_rfl);have Hw:=ah (show(Tryz.prog.info? 216).map (·.size)=some (V.list.map fj).toArray.size by kernel_rfl);clear hV hw hz hc h2
   go_upto_region 6 with(fail)
   refine eJ (fun w'=>w'.heap[w.heap.size]? =some (.cells (V.list.map fj).toArray 216 (0,0))) (by kernel_rfl) (by kernel_rfl) ?_;simp only[bt,bu,az,bo,Nat.reduceAdd,Nat.reduceSub];rw[<-he];clear he;refine JR 0 rfl (by kernel_rfl) (by kernel_rfl) (by kernel_rfl) (fun _ _ _ h=>h) (yieldsIf_load_mid rfl 216 _ rfl w.heap.size 0 rfl (V.list.map fj) _ (fun w' hh=>mF hh) fI rfl Hd.o) ha.o.box ?_
   simp only[bN];refine dy 1 rfl ha.o.box (by intro w' hh; go_simp; rfl) ?_;simp only[bN];refine dy 2 rfl ha.o.box (by intro w' hh; go_simp; rfl) ?_;simp only[bN];refine dy 3 rfl ha.o.box (by intro w' hh; go_simp; rfl) ?_;simp only[bN];refine dy 4 rfl ha.o.box (by intro w' hh; go_simp; rfl) ?_;simp only[bN];refine dy 5 rfl ha.o.box (by intro w' hh; go_simp; first | rfl | (rw[hA]; rfl)) ?_
   simp only[bN];have hJ:=EX V bk o3 c3 _ W6 hU.o hr hY Hq hs.o;obtain⟨V2,hH⟩:=bI (sr V ((p.drop (64*k)).take 64));rw[<-hH]at hJ;have Hj:=ah hH;have Hb:=ah hJ;clear hJ hA hr hH;refine cC 6 rfl (fun K hK=> ?_);go_wp2_with fail;refine Hb.o.mono ?_;rintro e w7 ⟨rfl,hX⟩;have hg:=ah (ha.o.next hX);have h7:=ah (show(V2.list.map fj).toArray.all (·.oneCell')=true from ei (fun x hx=>by obtain⟨y,-,rfl⟩:=aP.1 hx; rfl))
   have He:=ah (show(Tryz.prog.info? 216).map (·.size)=some (V2.list.map fj).toArray.size by kernel_rfl);clear hX;go_wp2_with fail;refine⟨hg.o.box, ?_⟩;refine cL (by kernel_rfl) ?_;refine eU rfl rfl (fun K hK=> ?_);go_wp2_with (refine dA rfl 216 _ _ rfl w.heap.size (V2.list.map fj).toArray rfl rfl _ _ hg.o.box He.o rfl h7.o ?_)
   go_roundw
   case rel=>
    refine⟨k+1,by omega, ?_,hg.o.put (r':=V2) rfl |> fun h=>by rw[show jZ p (k+1)=sr (jZ p k) ((p.drop (64*k)).take 64)from rfl,<-hG.o,<-Hj.o]; exact h⟩;rw[hD.o,HJ.o]; exact congrArg (Value.int .i64) (by omega)
   case measure=>
    have:=HJ.o;have:=hD.o;simp only[intOf,eQ];omega
  ·have Hn:k=q:=by omega
   subst Hn;have Hy: ¬(j:Int)<n:=by omega
   obtain⟨w5,Hs⟩:=bI wr;subst Hs;obtain⟨V,hV⟩:=bI (jZ p k);rw[<-hV]at hd;have hU:=ah (show V.Ok by rw[hV]; exact ti p k);have hG:=ah (show qk data=V.out by unfold qk; rw[<-HP.o,<-HN.o,<-HQ.o,hV]);have Hf:=ah (show(w5.alloc (.cells #[] 5)).ownsRow w5.heap.size 5 1 (.slice (some ⟨w5.heap.size,0,none⟩) 0 0) 0 []from dp (e:=5) (size:=1) (base:=w5.heap.size) w5 #[] 0 (ai _) (aU _) (by simp))
   have Ha:=ah ((ak w5.heap.size w5).alloc (ai _) (.cells #[] 5));clear hV hj;go_wp2_with fail
   go_loopw [6,7] (fun o i wr=> ∃(j:Nat) (a c:_),j<=8/\i= .int .i64 (j:Int)/\o= .slice a (4*j) c/\wr.ownsRow w5.heap.size 5 1 (.slice a (4*j) c) (4*j) (((V.list.take j).flatMap Bk).map aY)/\Below w5.heap.size w5 wr) (fun _ i _=>8-(intOf i).toNat)
   ·exact⟨0,_,_,by omega,rfl,rfl,Hf.o,Ha.o⟩
   ·obtain⟨j,a6,c6,hj,rfl,rfl,ho,hb⟩:=hrel;have hE:=ah ho;have hB:=ah hb;have HE:=hb.size;clear ho hb;obtain⟨m,hm⟩:=bI (4*j);rw[<-hm]at hE ⊢;have HM:=ah hm
    by_cases h8:j<8
    ·obtain⟨x,hx⟩: ∃x,V.list[j]? =some x:=⟨_,bG (show j<V.list.length from h8)⟩;have HX:=ah hx;have cx:=(hB.o.cell (p:=⟨w.heap.size,j,none⟩) (am hd.o.box)).trans (hd.o.get hx);have Hz:(j:Int)<8:=by omega
     clear hx hm;obtain⟨W6,he⟩:=bI wr.drew;have hT:=ah (show W6.cell? ⟨w.heap.size,j,none⟩=some (.int .u32 (x:Int)) by rw[he]; exact cx);have Hg:=ah (show W6.ownsRow w5.heap.size 5 1 (.slice a6 m c6) m (((V.list.take j).flatMap Bk).map aY) by rw[he]; exact hE.o);have hC:=ah (show Below w5.heap.size w5 W6 by rw[he]; exact hB.o.drew);have Hu:=hC.o.size
     go_upto_region 11 with(fail)
     refine eJ (fun w'=>w'.cell? ⟨w.heap.size,j,none⟩=some (.int .u32 (x:Int))) (by kernel_rfl) (by kernel_rfl) ?_;simp only[bt,bu,az,bo,Nat.reduceAdd,Nat.reduceSub];rw[<-he];clear he cx
     iterate 20 (refine cI rfl hT.o (by intro w' hh; go_simp; rfl) ?_; simp only[bN])
     refine cC 20 rfl (fun K hK=> ?_);go_wp2_with fail;have Hp:w.heap.size<W6.heap.size:=aO (am hd.o.box) Hu;have h9:=ah ((ak W6.heap.size W6).alloc (ai _) (.cells #[.int .u8 ((x:Int)/16777216%256), .int .u8 ((x:Int)/65536%256), .int .u8 ((x:Int)/256%256), .int .u8 ((x:Int)%256)] 5));have Hk:=(h9.o.cell (p:=⟨w.heap.size,j,none⟩) Hp).trans hT.o
     have Hi:=ah (vX (n:=4) (sz:=1) (cells:=[.int .u8 ((x:Int)/16777216%256), .int .u8 ((x:Int)/65536%256), .int .u8 ((x:Int)/256%256), .int .u8 ((x:Int)%256)]) (aG W6 (.cells #[.int .u8 ((x:Int)/16777216%256), .int .u8 ((x:Int)/65536%256), .int .u8 ((x:Int)/256%256), .int .u8 ((x:Int)%256)] 5)) rfl (by decide));have hR:=ah (Hg.o.alloc (.cells #[.int .u8 ((x:Int)/16777216%256), .int .u8 ((x:Int)/65536%256), .int .u8 ((x:Int)/256%256), .int .u8 ((x:Int)%256)] 5))
     have Hh:=ah (show ∀u∈([.int .u8 ((x:Int)/16777216%256), .int .u8 ((x:Int)/65536%256), .int .u8 ((x:Int)/256%256), .int .u8 ((x:Int)%256)]:List Value),u.oneCell'=true by intro u hu; simp only[aT,dz,or_false]at hu; rcases hu with rfl | rfl | rfl | rfl<;> rfl);have Hr:m+4<1099511627775:=by have:=HM.o; omega
     have h4:w5.heap.size<=(W6.alloc (.cells #[.int .u8 ((x:Int)/16777216%256), .int .u8 ((x:Int)/65536%256), .int .u8 ((x:Int)/256%256), .int .u8 ((x:Int)%256)] 5)).heap.size:=by simp; omega
     refine⟨Hk, ?_⟩;refine cC 21 rfl (fun K hK=> ?_);go_wp2_with (at_builtin; go_must (refine ew Tryz.appBytes rfl _ _ rfl w5.heap.size (.slice a6 m c6) m (((V.list.take j).flatMap Bk).map aY) rfl hR.o _ 4 [.int .u8 ((x:Int)/16777216%256), .int .u8 ((x:Int)/65536%256), .int .u8 ((x:Int)/256%256), .int .u8 ((x:Int)%256)] rfl Hi.o Hh.o Hr h4 ?_); intro v9 w9 hf Hm; obtain⟨a9,c9,rfl,-,-⟩:=aH hf)
     have hO:=ah (bZ (hC.o.alloc hC.o.size (.cells #[.int .u8 ((x:Int)/16777216%256), .int .u8 ((x:Int)/65536%256), .int .u8 ((x:Int)/256%256), .int .u8 ((x:Int)%256)] 5)) hR.o Hm (ai _) h4);have Ho:w.heap.size<w5.heap.size:=am hd.o.box;have Hl:w9.cell? ⟨w.heap.size,j,none⟩=some (.int .u32 (x:Int)):=(hO.o.cell (p:=⟨w.heap.size,j,none⟩) Ho).trans (hd.o.get HX.o)
     refine⟨Hl, ?_⟩;refine cL (by kernel_rfl) ?_;refine eU rfl rfl (fun K hK=> ?_);go_wp2_with fail
     go_roundw
     ·have h0:m+4=4*(j+1):=by rw[HM.o]; omega
      refine⟨j+1,a9,c9,by omega,by simp,by rw[h0], ?_,hO.o⟩;rw[<-h0,dZ HX.o,bV,aL];have e4:([x].flatMap Bk).map aY=[.int .u8 ((x:Int)/16777216%256), .int .u8 ((x:Int)/65536%256), .int .u8 ((x:Int)/256%256), .int .u8 ((x:Int)%256)]:=by
       have e0:=lx (x:=x/2^24) (y:=(x:Int)/16777216%256) (by omega);have e1:=lx (x:=x/2^16) (y:=(x:Int)/65536%256) (by omega);have e2:=lx (x:=x/2^8) (y:=(x:Int)/256%256) (by omega);have e3:=lx (x:=x) (y:=(x:Int)%256) rfl;rw[e0,e1,e2,e3]
       rfl
      rw[e4];exact hf
     simp[intOf]; omega
    ·obtain rfl:j=8:=by omega
     obtain rfl:m=V.out.length:=by rw[HM.o,IJ]
     have Hx:=jG (bs:=V.out) (cJ (show wr.ownsRow w5.heap.size 5 1 (.slice a6 V.out.length c6) V.out.length (V.out.map aY)from hE.o));clear hm;go_wp2_with fail;go_ret;have hW:Below w.heap.size w w5:=mr hN.o hd.o.grown (ai _) hN.o.size;exact⟨by rw[hG.o]; rfl,hW.trans (hB.o.mono hW.size)⟩
def uv (k:List UInt8) (x:UInt8) (i:Nat):List UInt8:=(List.range i).map fun j=>(k.getD j 0)^^^x
theorem Ap (k:List UInt8) (x:UInt8) (i:Nat):uv k x (i+1)=uv k x i++[(k.getD i 0)^^^x]:=by simp[uv,List.range_succ]
theorem Nm (k:List UInt8) (x:UInt8) (i:Nat):(uv k x i).length=i:=by simp[uv]
theorem Nl {k:List UInt8} (x:UInt8) (h:k.length<=64):uv k x 64=(k++List.replicate (64-k.length) 0).map (fun b=>b^^^x):=by
 apply List.ext_getElem?
 intro j;unfold uv;rw[bh,bh]
 by_cases hj:j<64
 ·rw[List.getElem?_range hj]
  by_cases hk:j<k.length
  ·rw[bH hk,bG hk];simp[List.getD_eq_getElem?_getD,hk]
  ·rw[bC (by omega),List.getElem?_replicate,if_pos (by omega)];simp[List.getD_eq_getElem?_getD,List.getElem?_eq_none (show k.length<=j by omega)]
 ·rw[dL (by simp; omega),dL (by simp; omega)]
  rfl
theorem Nk (s:ByteArray) (x:UInt8) (w:World):Calls Tryz.prog 207 #[.string s, .int .u8 (x.toNat:Int)] w fun e w'=> ∃a c,e= .returned (.slice a 64 c)/\me w' w.heap.size (.slice a 64 c) (uv (bl s) x 64)/\Below w.heap.size w w':=by
 have hl:=ah (show(w.alloc (.cells #[] 5)).ownsRow w.heap.size 5 1 (.slice (some ⟨w.heap.size,0,none⟩) 0 0) 0 ((uv (bl s) x 0).map aY)from dp (e:=5) (size:=1) (base:=w.heap.size) w #[] 0 (ai _) (aU _) (by simp));have hj:=ah ((ak w.heap.size w).alloc (ai _) (.cells #[] 5))
 go_enter Tryz.func207,Tryz.ntmps207
 go_wp2_with fail
 go_loopw [5,6] (fun o i wr=> ∃(k:Nat) (a:Option Addr) (c:Nat),k<=64/\i= .int .i64 (k:Int)/\o= .slice a k c/\wr.ownsRow w.heap.size 5 1 (.slice a k c) k ((uv (bl s) x k).map aY)/\Below w.heap.size w wr) (fun _ i _=>64-(intOf i).toNat)
 ·exact⟨0,_,_,by omega,rfl,rfl,hl.o,hj.o⟩
 ·obtain⟨k,a,c,hk,rfl,rfl,ho,hb⟩:=hrel;have HO:=ah ho;have HB:=ah hb;have hz:=hb.size;clear ho hb hl hj
  by_cases hq:k<64
  ·have hp:(k:Int)<64:=by omega
   have hd:k<1099511627775:=by omega
   by_cases hm:k<s.size
   ·have hh:(k:Int)<(s.size:Int):=by omega
    have HZ:=ah (show ∀u∈[Value.int .u8 (bits BinOp.xor IntKind.u8 (s[k].toNat:Int) (x.toNat:Int))],u.oneCell'=true by simp[Value.oneCell']);have hg:=ah (show [Value.int .u8 (bits BinOp.xor IntKind.u8 (s[k].toNat:Int) (x.toNat:Int))]=[(bl s).getD k 0^^^x].map aY by rw[GK,cM,bG (show k<(bl s).length by rw[<-bi]; exact hm),Option.getD_some,kO s k hm]; rfl)
    go_wp2_with (at_builtin; go_loud (refine bO Tryz.appBytes rfl _ _ rfl w.heap.size (.slice a k c) k ((uv (bl s) x k).map aY) rfl wr [Value.int .u8 (bits BinOp.xor IntKind.u8 (s[k].toNat:Int) (x.toNat:Int))] _ rfl rfl HZ.o HO.o hd hz ?_); intro v' wc ha hc _ _; obtain⟨ae,ce,rfl,-,-⟩:=aH ha; rw[hg.o,<-aL,<-Ap]at ha; have hf:=ah ha; have he:=ah (bZ HB.o HO.o hc (ai _) hz); clear ha hc)
    go_roundw
    ·exact⟨k+1,_,_,by omega,by go_num,rfl,hf.o,he.o⟩
    simp[intOf]; omega
   ·have hh: ¬(k:Int)<(s.size:Int):=by omega
    have HZ:=ah (show ∀u∈[Value.int .u8 (bits BinOp.xor IntKind.u8 0 (x.toNat:Int))],u.oneCell'=true by simp[Value.oneCell']);have hg:=ah (show [Value.int .u8 (bits BinOp.xor IntKind.u8 0 (x.toNat:Int))]=[(bl s).getD k 0^^^x].map aY by rw[cM,dL (show(bl s).length<=k by rw[<-bi]; omega),Option.getD_none];have h1:=GK 0 x;rw[show(((0:UInt8).toNat:Nat):Int)=0 from rfl]at h1;rw[h1]; rfl)
    go_wp2_with (at_builtin; go_loud (refine bO Tryz.appBytes rfl _ _ rfl w.heap.size (.slice a k c) k ((uv (bl s) x k).map aY) rfl wr [Value.int .u8 (bits BinOp.xor IntKind.u8 0 (x.toNat:Int))] _ rfl rfl HZ.o HO.o hd hz ?_); intro v' wc ha hc _ _; obtain⟨ae,ce,rfl,-,-⟩:=aH ha; rw[hg.o,<-aL,<-Ap]at ha; have hf:=ah ha; have he:=ah (bZ HB.o HO.o hc (ai _) hz); clear ha hc)
    go_roundw
    ·exact⟨k+1,_,_,by omega,by go_num,rfl,hf.o,he.o⟩
    simp[intOf]; omega
  ·have hn:k=64:=by omega
   subst hn;go_wp2_with fail;go_ret;refine⟨a,c,rfl, ?_,HB.o⟩;unfold me;rw[Nm];exact HO.o
theorem IK (s:ByteArray) (x:UInt8) (n:Int) (w:World) (hn:n=(x.toNat:Int)) (hs:s.size<=64):Calls Tryz.prog 207 #[.string s, .int .u8 n] w fun e w'=> ∃a c,e= .returned (.slice a 64 c)/\me w' w.heap.size (.slice a 64 c) (gz (iV (bl s)) x)/\Below w.heap.size w w':=by
 subst hn;have hk:uv (bl s) x 64=gz (iV (bl s)) x:=by rw[Nl x (by rw[<-bi]; exact hs)];unfold gz iV;rw[if_neg (by rw[<-bi]; omega)]
 rw[<-hk];exact Nk s x w
theorem NS (S:Nat->Prop) (key:ByteArray) (data:List UInt8) (dv:Value) (w:World) (hk:key.size<=64) (hv:bD S w dv data) (hl:data.length<549755000000):
  Calls Tryz.prog 190 #[.string key,dv] w fun e w'=>e= .returned (.string ⟨(yX (bl key) data).toArray⟩)/\Below w.heap.size w w':=by
 obtain⟨h4,a,cap,rfl,hn,hm,-⟩:=id hv;unfold maxLen at hm;have HV:=ah hv;obtain⟨n,hy⟩:=bI data.length;rw[<-hy]at HV hl hn ⊢;have HN:=ah hy;have h7: ¬(64:Int)<(key.size:Int):=by omega
 obtain⟨kx,hu⟩:=bI (gz (iV (bl key)) 54);obtain⟨ky,hw⟩:=bI (gz (iV (bl key)) 92);have he:kx.length=64:=by rw[hu]; unfold gz; rw[aw,ju]
 have hf:ky.length=64:=by rw[hw]; unfold gz; rw[aw,ju]
 have hA:=ah hu;have hB:=ah hw;have hp:=ah he;have hq:=ah hf;clear hv h4 hy hu hw he hf
 go_enter Tryz.func190,Tryz.ntmps190
 go_wp2_with fail;refine(IK key 54 54 _ rfl hk).mono ?_;rintro e w1 ⟨a1,c1,rfl,hg,hj⟩;rw[<-hA.o]at hg;have hC:=ah (show w1.ownsRow w.heap.size 5 1 (.slice a1 64 c1) 64 (kx.map aY) by unfold me at hg; rw[hp.o]at hg; exact hg);have hM:=ah hj;have hY:=ah (show cD S w1 1 (.slice a n cap) n (data.map aY) by rw[HN.o]; exact cD.below (by have:=HV.o; rw[HN.o]at this; exact this) (by omega) hj)
 have hJ:=hj.size;clear hg hj;have hx:64+n<1099511627775:=by omega
 go_wp2_with (at_builtin; go_loud (refine ew Tryz.appBytes rfl _ _ rfl w.heap.size (.slice a1 64 c1) 64 (kx.map aY) rfl hC.o (.slice a n cap) n (data.map aY) rfl hY.o (fy data) hx hJ ?_); intro v2 w2 hb hH; obtain⟨a2,c2,rfl,-,-⟩:=aH hb; have hV:=ah hb; have hN:=ah (bZ hM.o hC.o hH (ai _) hJ); clear hb hH);have hZ:=ah (show bD (fun _=>True) w2 (.slice a2 (64+n) c2) (kx++data) by
  have h1:=cJ hV.o;have h2:(kx++data).length=64+n:=by rw[ag,hp.o,HN.o]
  show cD _ w2 1 _ (kx++data).length ((kx++data).map aY)
  rw[h2,aL];exact h1.weak fun _ _=>trivial)
 refine(Ez _ _ (kx++data) _ hZ.o (by rw[ag,hp.o,<-HN.o]; omega)).mono ?_;rintro e w3 ⟨rfl,hE⟩;have ho:=ah (aj hN.o hE);clear hE;obtain⟨inn,hd⟩: ∃i:ByteArray,i=⟨(qk (kx++data)).toArray⟩:=⟨_,rfl⟩;have ha:inn.size=32:=by rw[hd,bi,iX,tR]
 rw[<-hd];have hU:=ah hd;clear hd;go_wp2_with fail;refine(IK key 92 92 _ rfl hk).mono ?_;rintro e w4 ⟨a4,c4,rfl,hh,hr⟩;rw[<-hB.o]at hh;have hW:=ah (show w4.ownsRow w3.heap.size 5 1 (.slice a4 64 c4) 64 (ky.map aY) by unfold me at hh; rw[hq.o]at hh; exact hh);have hO:=ah (aj ho.o hr);have h9:=hr.size;clear hh hr;obtain⟨W5,cp,h3,hG,hs,h8⟩:=ug inn w4 (by unfold maxLen; omega)
 have hP:=ah (aj hO.o hs);have hD:=ah (cW hW.o hs);have hT:=ah (show cD (fun k=>k=w4.heap.size) W5 1 (.slice (some ⟨w4.heap.size,0,none⟩) 32 cp) 32 ((bl inn).map aY) by have h1:=hG; unfold bD at h1; rw[<-bi,ha]at h1; exact h1);rw[ha]at h3;have hz:=ah ha;have hL:w3.heap.size<=W5.heap.size:=by omega
 clear hG hs ha;go_wp2_with (at_builtin; go_loud (refine ew Tryz.appBytes rfl _ _ rfl w3.heap.size (.slice a4 64 c4) 64 (ky.map aY) rfl hD.o (.slice (some ⟨w4.heap.size,0,none⟩) 32 cp) 32 ((bl inn).map aY) rfl hT.o (fy (bl inn)) (by decide) hL ?_); intro v6 w6 hc hI; obtain⟨a6,c6,rfl,-,-⟩:=aH hc; have hX:=ah hc; have hR:=ah (bZ (B:=w.heap.size) hP.o hD.o hI ho.o.size (an ho.o.size hL)); clear hc hI)
 have h0:=ah (show bD (fun _=>True) w6 (.slice a6 96 c6) (ky++bl inn) by
  have h1:=cJ hX.o;have h2:(ky++bl inn).length=64+32:=by rw[ag,hq.o,<-bi,hz.o]
  show cD _ w6 1 _ (ky++bl inn).length ((ky++bl inn).map aY)
  rw[h2,aL];exact h1.weak fun _ _=>trivial)
 refine(Ez _ _ (ky++bl inn) _ h0.o (by rw[ag,hq.o,<-bi,hz.o]; decide)).mono ?_;rintro e w7 ⟨rfl,hF⟩;have hS:=ah (aj hR.o hF);clear hF;have HT:=ah (show qk (ky++bl inn)=yX (bl key) data by
  rw[hU.o,iX,hA.o,hB.o]
  rfl)
 go_wp2_with fail;go_ret;exact⟨by rw[<-HT.o]; rfl,hS.o⟩
theorem FH (k:dl) (w:World):Calls Tryz.prog 74 #[kF k] w fun e w'=>e= .returned (.bool (jK k))/\Below w.heap.size w w':=by
 obtain⟨W,hW⟩:=bI (w.alloc (.cells #[.string k.nm, .string k.st, .string k.ck, .string k.ix, .string k.tk] 42));have HB:=ah (show Below w.heap.size w W by rw[hW]; exact eW);have HX:=ah (show W.heap[w.heap.size]? =some (.cells #[.string k.nm, .string k.st, .string k.ck, .string k.ix, .string k.tk] 42 (0,0)) by rw[hW]; exact aG w _);have hv:jK k=(((decide (k.nm.size=32) && decide (k.st.size=32)) && decide (k.ck.size=32)) && decide (k.ix.size=32) && decide (k.tk.size=32)):=by unfold jK dl.list; simp[Bool.and_assoc]
 have HV:=ah hv;clear hv;unfold kF
 go_enter Tryz.func74,Tryz.ntmps74
 go_upto_region 1 with fail
 rw[<-hW];clear hW;obtain⟨c0,c1,c2,c3,c4,_⟩:=aS HX.o;go_wp2_with fail
 all_goals (go_ret; refine⟨bX ?_,HB.o⟩; rw[HV.o,dq]; simp; omega)
theorem JX (k:dl) (b:Bool) (w:World) (h:jK k=b):Calls Tryz.prog 74 #[kF k] w fun e w'=>e= .returned (.bool b)/\Below w.heap.size w w':=by rw[<-h]; exact FH k w
theorem yC (n:Nat) (w:World) (hn:n<18446744073709551616):Calls Tryz.prog 103 #[.int .u64 (n:Int)] w (fun e w'=> ∃v,e= .returned v/\me w' w.heap.size v (bE n)/\Below w.heap.size w w'):=by
 have HO:=ah (dp (e:=5) (size:=1) (base:=w.heap.size) w #[] 0 (ai _) (aU _) (by simp));have HB:=ah ((ak w.heap.size w).alloc (ai _) (.cells #[] 5))
 go_enter Tryz.func103,Tryz.ntmps103
 go_wp2_with fail
 go_loopw [0,3] (fun x o wr=> ∃(f m:Nat) (acc:List UInt8),x= .int .u64 (m:Int)/\m<18446744073709551616/\m<2^(7*f)/\acc++jW f m=bE n/\wr.ownsRow w.heap.size 5 1 o acc.length (acc.map aY)/\acc.length<=20/\Below w.heap.size w wr) (fun x _ _=>(intOf x).toNat)
 ·exact⟨10,n,[],rfl,hn,jg hn (by decide),rfl,HO.o,by simp,HB.o⟩
 ·obtain⟨f,m,acc,rfl,hm,hr,he,hd,hu,hb⟩:=hrel;have HE:=ah he;have hf:=ah hd;have hp:=ah hb;have hq:=ah hr;have hg:=hb.size;obtain⟨ao,co,rfl,h1,h2⟩:=aH hd;clear he hd hb hr HO HB
  by_cases ho:127<m
  ·have hv:Value.int .u8 ((m:Int)%128+128)=aY (UInt8.ofNat (m%128+128)):=by rw[mu (by omega)]; simp
   have HV:=ah hv;obtain⟨f,rfl⟩: ∃g,f=g+1:=⟨f-1,by
    cases f with
    | zero=>have:=hq.o; simp at this; omega
    | succ g=>rfl⟩
   have hj:=ah (show(acc++[UInt8.ofNat (m%128+128)])++jW f (m/128)=bE n by rw[<-HE.o,jW,if_pos ho]; simp);have hk:=ah (show m/128<2^(7*f) by have h3:=hq.o;rw[show 7*(f+1)=7*f+7 by omega,gp]at h3;exact fg (by omega))
   have hs:acc.length<=10:=by have h4:=dD n;rw[<-HE.o,ag,jW,if_pos ho,az]at h4;omega
   clear hv;go_wp2_with (at_builtin; go_must (refine iS Tryz.appBytes rfl _ _ rfl w.heap.size (.slice ao acc.length co) acc.length (acc.map aY) rfl wr [.int .u8 ((m:Int)%128+128)] _ rfl rfl (by rw[HV.o]; exact pp _) hf.o (by omega) hg ?_); intro v' wc hc ha _; have hh:=ah (bZ hp.o hf.o ha (ai _) hg); have hl:=ah (show wc.ownsRow w.heap.size 5 1 v' (acc++[UInt8.ofNat (m%128+128)]).length ((acc++[UInt8.ofNat (m%128+128)]).map aY) by rw[ag,aL,bW,fm,<-HV.o]; exact hc); obtain⟨ae,ce,rfl,-,-⟩:=aH hc; clear hc ha)
   go_roundw
   ·exact⟨f,m/128,acc++[UInt8.ofNat (m%128+128)],by simp,by omega,hk.o,hj.o,hl.o,by simp; omega,hh.o⟩
   simp[intOf]; omega
  ·have hv:Value.int .u8 (m:Int)=aY (UInt8.ofNat m):=by rw[mu (by omega)]
   have HV:=ah hv;have hj:=ah (show acc++[UInt8.ofNat m]=bE n by
    rw[<-HE.o]
    cases f with
    | zero=>rfl
    | succ f=>rw[jW,if_neg ho])
   clear hv;go_wp2_with (at_builtin; go_must (refine iS Tryz.appBytes rfl _ _ rfl w.heap.size (.slice ao acc.length co) acc.length (acc.map aY) rfl wr [.int .u8 (m:Int)] _ rfl rfl (by rw[HV.o]; exact pp _) hf.o (by omega) hg ?_); intro v' wc hc ha _; have hh:=ah (bZ hp.o hf.o ha (ai _) hg); have hl:=ah (show wc.ownsRow w.heap.size 5 1 v' (acc++[UInt8.ofNat m]).length ((acc++[UInt8.ofNat m]).map aY) by rw[ag,aL,bW,fm,<-HV.o]; exact hc); obtain⟨ae,ce,rfl,-,-⟩:=aH hc; clear hc ha)
   go_ret;rw[<-hj.o];exact⟨_,rfl,hl.o,hh.o⟩
def Cj (k:dl) (b:Nat) (v:Value) (data:List UInt8) (w:World):Prop:=w.heap[b]? =some (.cells #[.string k.nm, .string k.st, .string k.ck, .string k.ix, .string k.tk] 42 (0,0))/\bD (fun _=>True) w v data
theorem Cj.below {k:dl} {b:Nat} {v:Value} {data:List UInt8} {w w':World} (h:Cj k b v data w) (hb:Below w.heap.size w w'):Cj k b v data w':=⟨(hb.block _ (am h.1)).trans h.1,cD.below h.2 (by omega) hb⟩
theorem FM (S:Nat->Prop) (k:dl) (g:Nat) (data:List UInt8) (dv:Value) (w:World) (hk:jK k=true) (hg:g<=1099511627776) (hv:bD S w dv data) (hl:data.length<=32768):
  Calls Tryz.prog 178 #[kF k, .int .i64 (g:Int),dv] w fun e w'=>e= .returned (.tuple #[.string (mi k g data), .int .i64 0])/\Below w.heap.size w w':=by
 obtain⟨hI,a,cap,rfl,hn,hm,-⟩:=id hv;unfold maxLen at hm;obtain⟨n,hf⟩:=bI data.length;have HN:=ah hf;have hy:k.nm.size=32:=(uG hk).1;have hD:=ah hy;obtain⟨W,hW⟩:=bI (w.alloc (.cells #[.string k.nm, .string k.st, .string k.ck, .string k.ix, .string k.tk] 42));have HB:=ah (show Below w.heap.size w W by rw[hW]; exact eW);have HX:=ah (show Cj k w.heap.size (.slice a n cap) data W by rw[hW,hf];exact⟨aG w _,(cD.below hv (by omega) (eW)).weak fun _ _=>trivial⟩)
 rw[<-hf]at hl hn ⊢;have HK:=ah hk;have hM: ¬(g:Int)<0:=by omega
 have hN:IntKind.u64.wrap (g:Int)=(g:Int):=by rw[cV]; omega
 have hO: ¬(32768:Int)<(n:Int):=by omega
 clear hv hI hf hk hy;unfold kF
 go_enter Tryz.func178,Tryz.ntmps178
 go_upto_region 1 with fail
 rw[<-hW];clear hW;obtain⟨c0,c1,c2,c3,c4,_⟩:=aS HX.o.1;go_wp2_with fail;refine(JX k true _ HK.o).mono ?_;rintro e w1 ⟨rfl,hh⟩;have hA:=ah (aj HB.o hh);have hG:=ah (HX.o.below hh);clear hh c0 c1 c2 c3 c4
 go_upto_region 5 with fail
 refine fd (Cj k w.heap.size (.slice a n cap) data) (by kernel_rfl) ?_;obtain⟨V,hV⟩:=bI w1.drew;rw[<-hV];have hb:Below w1.heap.size w1 V:=by rw[hV]; exact(ak _ _).drew
 have hp:=ah (aj hA.o hb);have SV:=ah (hG.o.below hb);clear hV hb
 iterate 4 (refine cI rfl SV.o (by rintro w' ⟨hx,_⟩; have x0:=bQ (k:=0) hx; simp only[aC,aB]at x0; go_simp; rfl) ?_; simp only[bN])
 refine dy 5 rfl SV.o (by rintro w' ⟨hx,_⟩; have x0:=bQ (k:=0) hx; simp only[aC,aB]at x0; go_simp; rfl) ?_;simp only[bN];refine cC 4 rfl (fun K hK=> ?_);go_wp2_with fail;refine(yC g _ (by omega)).mono ?_;rintro e w2 ⟨v2,rfl,hd,hc⟩;obtain⟨a2,c2,rfl,-,-⟩:=aH hd;have hL:=ah (aj hp.o hc);have S2:=ah (SV.o.below hc)
 obtain⟨m,he⟩:=bI ((bE g).length);have hr:=ah he;have ho:=dD g;rw[<-he]at ho ⊢;have hs:=ah (show w2.ownsRow V.heap.size 5 1 (.slice a2 m c2) m ((bE g).map aY) by unfold me at hd; rw[<-he]at hd; exact hd);have hF:=ah (show cD (fun _=>True) w2 1 (.slice a n cap) n (data.map aY) by have h1:=S2.o.2; unfold bD at h1; rw[<-HN.o]at h1; exact h1)
 have hz:=hc.size;have hu:=ah hc;clear hd hc he;go_wp2_with fail;refine⟨S2.o, ?_⟩;refine cC 6 rfl (fun K hK=> ?_);have hJ:m+n<1099511627775:=by omega
 go_wp2_with (at_builtin; go_loud (refine ew Tryz.appBytes rfl _ _ rfl V.heap.size (.slice a2 m c2) m ((bE g).map aY) rfl hs.o (.slice a n cap) n (data.map aY) rfl hF.o (fy data) hJ hz ?_); intro v3 w3 ha hw; obtain⟨a3,c3,rfl,-,-⟩:=aH ha; have hE:=ah ha; have hq:=ah (bZ (B:=V.heap.size) ((ak _ _).mono (ai _)) hs.o hw (ai _) hz); clear ha hw)
 have S3:=ah (SV.o.below (hu.o.trans hq.o));have hB:=ah (aj hp.o (hu.o.trans hq.o));have hH:=ah (show bD (fun _=>True) w3 (.slice a3 (m+n) c3) (bE g++data) by
  have h1:=cJ hE.o;have h2:(bE g++data).length=m+n:=by rw[ag,<-hr.o,<-HN.o]
  show cD _ w3 1 _ (bE g++data).length ((bE g++data).map aY)
  rw[h2,aL];exact h1.weak fun _ _=>trivial)
 refine⟨S3.o, ?_⟩;refine cC 7 rfl (fun K hK=> ?_);go_wp2_with fail;refine(NS _ k.nm (bE g++data) _ _ (by rw[hD.o]; decide) hH.o (by rw[ag,<-hr.o,<-HN.o]; omega)).mono ?_;rintro e w4 ⟨rfl,hj⟩;have S4:=ah (S3.o.below hj);have hC:=ah (aj hB.o hj);clear hj;go_wp2_with fail;refine⟨S4.o, ?_⟩
 iterate 2 (refine cI rfl S4.o (by rintro w' ⟨hx,_⟩; have x0:=bQ (k:=0) hx; simp only[aC,aB]at x0; go_simp; rfl) ?_; simp only[bN])
 refine cL (by kernel_rfl) ?_;go_wp2_with fail
 go_ret2
 exact⟨rfl,hC.o⟩
theorem MR {a:Act} {w:World} {b:Nat} {x0 x1 x2 x3 x4 x5 x6 x7 x8 x9 e7:Value} (h:w.heap[b]? =some (.cells #[x0,x1,x2,x3,x4,x5,x6,x7,x8,x9] 28 (0,0)))
  (h6:a.tmps[6]? =some (.pointer (some ⟨b,0,none⟩))) (h7:a.tmps[7]? =some e7):(results Tryz.f28 a.tmps).run Tryz.prog w= .ok (.tuple #[.agg #[x0,x1,x2,x3,x4,x5,x6,x7,x8,x9],e7]) w:=by
 obtain⟨m0,m1,m2,m3,m4,m5,m6,m7,m8,m9,_⟩:=aS h;simp[results,Tryz.results28,go_sem,h6,h7,m0,m1,m2,m3,m4,m5,m6,m7,m8,m9]
theorem pB {a:Act} {w:World} {b:Nat} {a0 a1 a2 a3 a4 a5 a6 a7 a8 a9 x0 x1 x2 x3 x4 x5 x6 x7 x8 x9 e7:Value} {Q:Ending->World->Prop} (h:w.heap[b]? =some (.cells #[a0,a1,a2,a3,a4,a5,a6,a7,a8,a9] 28 (0,0)))
  (h6:a.tmps[6]? =some (.pointer (some ⟨b,0,none⟩))) (h7:a.tmps[7]? =some e7) (hd:a.defers=[])
  (hQ:Q (.returned (.tuple #[.agg #[x0,x1,x2,x3,x4,x5,x6,x7,x8,x9],e7])) ((((((((((w.setCell ⟨b,0,none⟩ x0).setCell ⟨b,1,none⟩ x1).setCell ⟨b,2,none⟩ x2).setCell ⟨b,3,none⟩ x3).setCell ⟨b,4,none⟩ x4).setCell ⟨b,5,none⟩ x5).setCell ⟨b,6,none⟩ x6).setCell ⟨b,7,none⟩ x7).setCell ⟨b,8,none⟩ x8).setCell ⟨b,9,none⟩ x9)):
  bodyPost Tryz.prog Tryz.f28 Q Exit.ret a ((((((((((w.setCell ⟨b,0,none⟩ x0).setCell ⟨b,1,none⟩ x1).setCell ⟨b,2,none⟩ x2).setCell ⟨b,3,none⟩ x3).setCell ⟨b,4,none⟩ x4).setCell ⟨b,5,none⟩ x5).setCell ⟨b,6,none⟩ x6).setCell ⟨b,7,none⟩ x7).setCell ⟨b,8,none⟩ x8).setCell ⟨b,9,none⟩ x9):=cP (MR (Jb h) h6 h7) hd hQ
theorem NO {S:Nat->Prop} {w w':World} {a:Option Addr} {n cap:Nat} {xs:List ByteArray} (h:lP S w (.slice a n cap) xs) (hb:Below w.heap.size w w') {k:Nat} {x:ByteArray} (hx:xs[k]? =some x):
  ∃b o,a=some ⟨b,o,none⟩/\b<w.heap.size/\w'.cell? ⟨b,o+k,none⟩=some (.string x):=by
 obtain⟨_,a',cap',he,_,_,h0⟩:=h
 cases he
 rcases h0 with h0 | ⟨b,o,rfl,_,hc⟩
 ·have:=(aD.1 hx).1;omega
 ·have q:=hc k (.string x) (Iz hx);exact⟨b,o,rfl,bP q,(hb.cell (p:=⟨b,o+k,none⟩) (bP q)).trans q⟩
structure LkI (w2 : World) (ib : Nat) (wr : World) (it : cj) : Prop where
 below:Below ib w2 wr
 box: ∃ca cc,wr.heap[ib]? =some (.cells (fu (.slice ca it.chunks.length cc) it).toArray 28 (0,0))/\dN (fun k=>ib<k) wr (.slice ca it.chunks.length cc) it.chunks
 ok:iC it
theorem LkI.next {w2 wr w':World} {ib:Nat} {it:cj} (h:LkI w2 ib wr it) (hb:Below wr.heap.size wr w'):LkI w2 ib w' it:=by obtain⟨ca,cc,h1,h2⟩:=h.box;have hl:=am h1;exact⟨h.below.trans (hb.mono (by omega)),⟨ca,cc,(hb.block ib hl).trans h1,cN.below h2 (by omega) hb (fun _ _ _ h=>h)⟩,h.ok⟩
theorem Fh {root:cH} (h:eF root):iC (nz root):=⟨by show(0:Nat)<=_; unfold maxLen; omega,by show(0:Nat)<=_; unfold maxLen; omega,h⟩
def Oz (cs:List (ByteArray×List UInt8)) (root:cH) (path:ByteArray) (w:World) (e:Ending) (w':World):Prop:=Below w.heap.size w w'/\match lm cs root path with
 | .error x=>e= .returned (.tuple #[.agg #[.string ⟨#[]⟩, .int .i64 0, .int .i64 0, .int .i64 0, .int .i64 0, .string ⟨#[]⟩, .slice none 0 0, .string ⟨#[]⟩, .int .i64 0, .int .i64 0], .int .i64 x])/\x≠0
 | .ok it=> ∃v,e= .returned (.tuple #[rZ v it, .int .i64 0])/\dN (w.heap.size<= ·) w' v it.chunks/\iC it
theorem sj (S:Nat->Prop) (cv:Value) (cs:List (ByteArray×List UInt8)) (root:cH) (path:ByteArray) (w:World) (hc:gy S w cv cs) (henv:oz w) (hr:eF root):Calls Tryz.prog 28 #[fi root,cv, .string path] w (Oz cs root path w):=by
 obtain⟨W0,hG⟩:=bI ((w.alloc (.cells #[.string root.name, .int .i64 root.gen, .int .i64 root.size] 26)).alloc (.cells #[.string ⟨#[]⟩, .int .i64 0, .int .i64 0, .int .i64 0, .int .i64 0, .string ⟨#[]⟩, .slice none 0 0, .string ⟨#[]⟩, .int .i64 0, .int .i64 0] 28));have hA:=ah (show Below w.heap.size w W0 by rw[hG]; exact(eW).alloc (by simp) _);have Hq:=ah (show W0.heap[w.heap.size]? =some (.cells #[.string root.name, .int .i64 root.gen, .int .i64 root.size] 26 (0,0)) by rw[hG]; exact mY (ep w _) _)
 have Hf:=ah (show W0.heap[w.heap.size+1]? =some (.cells #[.string ⟨#[]⟩, .int .i64 0, .int .i64 0, .int .i64 0, .int .i64 0, .string ⟨#[]⟩, .slice none 0 0, .string ⟨#[]⟩, .int .i64 0, .int .i64 0] 28 (0,0)) by rw[hG]; exact qa w _ _);have HI:=ah (lO.start (hc.below hA.o) (henv.below hA.o));have HR:=ah hr;unfold fi;clear hc henv hr
 go_enter Tryz.func28,Tryz.ntmps28
 go_upto_region 1 with(fail)
 rw[<-hG];clear hG
 cases hp:dH (bl path)with
 | false=>
  have HM:=ah (show lm cs root path= .error 1 by unfold lm; rw[if_neg (by rw[hp]; simp)]);have HP:=ah hp;clear hp;go_wp2_with fail;refine(Ln path W0 HI.o.env HP.o).mono ?_;rintro e w1 ⟨rfl,hd⟩;have hB:=ah (aj hA.o hd);have hu:=ah (er hd Hf.o);obtain⟨z0,z1,z2,z3,z4,z5,z6,z7,z8,z9,_⟩:=aS hu.o;obtain⟨g0,g1,g2,g3,g4,g5,g6,g7,g8,g9,_⟩:=gI hu.o
  clear hd;go_wp2_with fail;refine pB hu.o rfl rfl rfl ⟨js hB.o (by show w.heap.size<=w.heap.size+1; omega), ?_⟩;rw[HM.o];exact⟨rfl,by decide⟩
 | true=>
  have HP:=ah hp
  cases hv:lF root with
  | false=>
   have HM:=ah (show lm cs root path= .error 1 by unfold lm; rw[if_neg (by rw[hv]; simp)]);have Hd:=ah hv;clear hp hv;go_wp2_with fail;refine(Ex path W0 HI.o.env HP.o).mono ?_;rintro e w1 ⟨ap,cp,rfl,-,-,-,hd⟩;have hB:=ah (aj hA.o hd);have Ho:=ah hd;have hN:=ah (er hd Hq.o);have hu:=ah (er hd Hf.o);obtain⟨r0,r1,r2,_⟩:=aS hN.o
   clear hd;go_wp2_with fail;refine(jw root false _ HR.o Hd.o).mono ?_;rintro e w2 ⟨rfl,hl⟩;have hM:=ah (aj hB.o hl);have hn:=ah (er hl hu.o);obtain⟨z0,z1,z2,z3,z4,z5,z6,z7,z8,z9,_⟩:=aS hn.o;obtain⟨g0,g1,g2,g3,g4,g5,g6,g7,g8,g9,_⟩:=gI hn.o;clear hl r0 r1 r2;go_wp2_with fail;refine pB hn.o rfl rfl rfl ⟨js hM.o (by show w.heap.size<=w.heap.size+1; omega), ?_⟩
   rw[HM.o];exact⟨rfl,by decide⟩
  | true=>
   have HM:=ah (show lm cs root path=pA cs (jR (bl path)) (nz root) by unfold lm; rw[if_pos ⟨hp,hv⟩]);have Hd:=ah hv;clear hp hv;go_wp2_with fail;refine(Ex path W0 HI.o.env HP.o).mono ?_;rintro e w1 ⟨ap,cp,rfl,Hw,HO,hU,hd⟩;obtain⟨ps,Hj⟩:=bI (jR (bl path));rw[<-Hj]at hU Hw ⊢;have HG:=ah Hj;obtain⟨np,hh⟩:=bI ps.length;rw[<-hh]at hU Hw ⊢
   have h8:=ah hh;have HH:=ah hU;unfold maxLen at HO;have hB:=ah (aj hA.o hd);have Ho:=ah hd;have hN:=ah (er hd Hq.o);have hu:=ah (er hd Hf.o);obtain⟨r0,r1,r2,_⟩:=aS hN.o;clear hd;clear Hj hh hU;go_wp2_with fail;refine(jw root true _ HR.o Hd.o).mono ?_;rintro e w2 ⟨rfl,hl⟩;have hM:=ah (aj hB.o hl);have hn:=ah (er hl hu.o)
   have Hy:=er hl hN.o;clear r0 r1 r2;obtain⟨r0,r1,r2,_⟩:=aS Hy;clear Hy;go_wp2_with fail;obtain⟨W3,hP⟩:=bI (w2.alloc (.cells #[.string ⟨#[]⟩, .int .i64 2, .int .i64 0, .int .i64 0, .int .i64 0, .string ⟨#[]⟩, .slice none 0 0, .string root.name, .int .i64 root.gen, .int .i64 root.size] 28));rw[<-hP];have h2:=ah (show LkI w2 w2.heap.size W3 (nz root)from⟨by rw[hP]; exact eW,⟨none,0,by rw[hP]; exact ep w2 _,cN.nil⟩,Fh HR.o⟩)
   obtain⟨ib,Hh⟩:=bI w2.heap.size;rw[<-Hh]at h2 ⊢;have hs:=ah Hh;have Ha:=ah (cD.below HH.o (by omega) hl);have He:=ah (aj Ho.o hl);clear hP r0 r1 r2 hl Hh
   go_loopw [33] (fun i wr=> ∃(k:Nat) (it:cj),k<=np/\i= .int .i64 (k:Int)/\pA cs (ps.drop k) it=lm cs root path/\LkI w2 ib wr it) (fun i _=>np-(intOf i).toNat)
   ·exact⟨0,nz root,aU _,rfl,by rw[HM.o,<-HG.o]; rfl,h2.o⟩
   ·obtain⟨k,it,hk,rfl,Hu,Hi⟩:=hrel;have h3:=ah Hu;have ho:=ah Hi;obtain⟨ca,cc,Hs,Hx⟩:=Hi.box;have he:=ah Hs;have HJ:=ah Hx;clear Hu Hi Hs Hx h2;have hO:=ah ((ho.o.below.block (w.heap.size+1) (by rw[hs.o]; exact am hn.o)).trans hn.o);have Hp:=ah (hM.o.trans (ho.o.below.mono (by rw[hs.o]; exact hM.o.size)));have HT:w.heap.size+1≠ib:=by have:=am hn.o; have:=hs.o; omega
    by_cases Hv:k<np
    ·obtain⟨c,hc⟩: ∃c,ps[k]? =some c:=⟨ps[k]'(by rw[<-h8.o]; exact Hv),by simp⟩;obtain⟨pb,po,rfl,HU,hH⟩:=NO Ha.o (by have:=ho.o.below; rw[hs.o]at this; exact this) hc;have Hm:=ah (show ps.drop k=c::ps.drop (k+1) by
      rw[cA (by rw[<-h8.o]; exact Hv)]
      congr 1
      exact(aD.1 hc).2)
     obtain⟨W4,hR⟩:=bI (wr.alloc (.cells #[.string c] 9));have hy:Below wr.heap.size wr W4:=by rw[hR]; exact eW
     have Hl:=ah (show W4.cell? ⟨wr.heap.size,0,none⟩=some (.string c) by rw[hR]; exact(ar (ep wr _)).trans rfl);have hZ:=ah (ho.o.next hy);have ha:=ah (er hy he.o);have hE:=ah (er hy hO.o);have hV:=ah (aj Hp.o hy);have Hn:=ah (HI.o.keepL (He.o.trans ((ho.o.below.mono (by rw[hs.o]; exact He.o.size)).trans (hy.mono (an He.o.size (by have:=ho.o.below.size; exact this))))) (ai _))
     clear hc hy
     go_upto_region 8 with(fail)
     rw[<-hR];clear hR hH;have i0:=ar (k:=0) ha.o;have i1:=ar (k:=1) ha.o;have i2:=ar (k:=2) ha.o;have i3:=ar (k:=3) ha.o;have i4:=ar (k:=4) ha.o;have i5:=ar (k:=5) ha.o;have i6:=ar (k:=6) ha.o;have i7:=ar (k:=7) ha.o;have i8:=ar (k:=8) ha.o;have i9:=ar (k:=9) ha.o;simp only[fu,gd]at i0 i1 i2 i3 i4 i5 i6 i7 i8 i9
     by_cases hq:it.kind=2
     ·have e1:(it.kind != 2)=false:=by simp[hq]
      have hC:=ah (show(match iz cs it.node with | .error x=> .error x | .ok l=>match l.find? (fun y=>decide (y.name=c))with | none=> .error 4 | some y=>pA cs (ps.drop (k+1)) y)=lm cs root path by have:=h3.o; rw[Hm.o,pA,if_pos hq]at this; exact this);have hw:=tI _ cv cs it.node W4 Hn.o.cont ho.o.ok.nd Hn.o.env;unfold Bg at hw;clear hq
      cases hh:iz cs it.node with
      | error x=>
       rw[hh]at hw;have h7:=ah hw;have HE:=ah (show lm cs root path= .error x by have:=hC.o; rw[hh]at this; exact this.symm);clear hh hw;go_wp2_with fail;refine h7.o.mono ?_;rintro e w5 ⟨hm,rfl,hx⟩;have hW:=ah (aj hV.o hm);have hF:=ah (er hm hE.o);have e2:(x != 0)=true:=by simp[hx]
       have HX:=ah hx;clear hx hm i0 i1 i2 i3 i4 i5 i6 i7 i8 i9;obtain⟨z0,z1,z2,z3,z4,z5,z6,z7,z8,z9,_⟩:=aS hF.o;obtain⟨g0,g1,g2,g3,g4,g5,g6,g7,g8,g9,_⟩:=gI hF.o;go_wp2_with fail;refine pB hF.o rfl rfl rfl ⟨js hW.o (by show w.heap.size<=w.heap.size+1; omega), ?_⟩;rw[HE.o];exact⟨rfl,HX.o⟩
      | ok l=>
       rw[hh]at hw;have h7:=ah hw;have hD:=ah (show(match l.find? (fun y=>decide (y.name=c))with | none=> .error 4 | some y=>pA cs (ps.drop (k+1)) y)=lm cs root path by have:=hC.o; rw[hh]at this; exact this);have HC:=ah (sL hh);clear hh hw;go_wp2_with fail;refine h7.o.mono ?_;rintro e w5 ⟨hm,v5,rfl,Hk⟩;have hW:=ah (aj hV.o hm)
       have hF:=ah (er hm hE.o);have h0:=ah (hZ.o.next hm);have hY:=ah (er hm ha.o);have HA:=ah ((hm.cell (p:=⟨wr.heap.size,0,none⟩) (bP Hl.o)).trans Hl.o);obtain⟨a5,cap5,rfl,HL,HN,-⟩:=cN.shape Hk lG.len;unfold maxLen at HN;have Hc:=ah Hk;have Hr:=ah (show ib<W4.heap.size from am ha.o);obtain⟨nl,hT⟩:=bI l.length
       rw[<-hT]at Hc HL ⊢;have HF:=ah hT;have HS:nl<=4096:=by rw[hT]; exact HC.o.1
       clear hm Hk hT i0 i1 i2 i3 i4 i5 i6 i7 i8 i9;go_wp2_with fail;refine(yG _ l c wr.heap.size (.slice a5 nl cap5) w5 Hc.o HA.o).mono ?_;rintro e w6 ⟨rfl,hz⟩;have Hz:=ah (aj hW.o hz);have Hg:=ah (er hz hF.o);have h1:=ah (h0.o.next hz);have hb:=ah (er hz hY.o);have hX:=ah hz;clear hz
       rcases zQ c l 0 with⟨hf,hI⟩ | ⟨j,y,hj,hf,hI⟩
       ·have h4:=ah (show lm cs root path= .error 4 by have:=hD.o; rw[hf]at this; exact this.symm);rw[hI];clear hf hI;obtain⟨z0,z1,z2,z3,z4,z5,z6,z7,z8,z9,_⟩:=aS Hg.o;obtain⟨g0,g1,g2,g3,g4,g5,g6,g7,g8,g9,_⟩:=gI Hg.o;go_wp2_with fail;refine pB Hg.o rfl rfl rfl ⟨js Hz.o (by show w.heap.size<=w.heap.size+1; omega), ?_⟩;rw[h4.o]
        exact⟨rfl,by decide⟩
       ·have h4:=ah (show pA cs (ps.drop (k+1)) y=lm cs root path by have:=hD.o; rw[hf]at this; exact this);rw[hI,bT];obtain⟨b7,o7,ca7,cc7,rfl,hJ,hL,HK,-,hg⟩:=mT Hc.o hX.o hj;have HQ:j<nl:=by rw[HF.o]; exact(aD.1 hj).1
        have h9:=ah hJ;have Hb:=ah hL;have q0:=hg 0 (by omega);have q1:=hg 1 (by omega);have q2:=hg 2 (by omega);have q3:=hg 3 (by omega);have q4:=hg 4 (by omega);have q5:=hg 5 (by omega);have q6:=hg 6 (by omega);have q7:=hg 7 (by omega);have q8:=hg 8 (by omega);have q9:=hg 9 (by omega);simp only[fu,aB,cQ,cZ]at q0 q1 q2 q3 q4 q5 q6 q7 q8 q9
        have i0:=ar (k:=0) hb.o;have i1:=ar (k:=1) hb.o;have i2:=ar (k:=2) hb.o;have i3:=ar (k:=3) hb.o;have i4:=ar (k:=4) hb.o;have i5:=ar (k:=5) hb.o;have i6:=ar (k:=6) hb.o;have i7:=ar (k:=7) hb.o;have i8:=ar (k:=8) hb.o;have i9:=ar (k:=9) hb.o;simp only[fu,gd]at i0 i1 i2 i3 i4 i5 i6 i7 i8 i9
        obtain⟨g0,g1,g2,g3,g4,g5,g6,g7,g8,g9,_⟩:=gI hb.o;clear hf hI hj hJ hL hg;go_wp2_with fail
        go_roundw
        ·refine⟨k+1,y,by omega,by go_num,h4.o,⟨js h1.o.below (ai _),⟨ca7,cc7,Jb hb.o,dN.same Hb.o (fun i hi hS=>⟨aO Hr.o hS,pU (by have:=Hr.o; omega)⟩)⟩,h9.o⟩⟩
        simp[intOf]; omega
     ·have e1:(it.kind != 2)=true:=by simp[hq]
      have HD:=ah (show lm cs root path= .error 4 by have:=h3.o; rw[Hm.o,pA,if_neg hq]at this; exact this.symm);clear hq;obtain⟨z0,z1,z2,z3,z4,z5,z6,z7,z8,z9,_⟩:=aS hE.o;obtain⟨g0,g1,g2,g3,g4,g5,g6,g7,g8,g9,_⟩:=gI hE.o;go_wp2_with fail;refine pB hE.o rfl rfl rfl ⟨js hV.o (by show w.heap.size<=w.heap.size+1; omega), ?_⟩;rw[HD.o]
      exact⟨rfl,by decide⟩
    ·have hq:k=np:=by omega
     subst hq;have Ht:lm cs root path= .ok it:=by have:=h3.o; rw[h8.o,jd]at this; rw[<-this]; rfl
     have HB:=ah Ht;obtain⟨z0,z1,z2,z3,z4,z5,z6,z7,z8,z9,_⟩:=aS hO.o;obtain⟨g0,g1,g2,g3,g4,g5,g6,g7,g8,g9,_⟩:=gI hO.o;have i0:=ar (k:=0) he.o;have i1:=ar (k:=1) he.o;have i2:=ar (k:=2) he.o;have i3:=ar (k:=3) he.o;have i4:=ar (k:=4) he.o;have i5:=ar (k:=5) he.o;have i6:=ar (k:=6) he.o;have i7:=ar (k:=7) he.o
     have i8:=ar (k:=8) he.o;have i9:=ar (k:=9) he.o;simp only[fu,gd]at i0 i1 i2 i3 i4 i5 i6 i7 i8 i9;clear Ht;go_wp2_with fail;refine pB hO.o rfl rfl rfl ⟨js Hp.o (by show w.heap.size<=w.heap.size+1; omega), ?_⟩;rw[HB.o];refine⟨_,rfl,dN.same HJ.o (fun k hk hS=>⟨by have:=am hn.o; have:=hs.o; omega,pU (by have:=am hn.o; have:=hs.o; omega)⟩),ho.o.ok⟩
theorem Mt (s:ByteArray) (w:World) (hs:s.size<=16777216):Calls Tryz.prog 87 #[.string s] w fun e w'=> ∃a cap,e= .returned (.slice a (jR (bl s)).length cap)/\(jR (bl s)).length<=cap/\cap<=maxLen/\lP (w.heap.size<= ·) w' (.slice a (jR (bl s)).length cap) (jR (bl s))/\Below w.heap.size w w':=by refine(nD s w hs).mono ?_;rintro e w' ⟨v,xs,rfl,hx,hv,hb⟩;have:xs=jR (bl s):=sw (hx.trans (Ar _).symm);subst this;obtain⟨a,cap,rfl,h1,h2,_⟩:=hv.shape;exact⟨a,cap,rfl,h1,h2,hv,hb⟩
end
section
open Go.RowKit
def EN (d p:List UInt8):Prop:=d=[]\/ ∃r,p=d++47::r
theorem EN.trans {d p q:List UInt8} (h:EN d p) (h2:EN p q) (hp:p≠[]):EN d q:=by
 rcases h with h | ⟨r,rfl⟩
 ·exact .inl h
 ·rcases h2 with h2 | ⟨s,rfl⟩
  ·exact absurd h2 hp
  ·exact .inr ⟨r++47::s,by simp⟩
theorem wv (p:List UInt8):EN (cr p) p:=by
 by_cases h:cr p=[]
 ·exact .inl h
 ·exact .inr (qV h)
theorem Md {d p:List UInt8} (h:EN d p) (hd:d≠[]):cr p=d\/EN d (cr p):=by
 rcases h with h | ⟨r,h⟩
 ·exact absurd h hd
 ·rcases tg h with h1 | h1
  ·exact .inl h1
  ·exact .inr (.inr h1)
def dB (tree:List dd) (d:ByteArray):List dd:=tree.filter fun e=>decide (cr (bl e.path)=bl d)
theorem eK {tree:List dd} {d:ByteArray} {e:dd} :e∈dB tree d<->e∈tree/\cr (bl e.path)=bl d:=by unfold dB; rw[dV,aJ]
def mC (tree:List dd):Nat->ByteArray->List dd
 | 0,_=>[]
 | f+1,d=>(dB tree d).flatMap fun e=>e::(if e.kind=2 then mC tree f e.path else [])
section
variable {tree : List dd} (h : Bi tree)
include h
theorem rE {e:dd} (he:e∈tree):bl e.path≠[]:=tY (dj (h.val e he))
theorem MP (d:ByteArray): ∀(n:Nat) {e:dd},(bl e.path).length<=n->e∈tree->EN (bl d) (bl e.path)-> ∃c∈dB tree d,c=e\/(c.kind=2/\EN (bl c.path) (bl e.path))
 | 0,e,hn,he,_=>absurd (List.length_eq_zero_iff.1 (Nat.le_zero.1 hn)) (rE h he)
 | n+1,e,hn,he,hb=>by
  by_cases hp:cr (bl e.path)=bl d
  ·exact⟨e,eK.2 ⟨he,hp⟩, .inl rfl⟩
  ·have hne:cr (bl e.path)≠[]:=by
    intro h0
    by_cases hd:bl d=[]
    ·exact hp (by rw[h0,hd])
    ·rcases Md hb hd with h1 | h1
     ·exact hp h1
     ·rw[h0]at h1
      rcases h1 with h1 | ⟨r,h1⟩
      ·exact hd h1
      ·simp at h1
   obtain⟨g,hg,ha,hj⟩:=ui (h.up e he) hne;have hh:EN (bl d) (bl g.path):=by
    rw[ha]
    by_cases hd:bl d=[]
    ·exact .inl hd
    ·exact(Md hb hd).resolve_left hp
   have hk:=fF (dj (h.val e he));have hf:EN (bl g.path) (bl e.path):=by rw[ha]; exact wv _
   obtain⟨c,hc,h1⟩:=MP d n (e:=g) (by rw[ha]; omega) hg hh;refine⟨c,hc, .inr ?_⟩
   rcases h1 with rfl | ⟨h1,h2⟩
   ·exact⟨hj,hf⟩
   ·exact⟨h1,h2.trans hf (rE h hg)⟩
theorem Mc {e x:dd} (he:e∈tree) (hb:EN (bl e.path) (bl x.path)):nV e x<0:=by
 rcases hb with hb | ⟨r,hb⟩
 ·exact absurd hb (rE h he)
 ·have h1:nV e x<=0:=by unfold nV; rw[hb]; exact Bo _ _
  rcases Int.lt_or_eq_of_le h1 with h2 | h2
  ·exact h2
  ·have h3:=pn.1 h2;rw[h3]at hb;have:=congrArg List.length hb;simp at this
theorem Ds {d:ByteArray} {e g x:dd} (he:e∈dB tree d) (hg:g∈dB tree d) (hlt:nV e g<0) (hb:EN (bl e.path) (bl x.path)):nV x g<0:=by
 obtain⟨ha,hc⟩:=eK.1 he;obtain⟨hf,hd⟩:=eK.1 hg
 rcases hb with hb | ⟨r,hb⟩
 ·exact absurd hb (rE h ha)
 ·rcases QE (bl x.path) (bl g.path)with h1 | h1 | h1
  ·show ft _ _<0; omega
  all_goals
   exfalso
   have h2:ft (bl g.path) (bl e.path++47::r)<=0:=by rw[<-hb,Bp]; omega
   rcases uU _ _ _ (show ft (bl e.path) (bl g.path)<=0 from Int.le_of_lt hlt) h2 with h3 | ⟨s,h3⟩
   ·have h4:=pn.2 (kr h3);have h5:=wG e g;omega
   ·have h6:(cr (bl e.path)).length<(bl e.path).length:=fF (dj (h.val e ha))
    rcases tg h3 with h4 | ⟨s',h4⟩
    ·rw[hd,<-hc]at h4;have:=congrArg List.length h4;omega
    ·rw[hd,<-hc]at h4;have:=congrArg List.length h4;simp at this;omega
theorem vU : ∀(f:Nat) (d:ByteArray),512<f+(bl d).length-> ∀e,e∈mC tree f d<->e∈tree/\EN (bl d) (bl e.path)
 | 0,d,hf,e=>by
  constructor
  ·intro he; simp[mC]at he
  ·rintro⟨he,hb⟩
   exfalso
   have h1:=mH (dj (h.val e he))
   rcases hb with hb | ⟨r,hb⟩
   ·rw[hb]at hf; simp at hf
   ·rw[hb]at h1;simp at h1;omega
 | f+1,d,hf,e=>by
  unfold mC;rw[cO]
  constructor
  ·rintro⟨c,hc,he⟩;obtain⟨hc1,hc2⟩:=eK.1 hc;have hcb:EN (bl d) (bl c.path):=by rw[<-hc2]; exact wv _
   rcases aT.1 he with rfl | he
   ·exact⟨hc1,hcb⟩
   ·split at he
    ·have ha:=fF (dj (h.val c hc1));rw[hc2]at ha;obtain⟨h1,h2⟩:=(vU f c.path (by omega) e).1 he;exact⟨h1,hcb.trans h2 (rE h hc1)⟩
    ·cases he
  ·rintro⟨he,hb⟩;obtain⟨c,hc,h1⟩:=MP h d _ (ai _) he hb;refine⟨c,hc, ?_⟩
   rcases h1 with rfl | ⟨h1,h2⟩
   ·exact List.mem_cons_self
   ·obtain⟨hc1,hc2⟩:=eK.1 hc;have ha:=fF (dj (h.val c hc1));rw[hc2]at ha;rw[if_pos h1];exact eB _ ((vU f c.path (by omega) e).2 ⟨he,h2⟩)
theorem xL : ∀(f:Nat) (d:ByteArray),512<f+(bl d).length->jk (mC tree f d)
 | 0,_,_=>fp
 | f+1,d,hf=>by
  unfold mC jk;have hin: ∀c∈dB tree d,512<f+(bl c.path).length:=fun c hc=>by obtain⟨hc1,hc2⟩:=eK.1 hc;have hlt:=fF (dj (h.val c hc1));rw[hc2]at hlt;omega
  have hbl: ∀c∈dB tree d,∀x∈(if c.kind=2 then mC tree f c.path else []),EN (bl c.path) (bl x.path):=fun c hc x hx=>by
   split at hx
   ·exact((vU h f c.path (hin c hc) x).1 hx).2
   ·cases hx
  rw[List.pairwise_flatMap]
  constructor
  ·intro c hc;rw[fc];refine⟨fun x hx=>Mc h (eK.1 hc).1 (hbl c hc x hx), ?_⟩
   split
   ·exact xL f c.path (hin c hc)
   ·exact fp
  ·have hk:jk (dB tree d):=h.ord.filter _;refine List.Pairwise.imp_of_mem (R:=fun a b=>nV a b<0) ?_ hk;intro a b ha hb hab x hx y hy;have h1:nV x b<0:=by
    rcases aT.1 hx with rfl | hx
    ·exact hab
    ·exact Ds h ha hb hab (hbl a ha x hx)
   rcases aT.1 hy with rfl | hy
   ·exact h1
   ·exact rX h1 (Mc h (eK.1 hb).1 (hbl b hb y hy))
theorem tS {L:List dd} (hs:jk L):L.Nodup:=by
 have _h:=h;exact List.Pairwise.imp (fun {a b} hab=>by
  intro e; subst e;have h1:=pn (a:=a) (b:=a);have:=h1.2 rfl
  omega) hs
theorem BM {f:Nat} (hf:512<f):mC tree f ⟨#[]⟩=tree:=by have h0:bl (⟨#[]⟩:ByteArray)=[]:=rfl;have hs:=xL h f ⟨#[]⟩ (by omega);refine rj hs h.ord ?_;rw[List.perm_ext_iff_of_nodup (tS h hs) (tS h h.ord)];intro e;rw[vU h f ⟨#[]⟩ (by omega) e];exact⟨fun h1=>h1.1,fun h1=>⟨h1, .inl h0⟩⟩
end
def vh (dir path:List UInt8):List UInt8:=if(path.drop dir.length).head? =some 47 then(path.drop dir.length).tail else path.drop dir.length
theorem CC : ∀ {a b:List UInt8},47∉a->47∉b->ft a b<0->Op.bytesLess a b=true
 | [],[],_,_,h=>by simp[ft]at h
 | [],_::_,_,_,_=>rfl
 | _::_,[],_,_,h=>by simp[ft]at h
 | x::a,y::b,ha,hb,h=>by
  unfold ft at h;unfold Op.bytesLess;simp only[aT,not_or]at ha hb
  by_cases hxy:x=y
  ·rw[if_pos hxy]at h;rw[CC ha.2 hb.2 h,hxy];simp
  ·rw[if_neg hxy]at h;unfold iA at h;rw[if_neg (fun e=>ha.1 e.symm),if_neg (fun e=>hb.1 e.symm)]at h;have h1:x<y:=by
    rw[UInt8.lt_iff_toNat_lt];unfold Lib.compareInt at h
    split at h
    ·omega
    ·split at h<;> omega
   simp[h1]
theorem CD : ∀(d a b:List UInt8),ft (d++a) (d++b)=ft a b
 | [],_,_=>rfl
 | x::d,a,b=>by rw[aK,aK,ft,if_pos rfl,CD d a b]
theorem ON {t:List UInt8} (h:iO t=true):dH t=true:=by
 have ha:47∉t:=(CG h).2.2.2;unfold dH;rw[fP 47 t ha];have hl:t.length<=64:=by unfold iO at h;simp only[aF,aJ]at h;exact h.1.1.1.1.2
 simp[h];omega
structure rx (d p t : List UInt8) : Prop where
 comp:iO t=true
 path:p=if d=[]then t else d++47::t
 last:vh d p=t
theorem pX {d p:List UInt8} (hv:dH p=true) (hp:cr p=d):rx d p (vh d p):=by
 by_cases hm:(47:UInt8)∈p
 ·obtain⟨q,t,rfl,ht⟩:=ob p hm;rw[lJ q t ht]at hp;subst hp;have hl:vh q (q++47::t)=t:=by unfold vh; simp
  have hc:iO t=true:=ro hv t (by rw[ou,fP 47 t ht]; simp);have hq:q≠[]:=by intro h0;subst h0;have:=ro hv [] (by rw[ou]; simp[dg]);exact absurd this (by decide)
  exact⟨by rw[hl]; exact hc,by rw[hl,if_neg hq],rfl⟩
 ·rw[oh p hm]at hp;subst hp;have ha:=tY hv;have hc:iO p=true:=ro hv p (by rw[fP 47 p hm]; simp);have hl:vh [] p=p:=by
   unfold vh
   cases p with
   | nil=>exact absurd rfl ha
   | cons x p=>
    simp only[bo,bR,List.head?_cons,List.tail_cons];rw[if_neg];intro h;rw[aX]at h;subst h;exact hm (List.mem_cons_self)
  exact⟨by rw[hl]; exact hc,by rw[hl,if_pos rfl],rfl⟩
theorem rx.no {d p t:List UInt8} (h:rx d p t):47∉t:=(CG h.comp).2.2.2
theorem MN {d p q s t:List UInt8} (h:rx d p s) (h2:rx d q t) (hlt:ft p q<0):Op.bytesLess s t=true:=by
 refine CC h.no h2.no ?_;rw[h.path,h2.path]at hlt
 split at hlt
 ·exact hlt
 ·rw[CD]at hlt;unfold ft at hlt;rw[if_pos rfl]at hlt;exact hlt
def kC (gs:List (ByteArray×Int)):Prop:= ∀p∈gs,0<=p.2/\p.2<=1099511627776
theorem BA {gs:List (ByteArray×Int)} (h:kC gs) (n:ByteArray):0<=mQ gs n/\mQ gs n<=1099511627776:=by
 unfold mQ
 cases hf:gs.find? fun p=>decide (p.1=n)with
 | none=>simp
 | some p=>exact h p (dR hf)
theorem MQ (tree:List dd) (d:ByteArray):gW tree d=dB tree d:=rfl
theorem tr (c:fC) (data:List UInt8):(fO c data).flatten=data:=xK
theorem qF {c:fC} (hc:jU c=true) (x:List UInt8): ∀y∈fO c x,1<=y.length/\y.length<=32768:=by have hv:=lW.1 hc;intro y hy;have:=As (mx:=c.mx.toNat) (by omega) (pq) y hy;omega
theorem AM : ∀(l:List cH) (a:Int),0<=a->(∀r∈l,0<=r.size)->a+(l.map cH.size).sum<=9223372036854775807->l.foldl (fun a r=>wrap64 (a+r.size)) a=a+(l.map cH.size).sum
 | [],a,_,_,_=>by simp
 | r::l,a,h0,hs,hl=>by
  have h1:=hs r (by simp);have h2:0<=(l.map cH.size).sum:=by
   have: ∀(l:List cH),(∀r∈l,0<=r.size)->0<=(l.map cH.size).sum:=by
    intro l
    induction l with
    | nil=>simp
    | cons x l ih=>
     intro h;have h1:=h x (by simp);have h2:=ih fun r hr=>h r (by simp[hr])
     rw[bW,List.sum_cons]; omega
   exact this l fun x hx=>hs x (by simp[hx])
  rw[bW,List.sum_cons]at hl;rw[ez,bW,List.sum_cons,show wrap64 (a+r.size)=a+r.size by unfold wrap64; omega,AM l _ (by omega) (fun x hx=>hs x (by simp[hx])) (by omega)];omega
section
variable {k : dl} {gs : List (ByteArray × Int)} {c : fC}
theorem Ay : ∀(l:List (List UInt8)),((l.map (aV k gs)).map cH.size).sum=((l.flatten.length:Nat):Int)
 | []=>by simp
 | x::l=>by
  rw[bW,bW,List.sum_cons,Ay l,iI,ag]
  show(x.length:Int)+_=_
  omega
theorem JI {data:List UInt8} (hl:data.length<=1048576):ni ((fO c data).map (aV k gs))=(data.length:Int):=by
 have h1:=Ay (k:=k) (gs:=gs) (fO c data);rw[tr]at h1;unfold ni;rw[AM _ _ (by omega) (fun r hr=>by
  obtain⟨x,_,rfl⟩:=aP.1 hr
  show(0:Int)<=(x.length:Int)
  omega) (by rw[h1]; omega),h1]
 omega
theorem lE (hg:kC gs) {x:List UInt8} (hx:x.length<=32768):lF (aV k gs x)=true:=by have h1:=BA hg (mi k 0 x);have h2:(aV k gs x).name.size=32:=lD _ _ _;have h3:(aV k gs x).gen=mQ gs (mi k 0 x):=rfl;have h4:(aV k gs x).size=(x.length:Int):=rfl;unfold lF;rw[h2,h3,h4];simp only[aF,aJ];exact⟨⟨⟨⟨trivial,h1.1⟩,h1.2⟩,by omega⟩,by omega⟩
theorem qJ {e:dd} (h:ig e=true):(e.kind=1/\e.data.length<=1048576/\e.link.size=0)\/(e.kind=2/\e.data=[]/\e.link.size=0)\/(e.kind=3/\e.data=[]/\1<=e.link.size/\e.link.size<=512/\(bl e.link).contains 0=false):=by
 unfold ig lr at h;rw[aF]at h;have h2:=h.2
 split at h2
 ·simp only[aF,aJ]at h2;exact .inl ⟨by assumption,h2⟩
 ·split at h2
  ·simp only[aF,aJ]at h2;exact .inr (.inl ⟨by assumption,bq h2.1,h2.2⟩)
  ·split at h2
   ·simp only[aF,aJ,pg,gP]at h2;refine .inr (.inr ⟨by assumption,bq h2.1, ?_, ?_,h2.2.2⟩)
    ·rw[bi]; exact h2.2.1.1
    ·rw[bi]; exact h2.2.1.2
   ·cases h2
theorem Dk (hc:jU c=true) (hg:kC gs) {d:ByteArray} {e:dd} {nd:cH} (hv:ig e=true) (hp:cr (bl e.path)=bl d) (hn:e.kind=2->lF nd=true):iG (cE k gs c d e nd)=true:=by
 have hk:=pX (dj hv) hp;have ha:bl (cE k gs c d e nd).name=vh (bl d) (bl e.path):=by
  show bl ⟨(mh (bl d) (bl e.path)).toArray⟩=_
  rw[iX]; rfl
 have hh:tW (cE k gs c d e nd)=true:=by
  have h1:pf e=true:=by unfold ig at hv; simp only[aF]at hv; exact hv.1.2
  unfold pf at h1;unfold tW;rw[ha,ON hk.comp];simp only[aF,aJ,gP]at h1 ⊢;refine⟨⟨trivial, ?_⟩,⟨h1.1.1,h1.1.2⟩,h1.2⟩;have h2:=hk.no
  simpa using h2
 unfold iG;rw[hh,gU]
 rcases qJ hv with⟨h1,h2,h3⟩ | ⟨h1,h2,h3⟩ | ⟨h1,h2,h3,h4,h5⟩
 ·have e1:cE k gs c d e nd=⟨⟨(mh (bl d) (bl e.path)).toArray⟩,1,e.mode,e.time,(e.data.length:Int),e.link,(fO c e.data).map (aV k gs),eq⟩:=by unfold cE; rw[h1]; simp
  rw[e1];unfold kX lz;rw[if_pos rfl];simp only[aF,aJ,cu];refine⟨⟨h3,trivial⟩,fun r hr=> ?_, ?_,by omega⟩
  ·obtain⟨x,hx,rfl⟩:=aP.1 hr;have h4:=qF hc e.data x hx;unfold rm;rw[lE hg h4.2]
   show(true && decide ((1:Int)<=(x.length:Int)))=true
   simp;omega
  ·exact(JI h2).symm
 ·have e1:cE k gs c d e nd=⟨⟨(mh (bl d) (bl e.path)).toArray⟩,2,e.mode,e.time,0,e.link,[],nd⟩:=by unfold cE; rw[h1]; simp
  rw[e1];unfold kX;rw[if_neg (show ¬((2:Int)=1) by decide),if_pos rfl];simp[h3,hn h1]
 ·have e1:cE k gs c d e nd=⟨⟨(mh (bl d) (bl e.path)).toArray⟩,3,e.mode,e.time,0,e.link,[],eq⟩:=by unfold cE; rw[h1]; simp
  rw[e1];unfold kX;rw[if_neg (show ¬((3:Int)=1) by decide),if_neg (show ¬((3:Int)=2) by decide),if_pos rfl];have h6:(0:UInt8)∉bl e.link:=by simpa using h5
  simp[h3,h4,h6]
theorem DN : ∀(l:List cj) (p:Option ByteArray),(∀it∈l,iG it=true)->l.Pairwise (fun a b=>Pd a.name b.name=true)->(∀q,p=some q-> ∀it∈l,Pd q it.name=true)->ke p l=true
 | [],_,_,_,_=>rfl
 | it::l,p,hv,hs,hp=>by
  rw[fc]at hs;unfold ke;rw[hv it (by simp),DN l (some it.name) (fun x hx=>hv x (by simp[hx])) hs.2 (fun q hq x hx=>by simp only[aX]at hq;subst hq;exact hs.1 x hx)]
  cases p with
  | none=>rfl
  | some q=>
   have:=hp q rfl it (by simp);unfold qb;simp only;rw[this]; rfl
theorem sJ {tree:List dd} (h:Bi tree) (hc:jU c=true) (hg:kC gs) (d:ByteArray) (nd:dd->cH) (hn: ∀e∈dB tree d,e.kind=2->lF (nd e)=true):jL ((dB tree d).map fun e=>cE k gs c d e (nd e))=true:=by
 have hl:(dB tree d).length<=tree.length:=dM _ _;unfold jL;rw[aF,aJ];refine⟨by rw[aw]; have:=h.len; omega, ?_⟩;refine DN _ _ (fun it hf=> ?_) ?_ (fun q hq=>by cases hq)
 ·obtain⟨e,he,rfl⟩:=aP.1 hf;obtain⟨h1,h2⟩:=eK.1 he;exact Dk hc hg (h.val e h1) h2 (hn e he)
 ·rw[fU];have hk:jk (dB tree d):=h.ord.filter _;refine List.Pairwise.imp_of_mem (R:=fun a b=>nV a b<0) ?_ hk;intro a b ha hb hd;obtain⟨a1,a2⟩:=eK.1 ha;obtain⟨b1,b2⟩:=eK.1 hb
  show Op.bytesLess (ByteArray.toList ⟨(mh (bl d) (bl a.path)).toArray⟩) (ByteArray.toList ⟨(mh (bl d) (bl b.path)).toArray⟩)=true
  rw[eN,eN,iX,iX];exact MN (pX (dj (h.val a a1)) a2) (pX (dj (h.val b b1)) b2) hd
end
end
end Go.Proofs.YtpffpjbkbaleiaaGreatDoor
