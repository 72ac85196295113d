/- Texts of this proof, one after the other: PresA, PresB, MissM, REach, RMiss, MissL, Refs24, AwP, BldF, BldG, AwQ, AwR, LookB. -/
import Derived.Test.YtpffpjbkbaleiaaGreatDoorCNeedsG
set_option maxRecDepth 100000
set_option maxHeartbeats 8000000
namespace Go.Proofs.YtpffpjbkbaleiaaGreatDoor
open Go.RowKit
theorem yg (visit:aG->Except Int (List aE)) (cv:Value) (I:World->Prop) (B n:Nat) (hI:ol I B) (hV:ud visit 95 cv I) (IH:qW visit 95 cv I B n):qW visit 95 cv I B (n+1):=by
 intro r st x st' base wb eb sb v w hw hlen h hr hi hB hbase;have HI:=ab hI;have HV:=ab hV;have HIH:=ab IH;have HB:=ab hB;have HR:=ab hr;have H:=ab h;have HIW:=ab hi;have HLEN:=ab hlen;have HWP:=ab hw;have hmen:(aH r st.2).length<=st'.2.length:=by
  rw[bC]at hw
  split at hw
  ·simp only[Option.some.injEq,Prod.mk.injEq]at hw;obtain⟨_,rfl⟩:=hw;exact Nat.le_refl _
  ·split at hw
   ·simp only[Option.some.injEq,Prod.mk.injEq]at hw;obtain⟨_,rfl⟩:=hw;exact Nat.le_refl _
   ·exact em (eR visit n) _ _ x st' hw
 have hml:=fL r st.2;have HB0:=ab ((Below.refl w.heap.size w).alloc (Nat.le_refl _) (.cells #[.string r.name, .int .i64 r.gen, .int .i64 r.size] 26));have HK0:=ab (h.below HB0.out);have HBX0:=ab (heap_alloc_new w (.cells #[.string r.name, .int .i64 r.gen, .int .i64 r.size] 26));have hwb:wb<w.heap.size:=lt_of_block h.box;unfold aX;clear hw h hr hi hI hV IH hB
 go_enter Tryz.func133,Tryz.ntmps133
 go_wp2_with fail;refine(ik base wb eb sb _ v st.1 st.2 r _ HK0.out HR.out (by omega) (by simp; omega)).mono ?_;rintro e w1 ⟨rfl,v1,hk1,hg1,ho1⟩;have HK1:=ab hk1;have HBX1:=ab (show w1.heap[w.heap.size]? =some (.cells #[.string r.name, .int .i64 r.gen, .int .i64 r.size] 26 (0,0))from(hg1.block w.heap.size (by simp) (fun ho=>by
  rcases ho with e | e | e | e
  ·omega
  ·have:=H.out.exs.map.lt; omega
  ·have:=H.out.see.map.lt; omega
  ·have:=(H.out.row.lt _ e).2; omega)).trans HBX0.out)
 have hz1:=hg1.size;simp at hz1;have HG1:=ab (show bg (de wb eb sb v) w w1 from(bg.of_below HB0.out (S:=de wb eb sb v)).trans hg1 (fun _ _ h=>h));have HO1:=ab (show ∀k,v1.ownBlock=some k->v.ownBlock=some k\/w.heap.size<=k from fun k hk=>by
  rcases ho1 k hk with e | e
  ·exact .inl e
  ·simp at e; exact .inr (by omega))
 clear hk1 hg1 ho1 HK0 HBX0;have c1:=ah (k:=1) HK1.out.box;have q0:=ah (k:=0) HBX1.out;have q1:=ah (k:=1) HBX1.out;have q2:=ah (k:=2) HBX1.out;simp only[aN]at c1 q0 q1 q2;go_wp2_with fail;refine am [some 6] (by kernel_rfl) (by kernel_rfl) (by kernel_rfl) ?_;simp only[aZ,List.take_succ_cons,List.take_zero];obtain⟨W1,hW1⟩: ∃W1:World,W1=w1.drew:=⟨_,rfl⟩
 rw[<-hW1];have hbw1:Below w1.heap.size w1 W1:=by rw[hW1]; exact(Below.refl _ _).drew
 have HK2:=ab (HK1.out.below hbw1);have HBX2:=ab ((hbw1.block w.heap.size (by omega)).trans HBX1.out);have HG2:=ab (HG1.out.trans (bg.of_below hbw1 (S:=fun _=>False)) (fun _ _ h=>False.elim h));have hz2:=hbw1.size;clear hbw1 HK1 HBX1 HG1 c1 q0 q1 q2;have c1:=ah (k:=1) HK2.out.box;have q0:=ah (k:=0) HBX2.out;have q1:=ah (k:=1) HBX2.out;have q2:=ah (k:=2) HBX2.out
 have hlk:=HK2.out.exs.look HR.out;unfold aX at hlk;simp only[aN]at c1 q0 q1 q2;clear hW1
 by_cases hm:r∈st.1
 ·have e1:decide (r∈st.1)=true:=by simp[hm]
  rw[e1]at hlk;have HRES:=ab (show(x,st')=(0,(st.1,aH r st.2)) by have:=HWP.out; rw[bC,if_pos hm]at this; exact(Option.some.inj this).symm);clear e1 hm
  repeat (first | (refine aw rfl ?_; simp only[Act.put,aA,aB,aC]) | (refine aJ rfl (fun K hK=> ?_); go_simp; refine hK _ ?_; clear hK K))
  refine aI ?_;go_wp2_with fail;go_ret;obtain⟨e1,e2⟩:=Prod.mk.inj HRES.out;exact⟨bz e1.symm,v1,by rw[e2]; exact HK2.out,HG2.out,HO1.out⟩
 ·have e1:decide (r∈st.1)=false:=by simp[hm]
  rw[e1]at hlk;have HNM:=ab hm;have HWQ:=ab (show(match visit r with | .error x=>some (x,(st.1++[r],aH r st.2)) | .ok l=>dG (bC visit n) l (st.1++[r],aH r st.2))=some (x,st') by have:=HWP.out; rw[bC,if_neg hm]at this; exact this);clear e1 hm HWP
  repeat (first | (refine aw rfl ?_; simp only[Act.put,aA,aB,aC]) | (refine aJ rfl (fun K hK=> ?_); go_simp; refine hK _ ?_; clear hK K))
  refine aI ?_;go_wp2_with fail;refine am [some 5,none] (by kernel_rfl) (by kernel_rfl) (by kernel_rfl) ?_;simp only[aZ,List.take_succ_cons,List.take_zero,List.drop_succ_cons,List.drop_zero]
  repeat (first | (refine aw rfl ?_; simp only[Act.put,aA,aB,aC]) | (refine aJ rfl (fun K hK=> ?_); go_simp; refine hK _ ?_; clear hK K))
  refine aI ?_;refine bw rfl (fun K hK=> ?_);have HKd:=ab (HK2.out.below ((Below.refl _ W1).drew));go_wp2_with (at_mapUpdate; go_must (refine cL rfl _ _ _ rfl eb st.1 HKd.out.exs rfl r HR.out rfl rfl HNM.out ?_); intro w2 hset hg2);have heb:eb<w.heap.size:=H.out.exs.map.lt;have hsb:sb<w.heap.size:=H.out.see.map.lt;have hne1:=H.out.wne;have hne2:=H.out.ne;refine am [some 5,none,some 5] (by kernel_rfl) (by kernel_rfl) (by kernel_rfl) ?_
  simp only[aZ,List.take_succ_cons,List.take_zero,List.drop_succ_cons,List.drop_zero];obtain⟨W2,hW2⟩: ∃W2:World,W2=w2.drew:=⟨_,rfl⟩;rw[<-hW2];have hg3:W1.grownBy W2 (some eb):=by rw[hW2]; exact ak (b:=W1.drew) ⟨rfl,rfl,rfl,Nat.le_refl _,fun _ _ _=>rfl⟩ (ak hg2 ⟨rfl,rfl,rfl,Nat.le_refl _,fun _ _ _=>rfl⟩)
  have hset3:cb W2 eb (st.1++[r]):=by rw[hW2]; exact hset.same rfl
  have HK3:=ab (show fF W2 base wb eb sb (.func (.func 95) #[cv] #[]) v1 (st.1++[r]) (aH r st.2)from⟨dE hg3 HK2.out.box hne1.1,hset3,HK2.out.see.same (hg3.block sb HK2.out.see.map.lt (by simp; exact Ne.symm hne2)),HK2.out.row.kept hg3 (.inr (fun e=>(HK2.out.own e).2.1 rfl)),hne2⟩);have HBX3:=ab (dE hg3 HBX2.out (by omega));have HG3:=ab (show bg (de wb eb sb v) w W2 from HG2.out.trans (bg.of_grown (S:=fun k=>k=eb) hg3 (fun k hk=>by cases hk; rfl)) (fun i _ h=> .inr (.inl h)))
  have hz3:=hg3.size;have HI3:=ab (HI.out w W2 HIW.out (fx HG3.out (fun k hk=>mG H.out HB.out hk)));clear hW2 hg3 hset3 hset hg2 HKd HK2 HBX2 HG2 c1 q0 q1 q2 hlk;have c0:=ah (k:=0) HK3.out.box;have q0:=ah (k:=0) HBX3.out;have q1:=ah (k:=1) HBX3.out;have q2:=ah (k:=2) HBX3.out;simp only[aN]at c0 q0 q1 q2
  repeat (first | (refine aw rfl ?_; simp only[Act.put,aA,aB,aC]) | (refine aJ rfl (fun K hK=> ?_); go_simp; refine hK _ ?_; clear hK K))
  refine aI ?_;refine bw rfl (fun K hK=> ?_);go_wp2_with fail;refine(HV.out W2 r HI3.out HR.out).mono ?_;rintro e w3 ⟨hb3,hres⟩;have HK4:=ab (HK3.out.below hb3);have HG4:=ab (HG3.out.trans (bg.of_below hb3 (S:=fun _=>False)) (fun _ _ h=>False.elim h));have HB3:=ab hb3;have hz4:=hb3.size;clear hb3 c0 q0 q1 q2
  cases hvr:visit r with
  | error y=>
   rw[hvr]at hres;obtain⟨rfl,hy⟩:=hres;have HRES:=ab (show(x,st')=(y,(st.1++[r],aH r st.2)) by have:=HWQ.out; rw[hvr]at this; exact(Option.some.inj this).symm);have e1:(y != 0)=true:=by simp[hy]
   clear hvr hy;go_wp2_with fail
   repeat (first | (refine aw rfl ?_; simp only[Act.put,aA,aB,aC]) | (refine aJ rfl (fun K hK=> ?_); go_simp; refine hK _ ?_; clear hK K))
   refine aI ?_;go_wp2_with fail;go_ret;obtain⟨e1,e2⟩:=Prod.mk.inj HRES.out;exact⟨bz e1.symm,v1,by rw[e2]; exact HK4.out,HG4.out,HO1.out⟩
  | ok l=>
   rw[hvr]at hres;obtain⟨itv,rfl,hits⟩:=hres;have HOV:=ab (show dG (bC visit n) l (st.1++[r],aH r st.2)=some (x,st') by have:=HWQ.out; rw[hvr]at this; exact this);obtain⟨ia,ic,rfl,hil,him,-⟩:=aL.shape hits dO.len;unfold maxLen at him;have HIN:=ab (show lH w B W2.heap.size w3.heap.size base wb eb sb (.func (.func 95) #[cv] #[]) v (.slice ia l.length ic) l w3 v1 (st.1++[r]) (aH r st.2)from
    ⟨HK4.out,HG4.out,HO1.out,fun k hk=> .inl (HK3.out.row.lt k hk).2,⟨by omega,by omega,by omega⟩,⟨by omega,hz4,Nat.le_refl _⟩,ba.lt hits⟩)
   clear hvr hits HWQ HK3 HK4 HG3 HG4 HBX3;go_wp2_with fail
   repeat (first | (refine aw rfl ?_; simp only[Act.put,aA,aB,aC]) | (refine aJ rfl (fun K hK=> ?_); go_simp; refine hK _ ?_; clear hK K))
   refine aI ?_;go_wp2_with fail
   go_loopw [40] (fun i wr=> ∃(k:Nat) (v2:Value) (ex2 rs2:List aG),k<=l.length/\i= .int .i64 k/\dG (bC visit n) (l.drop k) (ex2,rs2)=some (x,st')/\lH w B W2.heap.size w3.heap.size base wb eb sb (.func (.func 95) #[cv] #[]) v (.slice ia l.length ic) l wr v2 ex2 rs2) (fun i _=>l.length-(intOf i).toNat)
   case atStart=>exact⟨0,v1,_,_,Nat.zero_le _,rfl,HOV.out,HIN.out⟩
   case round=>
    obtain⟨k,v2,ex2,rs2,hk,rfl,hov,hin⟩:=hrel;have HV2:=ab hov;have HN2:=ab hin;clear hov hin
    by_cases hlt:k<l.length
    ·obtain⟨it,hr2⟩: ∃it,l[k]? =some it:=⟨l[k],by simp[hlt]⟩;obtain⟨b,o,ca,cc,rfl,hok,hrf,-,-,hcl⟩:=dy HN2.out.its (Below.refl _ _) hr2;have HOV2:=ab (show dG (bC visit n) (it::l.drop (k+1)) (ex2,rs2)=some (x,st') by
      obtain⟨hk',rfl⟩:=List.getElem?_eq_some_iff.1 hr2;rw[<-List.drop_eq_getElem_cons hk']; exact HV2.out)
     have hmb:=mF HOV2.out;have HOK:=ab hok;have q0:=hcl 0 (by omega);have q1:=hcl 1 (by omega);have q2:=hcl 2 (by omega);have q3:=hcl 3 (by omega);have q4:=hcl 4 (by omega);have q5:=hcl 5 (by omega);have q6:=hcl 6 (by omega);have q7:=hcl 7 (by omega);have q8:=hcl 8 (by omega);have q9:=hcl 9 (by omega);simp only[cP,Bw,Nat.add_zero]at q0 q1 q2 q3 q4 q5 q6 q7 q8 q9
     obtain⟨wo,hwo⟩: ∃wo:World,wo=wr:=⟨_,rfl⟩;subst hwo;have HAL:=ab ((Below.refl wo.heap.size wo).alloc (Nat.le_refl _) (.cells #[.string it.name, .int .i64 it.kind, .int .i64 it.mode, .int .i64 it.time, .int .i64 it.size, .string it.link, .slice ca it.chunks.length cc, .string it.node.name, .int .i64 it.node.gen, .int .i64 it.node.size] 28));have HN3:=ab (HN2.out.below HAL.out)
     have HRF:=ab (show aM (fun k=>W2.heap.size<=k/\k<w3.heap.size) _ (.slice ca it.chunks.length cc) it.chunks from aL.below hrf (by omega) HAL.out (fun _ _ _ h=>h));obtain⟨a',cap',hv',hcl1,hcl2,-⟩:=aL.shape hrf fc.len
     cases hv'
     unfold maxLen at hcl2;clear hr2 hok hrf hcl;have HBX5:=ab (heap_alloc_new wo (.cells #[.string it.name, .int .i64 it.kind, .int .i64 it.mode, .int .i64 it.time, .int .i64 it.size, .string it.link, .slice ca it.chunks.length cc, .string it.node.name, .int .i64 it.node.gen, .int .i64 it.node.size] 28));go_wp2_with fail;clear q0 q1 q2 q3 q4 q5 q6 q7 q8 q9
     go_loopw [47] (fun i wq=> ∃(j:Nat) (v3:Value),j<=it.chunks.length/\i= .int .i64 j/\lH w B W2.heap.size w3.heap.size base wb eb sb (.func (.func 95) #[cv] #[]) v (.slice (some ⟨b,o,none⟩) l.length ic) l wq v3 ex2 (bT (it.chunks.take j) rs2)/\aM (fun k=>W2.heap.size<=k/\k<w3.heap.size) wq (.slice ca it.chunks.length cc) it.chunks/\wq.heap[wo.heap.size]? =some (.cells #[.string it.name, .int .i64 it.kind, .int .i64 it.mode, .int .i64 it.time, .int .i64 it.size, .string it.link, .slice ca it.chunks.length cc, .string it.node.name, .int .i64 it.node.gen, .int .i64 it.node.size] 28 (0,0))) (fun i _=>it.chunks.length-(intOf i).toNat)
     case atStart=>exact⟨0,v2,Nat.zero_le _,rfl,HN3.out,HRF.out,HBX5.out⟩
     case round=>
      obtain⟨j,v3,hj,rfl,hin3,hrf3,hbx3⟩:=hrel;have HN4:=ab hin3;have HRF4:=ab hrf3;have HBX6:=ab hbx3;clear hin3 hrf3 hbx3 HN3 HRF HBX5 HAL
      by_cases hlt2:j<it.chunks.length
      ·obtain⟨c,hc⟩: ∃c,it.chunks[j]? =some c:=⟨it.chunks[j],by simp[hlt2]⟩;obtain⟨b2,o2,rfl,hcok,p0,p1,p2⟩:=cR HRF4.out (Below.refl _ _) hc;have HCO:=ab hcok;have HSN:=ab (show bT (it.chunks.take (j+1)) rs2=aH c (bT (it.chunks.take j) rs2) by rw[bh hc,jX]);have hjl:=gE it.chunks rs2 j;have HAL2:=ab ((Below.refl wr.heap.size wr).alloc (Nat.le_refl _) (.cells #[.string c.name, .int .i64 c.gen, .int .i64 c.size] 26))
       have HN5:=ab (HN4.out.below HAL2.out);have hbz:base<=(wr.alloc (.cells #[.string c.name, .int .i64 c.gen, .int .i64 c.size] 26)).heap.size:=Nat.le_trans hbase (Nat.le_trans HN4.out.gr.size HAL2.out.size);have HBZ:=ab hbz;clear hc hcok hbz;go_wp2_with fail;refine(ik base wb eb sb _ v3 ex2 _ c _ HN5.out.at' HCO.out (by omega) HBZ.out).mono ?_;rintro e w4 ⟨rfl,hres⟩;obtain⟨v4,hin4,hg4⟩:=HN5.out.step hres
       have HN6:=ab hin4;have hzz:=HAL2.out.size;have HRF6:=ab (show aM (fun k=>W2.heap.size<=k/\k<w3.heap.size) w4 (.slice (some ⟨b2,o2,none⟩) it.chunks.length cc) it.chunks from aM.same HRF4.out (fun k hk hS=>⟨hS,(hg4.block k (Nat.lt_of_lt_of_le hk hzz) (HN5.out.notown hS)).trans (HAL2.out.block k hk)⟩));have hbk:=cH HBX6.out (.cells #[.string c.name, .int .i64 c.gen, .int .i64 c.size] 26)
       have HBX7:=ab ((hg4.block wo.heap.size ((Array.getElem?_eq_some_iff.1 hbk).1) (HN5.out.at'.notown hbk (by decide) (by decide))).trans hbk);clear hres hin4 hg4 hbk p0 p1 p2;go_wp2_with fail
       go_roundw
       case rel=>exact⟨j+1,v4,by omega,by go_num,by rw[HSN.out]; exact HN6.out,HRF6.out,HBX7.out⟩
       case measure=>simp[intOf]; omega
      ·obtain rfl:j=it.chunks.length:=by omega
       rw[List.take_of_length_le (Nat.le_refl _)]at HN4;have c1:=ah (k:=1) HBX6.out;have c7:=ah (k:=7) HBX6.out;have c8:=ah (k:=8) HBX6.out;have c9:=ah (k:=9) HBX6.out;simp only[aN]at c1 c7 c8 c9
       rcases jt HOV2.out with⟨hk2,h2⟩ | ⟨hk2,y,st2,h1,h2⟩
       ·have e2:(it.kind != 2)=true:=by simp[hk2]
        have H2:=ab h2;clear hk2 h2;go_wp2_with fail
        go_roundw
        case rel=>exact⟨k+1,v3,_,_,by omega,by go_num,H2.out,HN4.out⟩
        case measure=>simp[intOf]; omega
       ·have e2:(it.kind != 2)=false:=by simp[hk2]
        have H1:=ab h1;have H2:=ab h2;have hle2:st2.2.length<=st'.2.length:=by
         rcases h2 with⟨_,h2⟩ | ⟨_,h2⟩
         ·obtain⟨_,rfl⟩:=Prod.mk.inj h2;exact Nat.le_refl _
         ·exact em (eR visit n) _ _ x st' h2
        have HI4:=ab (HI.out w wr HIW.out (fx HN4.out.gr (fun k hk=>mG H.out HB.out hk)));have HBZ:=ab (Nat.le_trans hbase HN4.out.gr.size);clear hk2 h1 h2;go_wp2_with fail;refine(HIH.out it.node (ex2,bT it.chunks rs2) y st2 base wb eb sb v3 wr H1.out (by omega) HN4.out.at' HOK.out.nd HI4.out HB.out HBZ.out).mono ?_;rintro e w4 ⟨rfl,hres⟩;obtain⟨v4,hin4,-⟩:=HN4.out.step hres
        have HN6:=ab hin4;clear hres hin4 c1 c7 c8 c9
        rcases H2.out with⟨hy,h2⟩ | ⟨hy,h2⟩
        ·have e3:(y != 0)=true:=by simp[hy]
         have HRES:=ab h2;clear hy h2;go_wp2_with fail;go_ret;obtain⟨e1,e2⟩:=Prod.mk.inj HRES.out;exact⟨bz e1.symm,v4,by rw[e2]; exact HN6.out.at',HN6.out.gr,HN6.out.own⟩
        ·subst hy;have H3:=ab h2;clear h2;go_wp2_with fail
         go_roundw
         case rel=>exact⟨k+1,v4,st2.1,st2.2,by omega,by go_num,H3.out,HN6.out⟩
         case measure=>simp[intOf]; omega
    ·obtain rfl:k=l.length:=by omega
     have HRES:=ab (show(x,st')=(0,(ex2,rs2)) by have:=HV2.out; rw[List.drop_of_length_le (Nat.le_refl _)]at this; exact(Option.some.inj this).symm);go_wp2_with fail;go_ret;obtain⟨e1,e2⟩:=Prod.mk.inj HRES.out;exact⟨bz e1.symm,v2,by rw[e2]; exact HN2.out.at',HN2.out.gr,HN2.out.own⟩
theorem sG (visit:aG->Except Int (List aE)) (cv:Value) (I:World->Prop) (B:Nat) (hI:ol I B) (hV:ud visit 95 cv I): ∀n,qW visit 95 cv I B n
 | 0=>by intro r st x st' base wb eb sb v w hw; simp[bC]at hw
 | n+1=>yg visit cv I B n hI hV (sG visit cv I B hI hV n)
open Go Go.RowKit Go.Maps
theorem xE (visit:aG->Except Int (List aE)) (cv:Value) (I:World->Prop) (n:Nat) (root:aG) (res:Except Int (List aG)) (w:World) (hI:ol I w.heap.size) (hV:ud visit 95 cv I) (hi:I w) (hr:aW root)
  (hn:dF visit n root=some res) (hl: ∀p,bC visit n root ([],[])=some p->p.2.2.length<1099511627775):
  Calls Tryz.prog 94 #[aX root, .func (.func 95) #[cv] #[]] w (eS res w):=by
 have HI:=ab hI;have HV:=ab hV;have HIW:=ab hi;have HR:=ab hr;have HL:=ab hl;have hmm:= @run_makeMap Tryz.prog;have HB0:=ab ((Below.refl w.heap.size w).alloc (Nat.le_refl _) (.cells #[.string root.name, .int .i64 root.gen, .int .i64 root.size] 26));have HBX0:=ab (heap_alloc_new w (.cells #[.string root.name, .int .i64 root.gen, .int .i64 root.size] 26));unfold aX;clear hI hV hi hr hl
 cases hv:dw root
 ·have HRES:=ab (show res= .error 1 by rw[dF,if_neg (by rw[hv]; simp)]at hn; exact(Option.some.inj hn).symm);have HVR:=ab hv;clear hv hn
  go_enter Tryz.func94,Tryz.ntmps94
  go_wp2_with fail;refine(cA root false _ HR.out HVR.out).mono ?_;rintro e w1 ⟨rfl,hb1⟩;have HB1:=ab (ag HB0.out hb1);clear hb1;go_wp2_with fail
  go_ret2
  exact⟨HB1.out,by rw[HRES.out]; exact⟨rfl,by decide⟩⟩
 ·have HVR:=ab hv;obtain⟨⟨x,st⟩,hwp,hres⟩: ∃p,bC visit n root ([],[])=some p/\res=(if p.1=0 then .ok p.2.2 else .error p.1):=by
   rw[dF,if_pos hv,Option.map_eq_some_iff]at hn;obtain⟨p,h1,h2⟩:=hn;exact⟨p,h1,h2.symm⟩
  have HWP:=ab hwp;have HRES:=ab hres;have HLN:=ab (HL.out _ hwp);clear hv hn hwp hres
  go_enter Tryz.func94,Tryz.ntmps94
  go_wp2_with fail;refine(cA root true _ HR.out HVR.out).mono ?_;rintro e w1 ⟨rfl,hb1⟩;have HB1:=ab (ag HB0.out hb1);have hbx1:=(hb1.block w.heap.size (by simp)).trans HBX0.out;have HBX1:=ab hbx1;have hz1:=lt_of_block hbx1;clear hb1 hbx1 HBX0;obtain⟨W,hW⟩: ∃W:World,W=((w1.alloc (.map #[] 0)).alloc (.map #[] 0)).alloc (.cells #[.func (.func 95) #[cv] #[], .map (some w1.heap.size), .map (some (w1.heap.size+1)), .slice none 0 0] 191):=⟨_,rfl⟩
  have HK:=ab (show fF W w.heap.size (w1.heap.size+1+1) w1.heap.size (w1.heap.size+1) (.func (.func 95) #[cv] #[]) (.slice none 0 0) [] [] by rw[hW]; exact wC);have hbw:Below w1.heap.size w1 W:=by rw[hW]; exact(((Below.refl _ _).alloc (Nat.le_refl _) _).alloc (by simp) _).alloc (by simp; omega) _
  have HBW:=ab (ag HB1.out hbw);have HBX2:=ab ((hbw.block w.heap.size hz1).trans HBX1.out);have q0:=ah (k:=0) HBX2.out;have q1:=ah (k:=1) HBX2.out;have q2:=ah (k:=2) HBX2.out;have r0:=ah (k:=0) HBX1.out;have r1:=ah (k:=1) HBX1.out;have r2:=ah (k:=2) HBX1.out;simp only[aN]at q0 q1 q2 r0 r1 r2;have HI2:=ab (HI.out w W HIW.out (bg.of_below HBW.out))
  clear hbw
  go_upto_region 4 with(fail)
  rw[<-hW];clear hW;go_wp2_with fail;refine(sG visit cv I w.heap.size HI.out HV.out n root ([],[]) x st w.heap.size (w1.heap.size+1+1) w1.heap.size (w1.heap.size+1) (.slice none 0 0) W HWP.out HLN.out HK.out HR.out HI2.out ⟨Nat.le_refl _,by omega,by omega,by omega⟩ HBW.out.size).mono ?_;rintro e w2 ⟨rfl,v2,hk2,hg2,ho2⟩;have HK2:=ab hk2;have HB2:=ab (show Below w.heap.size w w2 from HBW.out.trans (hg2.below HBW.out.size (fun k hk=>mG HK.out ⟨Nat.le_refl _,by omega,by omega,by omega⟩ hk)))
  obtain⟨a2,c2,rfl⟩:=hk2.shape;have d3:=ah (k:=3) hk2.box;simp only[aN]at d3;clear hk2 hg2 ho2 q0 q1 q2 r0 r1 r2
  by_cases hx:x=0
  ·subst hx;have HRS:=ab (show res= .ok st.2 by rw[HRES.out]; simp);go_wp2_with fail
   go_ret2
   exact⟨HB2.out,by rw[HRS.out]; exact⟨_,rfl,aM.same (dr HK2.out.row HK2.out.ok) (fun k _ hS=>⟨hS.1,rfl⟩)⟩⟩
  ·have e1:(x != 0)=true:=by simp[hx]
   have HRS:=ab (show res= .error x by rw[HRES.out]; simp[hx]);have HX:=ab hx;clear hx;go_wp2_with fail
   go_ret2
   exact⟨HB2.out,by rw[HRS.out]; exact⟨rfl,HX.out⟩⟩
theorem dd.pres {B:Nat} {cv:Value} {cs:List (ByteArray×List UInt8)} :ud (dZ cs) 95 cv (dd B cv cs):=fun W r hI hr=>(vL (· <B) cv cs r W hI.cont hr hI.env).mono fun _ _ h=>h
def cj (cs:List (ByteArray×List UInt8)) (rs:List aG):List aG:=rs.filter fun r=>(cV cs r.name).isNone
def CC (cs:List (ByteArray×List UInt8)) (res:Except Int (List aG)):Except Int (List aG):=match res with
 | .error x=> .error x
 | .ok rs=> .ok (cj cs rs)
theorem mq {P:Program} {ops:Array Oper} {rest:List Oper} {o:Oper} {a:Act} {Q:Exit->Act->World->Prop} {t e:TypeId} {sz bytes:Nat} (T:eW P t e sz bytes) (hgd:o.guard=none) (s x:Operand)
  (ho:o.op= .call {callee:= .builtin .append,args:= #[s,x],argTypes:= #[t,t]}) (base:Nat) (v:Value) (n:Nat) (xs:List Value) (hs:a.eval s=v) (w0:World) (news:List Value) (e2:TypeId)
  (hx:a.eval x= .slice (some ⟨w0.heap.size,0,none⟩) 1 1) (hl:news.length=sz) (h1: ∀u∈news,u.oneCell'=true) (hown:w0.ownsRow base e sz v n xs) (h63:n+1<=maxLen) (hby:(n+1)*bytes<=140737488355328) (hbase:base<=w0.heap.size)
  (h: ∀v' w',w'.ownsRow base e sz v' (n+1) (xs++news)->w0.grownBy w' v.ownBlock->v'≠ .slice none 0 0->wpList P ops Q rest (a.put o.dst v') w'):wpList P ops Q (o::rest) a (w0.alloc (.cells news.toArray e2)):=by
 obtain⟨ht,⟨i,z,h11,h12,h13,h14,h15⟩,hpos,hsm⟩:=T;have hnews: ∀(j:Nat) u,news[j]? =some u->(w0.alloc (.cells news.toArray e2)).cell? ((⟨w0.heap.size,0,none⟩:Addr).add j)=some u:=by
  intro j u hj;rw[nS,Nat.zero_add];have hh:=heap_alloc_new w0 (.cells news.toArray e2);simp only[World.cell?,hh];simp[hj]
 have hl1:news.length=1*sz:=by rw[hl,Nat.one_mul]
 obtain⟨v',w',hr,h2,hg,hv⟩:=run_append_own (P:=P) (w0.alloc (.cells news.toArray e2)) base t o.type e i z sz bytes ht h11 h12 h13 h14 h15 hpos v n xs (hown.alloc _) ⟨w0.heap.size,0,none⟩ 1 1 news hl1 hnews h1 h63 hby (by simp; omega);refine wpList_plain hgd fun K hK=> ?_
 unfold Oper.wp execOp;simp only[ho,resolve,invoke,builtin,Sem.run_bind,Sem.run_pure,Result.andThen_ok,List.map_toArray,List.map_cons,List.map_nil,hs,hx,hr];refine hK _ _ (h v' w' h2 ⟨hg.os,hg.tape,hg.output,by have:=hg.size; simp at this; omega,fun k hk hne=> ?_⟩ (fun e=>by have:=(hv.1 e).2; omega));rw[hg.block k (by simp; omega) hne];exact Below.heap_alloc _ _ _ hk
theorem pf (cs:List (ByteArray×List UInt8)) (rs:List aG) (r:aG):cj cs (rs++[r])=if(cV cs r.name).isNone=true then cj cs rs++[r]else cj cs rs:=by
 unfold cj; rw[List.filter_append]
 by_cases h:(cV cs r.name).isNone=true<;> simp[List.filter,h]
theorem uK (cs:List (ByteArray×List UInt8)) (rs:List aG):(cj cs rs).length<=rs.length:=List.length_filter_le _ _
theorem tr (S:Nat->Prop) (cv:Value) (cs:List (ByteArray×List UInt8)) (n:Nat) (root:aG) (res:Except Int (List aG)) (w:World) (hc:bt S w cv cs) (henv:fE w) (hr:aW root)
  (hn:dF (dZ cs) n root=some res) (hl: ∀p,bC (dZ cs) n root ([],[])=some p->p.2.2.length<1099511627775) (hle: ∀rs,res= .ok rs->rs.length<1099511627775):
  Calls Tryz.prog 37 #[aX root,cv] w (eS (CC cs res) w):=by
 have hmf: ∀(fn:Fn) (first cap:Array Value) (w:World),(Instr.makeFunc fn first cap).run Tryz.prog w= .ok (.func fn first cap) w:=fun _ _ _ _=>rfl
 have HB0:=ab ((Below.refl w.heap.size w).alloc (Nat.le_refl _) (.cells #[.string root.name, .int .i64 root.gen, .int .i64 root.size] 26));have HC:=ab hc;have HI:=ab (dd.start (hc.below HB0.out) (henv.below HB0.out));have HR:=ab hr;have HN:=ab hn;have HL:=ab hl;unfold aX;clear hc henv hr hn hl
 go_enter Tryz.func37,Tryz.ntmps37
 go_wp2_with fail;refine(xE (dZ cs) cv _ n root res _ dd.keep dd.pres HI.out HR.out HN.out HL.out).mono ?_;rintro e w1 ⟨hb1,hres⟩;have HB1:=ab (ag HB0.out hb1);clear hb1
 cases res with
 | error x=>
  obtain⟨rfl,hx⟩:=hres;have HX:=ab hx;have e1:(x != 0)=true:=by simp[hx]
  clear hx;go_wp2_with fail
  go_ret2
  exact⟨HB1.out,rfl,HX.out⟩
 | ok rs=>
  obtain⟨v,rfl,hv⟩:=hres;have hrl:=hle rs rfl;obtain⟨a,cap,rfl,hcp,hm,-⟩:=aL.shape hv fc.len;unfold maxLen at hm;have HV:=ab hv;clear hv hle;go_wp2_with fail
  go_loopw [8,25] (fun o i wr=> ∃k:Nat,k<=rs.length/\i= .int .i64 k/\wr.ownsRow w1.heap.size 26 3 o (cj cs (rs.take k)).length ((cj cs (rs.take k)).flatMap cG)/\Below w1.heap.size w1 wr/\ ∀r∈cj cs (rs.take k),aW r) (fun _ i _=>rs.length-(intOf i).toNat)
  case atStart=>exact⟨0,Nat.zero_le _,rfl,World.ownsRow_nil _ _ _ _,Below.refl _ _,by simp[cj]⟩
  case round=>
   obtain⟨k,hk,rfl,hown,hb,hok⟩:=hrel;have HO:=ab hown;have HB:=ab hb;have HOK:=ab hok;obtain⟨ao,co,rfl,hn2,hm2⟩:=aj hown;have hlk0:=uK cs (rs.take k);rw[List.length_take]at hlk0;clear hown hb hok
   by_cases hlt:k<rs.length
   ·obtain⟨r,hr⟩: ∃r,rs[k]? =some r:=⟨rs[k],by simp[hlt]⟩;obtain⟨b,o,rfl,hrok,q0,q1,q2⟩:=cR HV.out HB.out hr;have HRO:=ab hrok;have HSN:=ab (show cj cs (rs.take (k+1))=if(cV cs r.name).isNone=true then cj cs (rs.take k)++[r]else cj cs (rs.take k) by rw[bh hr,pf]);have hnm:=hrok.nm;clear hr hrok
    go_upto_region 8 with(fail)
    obtain⟨W,hW⟩: ∃W:World,W=wr.alloc (.cells #[.string r.name, .int .i64 r.gen, .int .i64 r.size] 26):=⟨_,rfl⟩;rw[<-hW];have hbw:Below wr.heap.size wr W:=by rw[hW]; exact(Below.refl _ _).alloc (Nat.le_refl _) _
    have HBX:=ab (show W.heap[wr.heap.size]? =some (.cells #[.string r.name, .int .i64 r.gen, .int .i64 r.size] 26 (0,0)) by rw[hW]; exact heap_alloc_new wr _);have HBW:=ab (ag HB.out hbw);have HOW:=ab (pM HO.out hbw);have HCW:=ab (HC.out.below (ag HB1.out HBW.out));have hz1:=HBW.out.size;have p0:=ah (k:=0) HBX.out;have p1:=ah (k:=1) HBX.out;have p2:=ah (k:=2) HBX.out
    simp only[aN]at p0 p1 p2;clear hW hbw q0 q1 q2
    cases hf:cV cs r.name with
    | none=>
     have hlk:=HCW.out.missM hnm hf;have HSN2:=ab (HSN.out.trans (if_pos (by rw[hf]; rfl)));clear hf hnm;go_wp2_with (at_builtin; go_must (refine mq Tryz.appRefs rfl _ _ rfl w1.heap.size (.slice ao (cj cs (rs.take k)).length co) (cj cs (rs.take k)).length ((cj cs (rs.take k)).flatMap cG) rfl W [.string r.name, .int .i64 r.gen, .int .i64 r.size] _ rfl rfl (gL (r:=r)) HOW.out (by unfold maxLen; omega) (by omega) hz1 ?_); intro v' wc hown' hgrow' _; have HB2:=ab (cJ HBW.out HOW.out hgrow' (Nat.le_refl _) hz1); have HO2:=ab (show wc.ownsRow w1.heap.size 26 3 v' (cj cs (rs.take (k+1))).length ((cj cs (rs.take (k+1))).flatMap cG) by rw[HSN2.out,List.length_append,List.flatMap_append]; simpa [cG]using hown'); obtain⟨ae,ce,rfl,-,-⟩:=aj hown'; clear hown' hgrow')
     go_roundw
     case rel=>
      refine⟨k+1,by omega,by go_num,HO2.out,HB2.out, ?_⟩;rw[HSN2.out];intro x hx
      rcases List.mem_append.1 hx with hx | hx
      ·exact HOK.out x hx
      ·simp only[List.mem_singleton]at hx; subst hx; exact HRO.out
     case measure=>simp[intOf]; omega
    | some bs=>
     obtain⟨v,hlk,-⟩:=HCW.out.hitM hnm hf;have HSN2:=ab (HSN.out.trans (if_neg (by rw[hf]; simp)));clear hf hnm;go_wp2_with fail
     go_roundw
     case rel=>exact⟨k+1,by omega,by go_num,by rw[HSN2.out]; exact HOW.out,HBW.out,by rw[HSN2.out]; exact HOK.out⟩
     case measure=>simp[intOf]; omega
   ·obtain rfl:k=rs.length:=by omega
    have HTK:=ab (show cj cs (rs.take rs.length)=cj cs rs by rw[List.take_of_length_le (Nat.le_refl _)]);have hz:=HB1.out.size;go_wp2_with fail
    go_ret2
    refine⟨ag HB1.out HB.out, ?_⟩
    show ∃v,_/\aM _ _ v (cj cs rs)
    rw[<-HTK.out];exact⟨_,rfl,aM.same (dr HO.out HOK.out) (fun k _ hS=>⟨Nat.le_trans hz hS.1,rfl⟩)⟩
end Go.Proofs.YtpffpjbkbaleiaaGreatDoor
namespace Go.Proofs.YtpffpjbkbaleiaaGreatDoor
open Go.RowKit
def BJ (cs:List (ByteArray×List UInt8)) (need:aG->Except Int (List aG)):Prop:= ∀(S:Nat->Prop) (cv:Value) (root:aG) (w:World),bt S w cv cs->fE w->aW root->Calls Tryz.prog 42 #[aX root,cv] w (eS (need root) w)
def FB (cs:List (ByteArray×List UInt8)) (miss:aG->Except Int (List aG)):Prop:= ∀(S:Nat->Prop) (cv:Value) (root:aG) (w:World),bt S w cv cs->fE w->aW root->Calls Tryz.prog 43 #[aX root,cv] w (eS (miss root) w)
def Ej (cs:List (ByteArray×List UInt8)) (miss:aG->Except Int (List aG)):Prop:= ∀(S:Nat->Prop) (cv:Value) (root:aG) (w:World),bt S w cv cs->fE w->aW root->Calls Tryz.prog 37 #[aX root,cv] w (eS (miss root) w)
open Go Go.RowKit Go.Maps
theorem vR {w:World} {B:Nat} {ln:Bool} :fR (((w.alloc (.map #[] 0)).alloc (.map #[] 0)).alloc (.cells #[.slice none 0 0, .map (some w.heap.size), .map (some (w.heap.size+1)), .bool ln] 157)) B (w.heap.size+1+1) (w.heap.size+1) w.heap.size ln (.slice none 0 0) [] []:=by
 have e1:(w.alloc (.map #[] 0)).heap.size=w.heap.size+1:=by simp
 have e2:((w.alloc (.map #[] 0)).alloc (.map #[] 0)).heap.size=w.heap.size+1+1:=by simp
 have h1:=cb.made w;have h2:=cb.made (w.alloc (.map #[] 0));rw[e1]at h2;have h3:=heap_alloc_new ((w.alloc (.map #[] 0)).alloc (.map #[] 0)) (.cells #[.slice none 0 0, .map (some w.heap.size), .map (some (w.heap.size+1)), .bool ln] 157);rw[e2]at h3;refine⟨h3,h2.same (Below.heap_alloc _ _ _ (by rw[e2]; omega)), ?_,World.ownsRow_nil _ _ _ _,by omega⟩;exact h1.same ((Below.heap_alloc _ _ _ (by rw[e2]; omega)).trans (Below.heap_alloc _ _ _ (by rw[e1]; omega)))
theorem xL (S:Nat->Prop) (cv:Value) (cs:List (ByteArray×List UInt8)) (n:Nat) (root:aG) (res:Except Int (List aG)) (w:World) (hc:bt S w cv cs) (henv:fE w) (hr:aW root)
  (hn:dF (iK cs false) n root=some res) (hl: ∀p,bC (iK cs false) n root ([],[])=some p->p.2.2.length<1099511627775):
  Calls Tryz.prog 42 #[aX root,cv] w (eS res w):=by
 have HI:=ab (dd.start hc henv);have HR:=ab hr;have HL:=ab hl;have hmm:= @run_makeMap Tryz.prog;have HB0:=ab ((Below.refl w.heap.size w).alloc (Nat.le_refl _) (.cells #[.string root.name, .int .i64 root.gen, .int .i64 root.size] 26));have HBX0:=ab (heap_alloc_new w (.cells #[.string root.name, .int .i64 root.gen, .int .i64 root.size] 26));unfold aX;clear hc henv hr hl
 cases hv:dw root
 ·skip
  have HRES:=ab (show res= .error 1 by rw[dF,if_neg (by rw[hv]; simp)]at hn; exact(Option.some.inj hn).symm);have HVR:=ab hv;clear hv hn
  go_enter Tryz.func42,Tryz.ntmps42
  go_wp2_with fail;refine(gK root false _ HR.out HVR.out).mono ?_;rintro e w1 ⟨rfl,hb1⟩;have HB1:=ab (ag HB0.out hb1);clear hb1;go_wp2_with fail
  go_ret2
  exact⟨HB1.out,by rw[HRES.out]; exact⟨rfl,by decide⟩⟩
 ·skip
  have HVR:=ab hv;obtain⟨⟨x,st⟩,hwp,hres⟩: ∃p,bC (iK cs false) n root ([],[])=some p/\res=(if p.1=0 then .ok p.2.2 else .error p.1):=by
   rw[dF,if_pos hv,Option.map_eq_some_iff]at hn;obtain⟨p,h1,h2⟩:=hn;exact⟨p,h1,h2.symm⟩
  have HWP:=ab hwp;have HRES:=ab hres;have HLN:=ab (HL.out _ hwp);clear hv hn hwp hres
  go_enter Tryz.func42,Tryz.ntmps42
  go_wp2_with fail;refine(gK root true _ HR.out HVR.out).mono ?_;rintro e w1 ⟨rfl,hb1⟩;have HB1:=ab (ag HB0.out hb1);have hbx1:=(hb1.block w.heap.size (by simp)).trans HBX0.out;have HBX1:=ab hbx1;have hz1:=lt_of_block hbx1;clear hb1 hbx1 HBX0;obtain⟨W,hW⟩: ∃W:World,W=((w1.alloc (.map #[] 0)).alloc (.map #[] 0)).alloc (.cells #[.slice none 0 0, .map (some w1.heap.size), .map (some (w1.heap.size+1)), .bool false] 157):=⟨_,rfl⟩
  have HK:=ab (show fR W w.heap.size (w1.heap.size+1+1) (w1.heap.size+1) w1.heap.size false (.slice none 0 0) [] [] by rw[hW]; exact vR);have hbw:Below w1.heap.size w1 W:=by rw[hW]; exact(((Below.refl _ _).alloc (Nat.le_refl _) _).alloc (by simp) _).alloc (by simp; omega) _
  have HBW:=ab (ag HB1.out hbw);have HBX2:=ab ((hbw.block w.heap.size hz1).trans HBX1.out);have q0:=ah (k:=0) HBX2.out;have q1:=ah (k:=1) HBX2.out;have q2:=ah (k:=2) HBX2.out;have r0:=ah (k:=0) HBX1.out;have r1:=ah (k:=1) HBX1.out;have r2:=ah (k:=2) HBX1.out;simp only[aN]at q0 q1 q2 r0 r1 r2;have HI2:=ab (dd.keep w W HI.out (bg.of_below HBW.out))
  clear hbw
  go_upto_region 4 with(fail)
  rw[<-hW];clear hW;go_wp2_with fail;refine(mS cs false cv w.heap.size n root ([],[]) x st w.heap.size (w1.heap.size+1+1) (w1.heap.size+1) w1.heap.size (.slice none 0 0) W HWP.out HLN.out HK.out HR.out HI2.out ⟨Nat.le_refl _,by omega,by omega,by omega⟩ HBW.out.size).mono ?_;rintro e w2 ⟨rfl,v2,hk2,hg2,ho2⟩;have HK2:=ab hk2;have HB2:=ab (show Below w.heap.size w w2 from HBW.out.trans (hg2.below HBW.out.size (fun k hk=>kD HK.out ⟨Nat.le_refl _,by omega,by omega,by omega⟩ hk)))
  obtain⟨a2,c2,rfl⟩:=hk2.shape;have d0:=ah (k:=0) hk2.box;simp only[List.getElem?_toArray,List.getElem?_cons_zero]at d0;clear hk2 hg2 ho2 q0 q1 q2 r0 r1 r2
  by_cases hx:x=0
  ·subst hx;have HRS:=ab (show res= .ok st.2 by rw[HRES.out]; simp);go_wp2_with fail
   go_ret2
   exact⟨HB2.out,by rw[HRS.out]; exact⟨_,rfl,aM.same (dr HK2.out.row HK2.out.ok) (fun k _ hS=>⟨hS.1,rfl⟩)⟩⟩
  ·have e1:(x != 0)=true:=by simp[hx]
   have HRS:=ab (show res= .error x by rw[HRES.out]; simp[hx]);have HX:=ab hx;clear hx;go_wp2_with fail
   go_ret2
   exact⟨HB2.out,by rw[HRS.out]; exact⟨rfl,HX.out⟩⟩
theorem qD (S:Nat->Prop) (cv:Value) (cs:List (ByteArray×List UInt8)) (n:Nat) (root:aG) (res:Except Int (List aG)) (w:World) (hc:bt S w cv cs) (henv:fE w) (hr:aW root)
  (hn:dF (iK cs true) n root=some res) (hl: ∀p,bC (iK cs true) n root ([],[])=some p->p.2.2.length<1099511627775):
  Calls Tryz.prog 43 #[aX root,cv] w (eS (CC cs res) w):=by
 have HC:=ab hc;have HI:=ab (dd.start hc henv);have HR:=ab hr;have HL:=ab hl;have hmm:= @run_makeMap Tryz.prog;have HB0:=ab ((Below.refl w.heap.size w).alloc (Nat.le_refl _) (.cells #[.string root.name, .int .i64 root.gen, .int .i64 root.size] 26));have HBX0:=ab (heap_alloc_new w (.cells #[.string root.name, .int .i64 root.gen, .int .i64 root.size] 26));unfold aX;clear hc henv hr hl
 cases hv:dw root
 ·skip
  have HRES:=ab (show res= .error 1 by rw[dF,if_neg (by rw[hv]; simp)]at hn; exact(Option.some.inj hn).symm);have HVR:=ab hv;clear hv hn
  go_enter Tryz.func43,Tryz.ntmps43
  go_wp2_with fail;refine(gK root false _ HR.out HVR.out).mono ?_;rintro e w1 ⟨rfl,hb1⟩;have HB1:=ab (ag HB0.out hb1);clear hb1;go_wp2_with fail
  go_ret2
  exact⟨HB1.out,by rw[HRES.out]; exact⟨rfl,by decide⟩⟩
 ·skip
  have HVR:=ab hv;obtain⟨⟨x,st⟩,hwp,hres⟩: ∃p,bC (iK cs true) n root ([],[])=some p/\res=(if p.1=0 then .ok p.2.2 else .error p.1):=by
   rw[dF,if_pos hv,Option.map_eq_some_iff]at hn;obtain⟨p,h1,h2⟩:=hn;exact⟨p,h1,h2.symm⟩
  have HWP:=ab hwp;have HRES:=ab hres;have HLN:=ab (HL.out _ hwp);clear hv hn hwp hres
  go_enter Tryz.func43,Tryz.ntmps43
  go_wp2_with fail;refine(gK root true _ HR.out HVR.out).mono ?_;rintro e w1 ⟨rfl,hb1⟩;have HB1:=ab (ag HB0.out hb1);have hbx1:=(hb1.block w.heap.size (by simp)).trans HBX0.out;have HBX1:=ab hbx1;have hz1:=lt_of_block hbx1;clear hb1 hbx1 HBX0;obtain⟨W,hW⟩: ∃W:World,W=((w1.alloc (.map #[] 0)).alloc (.map #[] 0)).alloc (.cells #[.slice none 0 0, .map (some w1.heap.size), .map (some (w1.heap.size+1)), .bool true] 157):=⟨_,rfl⟩
  have HK:=ab (show fR W w.heap.size (w1.heap.size+1+1) (w1.heap.size+1) w1.heap.size true (.slice none 0 0) [] [] by rw[hW]; exact vR);have hbw:Below w1.heap.size w1 W:=by rw[hW]; exact(((Below.refl _ _).alloc (Nat.le_refl _) _).alloc (by simp) _).alloc (by simp; omega) _
  have HBW:=ab (ag HB1.out hbw);have HBX2:=ab ((hbw.block w.heap.size hz1).trans HBX1.out);have q0:=ah (k:=0) HBX2.out;have q1:=ah (k:=1) HBX2.out;have q2:=ah (k:=2) HBX2.out;have r0:=ah (k:=0) HBX1.out;have r1:=ah (k:=1) HBX1.out;have r2:=ah (k:=2) HBX1.out;simp only[aN]at q0 q1 q2 r0 r1 r2;have HI2:=ab (dd.keep w W HI.out (bg.of_below HBW.out))
  clear hbw
  go_upto_region 4 with(fail)
  rw[<-hW];clear hW;go_wp2_with fail;refine(mS cs true cv w.heap.size n root ([],[]) x st w.heap.size (w1.heap.size+1+1) (w1.heap.size+1) w1.heap.size (.slice none 0 0) W HWP.out HLN.out HK.out HR.out HI2.out ⟨Nat.le_refl _,by omega,by omega,by omega⟩ HBW.out.size).mono ?_;rintro e w2 ⟨rfl,v2,hk2,hg2,ho2⟩;have HK2:=ab hk2;have HB2:=ab (show Below w.heap.size w w2 from HBW.out.trans (hg2.below HBW.out.size (fun k hk=>kD HK.out ⟨Nat.le_refl _,by omega,by omega,by omega⟩ hk)))
  obtain⟨a2,c2,rfl⟩:=hk2.shape;have d0:=ah (k:=0) hk2.box;simp only[List.getElem?_toArray,List.getElem?_cons_zero]at d0
  by_cases hx:x=0
  ·subst hx;have HRS:=ab (show res= .ok st.2 by rw[HRES.out]; simp);have hsl:st.2.length<1099511627775:=HLN.out;obtain⟨rs,hrs⟩: ∃rs,rs=st.2:=⟨_,rfl⟩;rw[<-hrs]at HRS hsl d0 hk2;have HV:=ab (show aM (w.heap.size<= ·) w2 (.slice a2 rs.length c2) rs by have h1:=dr HK2.out.row HK2.out.ok; rw[<-hrs]at h1; exact aM.same h1 (fun k _ hS=>⟨hS.1,rfl⟩));obtain⟨a',cap',hv',hcl1,hcl2,-⟩:=aL.shape HV.out fc.len
   cases hv'
   unfold maxLen at hcl2;have HKB:=ab hk2.box;have HLB:=ab (lt_of_block hk2.box);have HO0:=ab (World.ownsRow_lit (e:=26) (size:=3) (base:=w2.heap.size) w2 #[] 0 (Nat.le_refl _) (Nat.zero_le _) (by simp));have HBA:=ab ((Below.refl w2.heap.size w2).alloc (Nat.le_refl _) (.cells #[] 26));clear hk2 hg2 ho2 q0 q1 q2 r0 r1 r2 hrs d0;go_wp2_with fail
   go_loopw [8,9] (fun o i wr=> ∃k:Nat,k<=rs.length/\i= .int .i64 k/\wr.ownsRow w2.heap.size 26 3 o (cj cs (rs.take k)).length ((cj cs (rs.take k)).flatMap cG)/\Below w2.heap.size w2 wr/\ ∀r∈cj cs (rs.take k),aW r) (fun _ i _=>rs.length-(intOf i).toNat)
   case atStart=>exact⟨0,Nat.zero_le _,rfl,HO0.out,HBA.out,by simp[cj]⟩
   case round=>
    obtain⟨k,hk,rfl,hown,hb,hok⟩:=hrel;have HO:=ab hown;have HB:=ab hb;have HOK:=ab hok;have d0:=(hb.cell (p:=⟨w1.heap.size+1+1,0,none⟩) HLB.out).trans (ah (k:=0) HKB.out);simp only[List.getElem?_toArray,List.getElem?_cons_zero]at d0;obtain⟨ao,co,rfl,hn2,hm2⟩:=aj hown;have hlk0:=uK cs (rs.take k);rw[List.length_take]at hlk0;clear hown hb hok
    by_cases hlt:k<rs.length
    ·obtain⟨r,hr⟩: ∃r,rs[k]? =some r:=⟨rs[k],by simp[hlt]⟩;obtain⟨b,o,rfl,hrok,q0,q1,q2⟩:=cR HV.out HB.out hr;have HRO:=ab hrok;have HSN:=ab (show cj cs (rs.take (k+1))=if(cV cs r.name).isNone=true then cj cs (rs.take k)++[r]else cj cs (rs.take k) by rw[bh hr,pf]);have hnm:=hrok.nm;have HCW:=ab (HC.out.below (ag HB2.out HB.out))
     have hz1:=HB.out.size;clear hr hrok
     cases hf:cV cs r.name with
     | none=>
      have hlk:=HCW.out.missM hnm hf;have HSN2:=ab (HSN.out.trans (if_pos (by rw[hf]; rfl)));clear hf hnm;go_wp2_with (at_builtin; go_must (refine mq Tryz.appRefs rfl _ _ rfl w2.heap.size (.slice ao (cj cs (rs.take k)).length co) (cj cs (rs.take k)).length ((cj cs (rs.take k)).flatMap cG) rfl wr [.string r.name, .int .i64 r.gen, .int .i64 r.size] _ rfl rfl (gL (r:=r)) HO.out (by unfold maxLen; omega) (by omega) hz1 ?_); intro v' wc hown' hgrow' _; have HB3:=ab (cJ HB.out HO.out hgrow' (Nat.le_refl _) hz1); have HO2:=ab (show wc.ownsRow w2.heap.size 26 3 v' (cj cs (rs.take (k+1))).length ((cj cs (rs.take (k+1))).flatMap cG) by rw[HSN2.out,List.length_append,List.flatMap_append]; simpa [cG]using hown'); obtain⟨ae,ce,rfl,-,-⟩:=aj hown'; clear hown' hgrow')
      go_roundw
      case rel=>
       refine⟨k+1,by omega,by go_num,HO2.out,HB3.out, ?_⟩;rw[HSN2.out];exact zh HOK.out HRO.out
      case measure=>simp[intOf]; omega
     | some bs=>
      obtain⟨v,hlk,-⟩:=HCW.out.hitM hnm hf;have HSN2:=ab (HSN.out.trans (if_neg (by rw[hf]; simp)));clear hf hnm;go_wp2_with fail
      go_roundw
      case rel=>exact⟨k+1,by omega,by go_num,by rw[HSN2.out]; exact HO.out,HB.out,by rw[HSN2.out]; exact HOK.out⟩
      case measure=>simp[intOf]; omega
    ·obtain rfl:k=rs.length:=by omega
     have HTK:=ab (show cj cs (rs.take rs.length)=cj cs rs by rw[List.take_of_length_le (Nat.le_refl _)]);have hz:=HB2.out.size;go_wp2_with fail
     go_ret2
     refine⟨ag HB2.out HB.out, ?_⟩;rw[HRS.out]
     show ∃v,_/\aM _ _ v (cj cs rs)
     rw[<-HTK.out];exact⟨_,rfl,aM.same (dr HO.out HOK.out) (fun k _ hS=>⟨Nat.le_trans hz hS.1,rfl⟩)⟩
  ·have e1:(x != 0)=true:=by simp[hx]
   have HRS:=ab (show res= .error x by rw[HRES.out]; simp[hx]);have HX:=ab hx;clear hx hk2 hg2 ho2 q0 q1 q2 r0 r1 r2;go_wp2_with fail
   go_ret2
   exact⟨HB2.out,by rw[HRS.out]; exact⟨rfl,HX.out⟩⟩
theorem xI {cs:List (ByteArray×List UInt8)} {r:aG} {l:List aE} (h:dZ cs r= .ok l) {it:aE} (hit:it∈l): ∀c∈jS it,c∈iB cs:=by
 unfold dZ at h
 cases hn:bG cs r with
 | error x=>
  rw[hn]at h;simp only at h
  split at h
  ·simp only[Except.ok.injEq]at h; subst h; simp at hit
  ·simp at h
 | ok l'=>
  rw[hn]at h;simp only[Except.ok.injEq]at h;subst h;exact pI hn hit
theorem qp {cs:List (ByteArray×List UInt8)} {U:List aG} (hU: ∀c∈iB cs,c∈U): ∀n,BP U (bC (dZ cs) n) n
 | 0=>fun r st hr hi hn=>by
  have:=iX hi.e1 hi.e2;omega
 | n+1=>fun r st hr hi hn=>by
  have hm:mw U (st.1,aH r st.2):=⟨hi.e1,hi.e2,gF hi.l1,fun x hx=>by
   rcases jq.1 hx with hx | rfl
   ·exact hi.l2 x hx
   ·exact hr⟩
  rw[bC]
  split
  ·exact⟨0,_,rfl,hm,Nat.le_refl _⟩
  ·rename_i hne;have he:mw U (st.1++[r],aH r st.2):=⟨List.nodup_append.2 ⟨hi.e1,by simp,fun a ha b hb e=>by simp only[List.mem_singleton]at hb; subst hb e; exact hne ha⟩,fun x hx=>by
    rcases List.mem_append.1 hx with hx | hx
    ·exact hi.e2 x hx
    ·simp only[List.mem_singleton]at hx; subst hx; exact hr,hm.l1,hm.l2⟩
   cases hv:dZ cs r with
   | error x=>exact⟨x,_,rfl,he,by simp⟩
   | ok l=>
    obtain⟨x,st',h1,h2,h3⟩:=ju (qp hU n) l (st.1++[r],aH r st.2) (fun it hit c hc=>hU c (xI hv hit c hc)) he (by simp; omega);exact⟨x,st',h1,h2,by simp at h3; omega⟩
theorem pO (cs:List (ByteArray×List UInt8)) (r:aG): ∃x st',bC (dZ cs) (gB cs) r ([],[])=some (x,st')/\mw (r::iB cs) st':=by
 obtain⟨x,st',h1,h2,_⟩:=qp (cs:=cs) (U:=r::iB cs) (fun c hc=>by simp[hc]) (gB cs) r ([],[]) (by simp) ⟨by simp,by simp,by simp,by simp⟩ (by simp[gB]);exact⟨x,st',h1,h2⟩
def yT (cs:List (ByteArray×List UInt8)) (r:aG):Except Int (List aG):=(dF (dZ cs) (gB cs) r).getD (.error 0)
def vz (cs:List (ByteArray×List UInt8)) (r:aG):Except Int (List aG):=CC cs (yT cs r)
theorem lr {cs:List (ByteArray×List UInt8)} (h:cs.length<=80) (r:aG):dF (dZ cs) (gB cs) r=some (yT cs r)/\ ∀p,bC (dZ cs) (gB cs) r ([],[])=some p->p.2.2.length<=1000000000:=by
 obtain⟨x,st',h1,h2⟩:=pO cs r;refine⟨?_,fun p hp=> ?_⟩
 ·unfold yT;have: ∃y,dF (dZ cs) (gB cs) r=some y:=by
   unfold dF
   split
   ·rw[h1]; exact⟨_,rfl⟩
   ·exact⟨_,rfl⟩
  obtain⟨y,hy⟩:=this;rw[hy]; rfl
 ·rw[h1]at hp;simp only[Option.some.injEq]at hp;subst hp;have h3:=iX h2.l1 h2.l2;have h4:=ro (cs:=cs);have h5:cs.length*3948544<=80*3948544:=Nat.mul_le_mul_right _ h;simp only[List.length_cons]at h3;simp only;omega
theorem CZ {cs:List (ByteArray×List UInt8)} (h:cs.length<=80) {r:aG} {l:List aG} (hl:yT cs r= .ok l):l.length<=1000000000:=by
 obtain⟨h1,h2⟩:=lr h r;obtain⟨x,st',h3,_⟩:=pO cs r;have h4:=h2 _ h3;rw[hl]at h1;unfold dF at h1
 split at h1
 ·rw[h3]at h1;simp only[Option.map_some,Option.some.injEq]at h1
  split at h1
  ·simp only[Except.ok.injEq]at h1; subst h1; exact h4
  ·simp at h1
 ·simp at h1
theorem tI {cs:List (ByteArray×List UInt8)} (h:cs.length<=80):BJ cs (jF cs):=fun S cv root w hc he hr=>by
 obtain⟨n,h1,h2⟩:=vC h root hr;exact xL S cv cs n root _ w hc he hr h1 (fun p hp=>by have:=h2 p hp; omega)
theorem tq {cs:List (ByteArray×List UInt8)} (h:cs.length<=80):FB cs (vz cs):=fun S cv root w hc he hr=>by
 obtain⟨h1,h2⟩:=lr h root;exact qD S cv cs (gB cs) root _ w hc he hr h1 (fun p hp=>by have:=h2 p hp; omega)
theorem kP {cs:List (ByteArray×List UInt8)} (h:cs.length<=80):Ej cs (vz cs):=fun S cv root w hc he hr=>by
 obtain⟨h1,h2⟩:=lr h root;exact tr S cv cs (gB cs) root _ w hc he hr h1 (fun p hp=>by have:=h2 p hp; omega) (fun rs hrs=>by have:=CZ h hrs; omega)
end Go.Proofs.YtpffpjbkbaleiaaGreatDoor
namespace Go.Proofs.YtpffpjbkbaleiaaGreatDoor
open Go.RowKit
def pB (c:UInt8):ByteArray:=⟨#[c,49,50,51,52,53,54,55,56,57,97,98,99,100,101,102,48,49,50,51,52,53,54,55,56,57,97,98,99,100,101,102]⟩
def dg :bI:=⟨pB 110,pB 115,pB 99,pB 105,pB 116⟩
def jN :dN:=⟨2,6,1,1,0⟩
def io :List bD:=[⟨⟨#[97]⟩,1,0,0,[],⟨#[]⟩⟩,⟨⟨#[100]⟩,2,0,0,[],⟨#[]⟩⟩,⟨⟨#[100,47,108]⟩,3,5,6,[],⟨#[97]⟩⟩]
def kI :List UInt8:=[1,1,108,3,5,6,1,97]
def ke :aG:=be dg [] kI
def lP :aE:=⟨⟨#[97]⟩,1,0,0,0,⟨#[]⟩,[],bi⟩
def Bx :aE:=⟨⟨#[100]⟩,2,0,0,0,⟨#[]⟩,[],ke⟩
def itL :aE:=⟨⟨#[108]⟩,3,5,6,0,⟨#[97]⟩,[],bi⟩
def mz :List UInt8:=dR [lP,Bx]
def fV :aG:=be dg [] mz
def oR :List (ByteArray×List UInt8):=[(fV.name,mz)]
theorem vj :fP dg=true:=by decide+kernel
theorem yG :iI jN=true:=by decide+kernel
theorem DJ :cX io=0:=by decide+kernel
theorem EA :dR [itL]=kI:=by decide+kernel
theorem FS :ci io ⟨#[]⟩=[⟨⟨#[97]⟩,1,0,0,[],⟨#[]⟩⟩,⟨⟨#[100]⟩,2,0,0,[],⟨#[]⟩⟩]:=by decide+kernel
theorem FT :ci io ⟨#[100]⟩=[⟨⟨#[100,47,108]⟩,3,5,6,[],⟨#[97]⟩⟩]:=by decide+kernel
theorem FQ :bE [0]=some []:=by kernel_rfl
theorem vn0 :cd []=true:=by decide+kernel
theorem vnL :cd [itL]=true:=by decide+kernel
theorem vnT :cd [lP,Bx]=true:=by decide+kernel
theorem GG :ke≠fV:=by decide+kernel
theorem FY :ke.name≠fV.name:=by decide+kernel
theorem GM (n:Nat):cE dg [] jN [] (n+1) ⟨#[]⟩= .ok ([0],[[0]]):=by
 rw[cE,show du dg [] jN (cE dg [] jN [] n) ⟨#[]⟩ (ci [] ⟨#[]⟩) [] []= .ok ([],[])from rfl];simp only[if_pos vn0];rw[if_pos (show(dR []).length<=32768 by decide)]
 rfl
theorem GU :bJ dg [] [[0]] []=[⟨be dg [] [0],[0]⟩]:=by
 show gI dg [] [] [0]=_
 unfold gI;rw[if_neg (by simp),List.nil_append]
theorem FK :cW dg jN [] []= .ok (be dg [] [0],[⟨be dg [] [0],[0]⟩]):=by
 unfold cW;rw[if_pos ⟨vj,yG⟩,if_pos (show([]:List (ByteArray×Int)).all (fun p=>decide (0<=p.2) && decide (p.2<=1099511627776))=true from rfl),if_pos (show cX []=0 from rfl),GM 513]
 dsimp only
 rw[GU]
theorem GE :bJ dg [] [kI,mz] []=[⟨ke,kI⟩,⟨fV,mz⟩]:=by
 unfold bJ;rw[List.foldl_cons,List.foldl_cons,List.foldl_nil];have h1:gI dg [] [] kI=[⟨ke,kI⟩]:=by
  unfold gI;rw[if_neg (by simp),List.nil_append]
  rfl
 rw[h1];unfold gI;rw[if_neg]
 ·rfl
 ·intro h;simp only[List.map_cons,List.map_nil,List.mem_singleton]at h;exact GG h.symm
theorem GN (n:Nat):cE dg [] jN io (n+1) ⟨#[100]⟩= .ok (kI,[kI]):=by
 have h:du dg [] jN (cE dg [] jN io n) ⟨#[100]⟩ (ci io ⟨#[100]⟩) [] []= .ok ([itL],[]):=by
  rw[FT]; rfl
 rw[cE,h];simp only[if_pos vnL,EA]
 rfl
theorem GO (n:Nat):cE dg [] jN io (n+2) ⟨#[]⟩= .ok (mz,[kI,mz]):=by
 have h:du dg [] jN (cE dg [] jN io (n+1)) ⟨#[]⟩ (ci io ⟨#[]⟩) [] []= .ok ([lP,Bx],[kI]):=by
  rw[FS];rw[rO (by rfl),pC (by rfl),show cE dg [] jN io (n+1) ⟨#[100]⟩= .ok (kI,[kI])from GN n]
  rfl
 rw[cE,h];simp only[if_pos vnT];rw[if_pos (show(dR [lP,Bx]).length<=32768 by decide+kernel)]
 rfl
theorem FL :cW dg jN io []= .ok (fV,[⟨ke,kI⟩,⟨fV,mz⟩]):=by
 unfold cW;rw[if_pos ⟨vj,yG⟩,if_pos (by rfl),if_pos DJ,show(514:Nat)=512+2 from rfl,GO 512]
 show Except.ok (fV,bJ dg [] [kI,mz] [])=_
 rw[GE]
theorem FR :bE mz=some [lP,Bx]:=by kernel_rfl
theorem GT :((mz.length:Nat):Int)=fV.size:=by kernel_rfl
theorem CP :bG oR fV= .ok [lP,Bx]:=by
 have h:cC oR fV= .ok mz:=by
  unfold cC oR;rw[cV,if_pos rfl]
  show(if((mz.length:Nat):Int)=fV.size then Except.ok mz else .error 9)=_
  rw[if_pos GT]
 unfold bG;rw[h];simp only[FR]
theorem Fw :bG oR ke= .error 10:=by
 have h:cC oR ke= .error 10:=by
  unfold cC oR;rw[cV,if_neg (fun e=>FY e.symm),cV]
 unfold bG;rw[h]
theorem DQ :dw fV=true:=by decide+kernel
theorem Gx (n:Nat):eC oR (di oR (n+1)) ⟨#[]⟩ [lP,Bx] []=(10,[⟨⟨#[97]⟩,1,0,0,[],⟨#[]⟩⟩,⟨⟨#[100]⟩,2,0,0,[],⟨#[]⟩⟩]):=by
 rw[lz (p:=⟨#[97]⟩) (bs:=[]) rfl (by decide+kernel) (by decide) rfl rfl,mL (p:=⟨#[100]⟩) rfl (by decide+kernel) (by decide) rfl];have h1: ∀X,di oR (n+1) ⟨#[100]⟩ Bx.node X=(10,X):=fun X=>by
  rw[di,show Bx.node=ke from rfl,Fw]
 rw[h1]
 rfl
theorem Gy (n:Nat):di oR (n+2) ⟨#[]⟩ fV []=(10,[⟨⟨#[97]⟩,1,0,0,[],⟨#[]⟩⟩,⟨⟨#[100]⟩,2,0,0,[],⟨#[]⟩⟩]):=by
 rw[di,CP];exact Gx n
theorem Gw :nt oR fV= .error 10:=by
 unfold nt;rw[if_pos DQ,show(514:Nat)=512+2 from rfl,Gy 512]
 rfl
theorem Gz :eM oR fV ⟨#[97]⟩= .ok lP:=by
 unfold eM;rw[if_pos ⟨by decide+kernel,DQ⟩,show jw (bl ⟨#[97]⟩)=[⟨#[97]⟩] by decide+kernel];rw[iV,if_pos (show(gh fV).kind=2 from rfl),show(gh fV).node=fV from rfl,CP]
 rfl
theorem FV :eM oR fV ⟨#[100,47,108]⟩= .error 10:=by
 unfold eM;rw[if_pos ⟨by decide+kernel,DQ⟩,show jw (bl ⟨#[100,47,108]⟩)=[⟨#[100]⟩,⟨#[108]⟩] by decide+kernel];rw[iV,if_pos (show(gh fV).kind=2 from rfl),show(gh fV).node=fV from rfl,CP]
 show iV oR [⟨#[108]⟩] Bx=_
 rw[iV,if_pos (show Bx.kind=2 from rfl),show Bx.node=ke from rfl,Fw]
theorem GA :vz oR fV= .ok [ke]:=by kernel_rfl
open Go Go.RowKit Go.Maps
theorem ii {tree:List bD} {j:Nat} {e:bD} (h:tree[j]? =some e) (d:ByteArray):ci (tree.take (j+1)) d=ci (tree.take j) d++(if aT (bl e.path)=bl d then [e]else []):=by
 unfold ci;rw[bh h,List.filter_append]
 congr 1
 by_cases hp:aT (bl e.path)=bl d
 ·simp[hp]
 ·simp[hp]
theorem nf {G:List tW} {d:ByteArray} (h:G.find? (fun g=>decide (g.dir=d))=none):fw G d=[]:=by unfold fw; rw[h]
theorem gX {G:List tW} {d:ByteArray} {g:tW} (h:G.find? (fun g=>decide (g.dir=d))=some g):fw G d=g.ents.map Prod.snd:=by unfold fw; rw[h]
theorem ng {A B:List tW} {g g':tW} (hd:g'.dir=g.dir) (hA: ∀x∈A,x.dir≠g.dir) (d:ByteArray):fw (A++g'::B) d=if g.dir=d then g'.ents.map Prod.snd else fw (A++g::B) d:=by
 by_cases h:g.dir=d
 ·rw[if_pos h];refine gX ?_;rw[List.find?_append,List.find?_eq_none.2 (fun x hx=>by rw[decide_eq_true_eq]; intro e; exact hA x hx (e.trans h.symm))];simp[hd,h]
 ·rw[if_neg h];unfold fw;rw[List.find?_append,List.find?_append,List.find?_cons,List.find?_cons,decide_eq_false (show ¬g'.dir=d by rw[hd]; exact h),decide_eq_false h]
theorem oZ {G:List tW} {g:tW} (h:G.find? (fun x=>decide (x.dir=g.dir))=none) (d:ByteArray):fw (G++[g]) d=if g.dir=d then g.ents.map Prod.snd else fw G d:=by
 by_cases hd:g.dir=d
 ·rw[if_pos hd];refine gX ?_;rw[<-hd,List.find?_append,h];simp
 ·rw[if_neg hd];unfold fw;rw[List.find?_append]
  cases G.find? (fun x=>decide (x.dir=d))with
  | none=>simp[hd]
  | some x=>simp
section
variable {w w1 w2 : World} {base im : Nat} {A B G : List tW} {g : tW} {v' : Value} {y : ji} {q : ByteArray}
theorem jH.over (h:jH w base im (A++g::B)) (hb:base<=im) (hd:bH (· <base) w y.1 y.2.data/\gS y.2) (hown:w1.ownsRow base 79 6 v' (g.ents.length+1) (df g.ents++oX y.1 y.2)) (hg:w.grownBy w1 g.val.ownBlock) (hpl: ∀i,v'.ownBlock=some i->g.val.ownBlock=some i\/w.heap.size<=i)
  (hm:cT Tryz.prog 9 w2 im (A.map gC++(.string g.dir,v')::B.map gC)) (hg2:w1.grownBy w2 (some im)):jH w2 base im (A++⟨g.dir,v',g.ents++[y]⟩::B):=by
 have hgo:w.ownsRow base 79 6 g.val g.ents.length (df g.ents):=h.own g (by simp);have him:w.heap[im]? =w1.heap[im]? ->True:=fun _=>trivial
 have hmc: ∀ {u:Value} {n:Nat} {xs:List Value} {t:TypeId} {sz:Nat},w1.ownsRow base t sz u n xs->w2.ownsRow base t sz u n xs:=fun {u n xs t sz} hr=>by
  refine hr.kept hg2 (.inr (fun e=> ?_));obtain⟨cs,hc⟩:=az hr e;have h0:=h.map.lt;have hi:w1.heap[im]? =w.heap[im]? :=hg.block im h0 (fun e2=>by
   obtain⟨cs2,hc2⟩:=az hgo e2.symm;exact h.map.ncells hc2)
  exact h.map.ncells (hi.symm.trans hc)
 have hoth: ∀x,x∈A\/x∈B-> ∀i,x.val.ownBlock=some i->g.val.ownBlock≠some i:=by
  intro x hx i hi;have hp:=List.pairwise_append.1 h.apart
  rcases hx with hx | hx
  ·exact hp.2.2 x hx g (by simp) i hi
  ·intro e;exact(List.pairwise_cons.1 hp.2.1).1 x hx i e hi
 have hdat: ∀ {u:Value} {bs:List UInt8},bH (· <base) w u bs->bH (· <base) w2 u bs:=fun {u bs} hu=>by
  refine aS.same hu (fun i hi=>(hg2.block i ?_ ?_).trans (hg.block i ?_ ?_))
  ·by_cases hlt:i<w.heap.size
   ·exact Nat.lt_of_lt_of_le hlt hg.size
   ·exact absurd h.map.lt (by omega)
  ·intro e;have:i=im:=by simpa using e
   omega
  ·have:=h.map.lt;omega
  ·intro e;have:=(hgo.lt i e.symm).1;omega
 have hmem: ∀x,x∈A++g::B->(x∈A\/x∈B)\/x=g:=by
  intro x hx;simp only[List.mem_append,List.mem_cons]at hx
  rcases hx with hx | hx | hx
  ·exact .inl (.inl hx)
  ·exact .inr hx
  ·exact .inl (.inr hx)
 refine⟨by simpa [gC]using hm,fun x hx=> ?_,fun x hx z hz=> ?_, ?_,fun x hx=> ?_⟩
 ·simp only[List.mem_append,List.mem_cons]at hx
  rcases hx with hx | hx | hx
  ·refine hmc ((h.own x (by simp[hx])).kept hg ?_)
   cases hv:x.val.ownBlock with
   | none=>exact .inl rfl
   | some i=>exact .inr (fun e=>hoth x (.inl hx) i hv e.symm)
  ·subst hx;simp only;rw[List.length_append,List.length_singleton,oY];exact hmc hown
  ·refine hmc ((h.own x (by simp[hx])).kept hg ?_)
   cases hv:x.val.ownBlock with
   | none=>exact .inl rfl
   | some i=>exact .inr (fun e=>hoth x (.inr hx) i hv e.symm)
 ·simp only[List.mem_append,List.mem_cons]at hx
  rcases hx with hx | hx | hx
  ·have:=h.dat x (by simp[hx]) z hz;exact⟨hdat this.1,this.2⟩
  ·subst hx
   rcases List.mem_append.1 hz with hz | hz
   ·have:=h.dat g (by simp) z hz;exact⟨hdat this.1,this.2⟩
   ·rw[List.mem_singleton]at hz;subst hz;exact⟨hdat hd.1,hd.2⟩
  ·have:=h.dat x (by simp[hx]) z hz;exact⟨hdat this.1,this.2⟩
 ·have hp:=List.pairwise_append.1 h.apart;have hc:=List.pairwise_cons.1 hp.2.1;have hlow: ∀x,x∈A\/x∈B-> ∀i,x.val.ownBlock=some i->i<w.heap.size:=by
   intro x hx i hi;have hx2:x∈A++g::B:=by rcases hx with hx | hx<;> simp[hx]
   exact((h.own x hx2).lt i hi).2
  refine List.pairwise_append.2 ⟨hp.1,List.pairwise_cons.2 ⟨fun x hx i hi e=> ?_,hc.2⟩,fun x hx z hz i hi e=> ?_⟩
  ·rcases hpl i hi with h2 | h2
   ·exact hc.1 x hx i h2 e
   ·have:=hlow x (.inr hx) i e;omega
  ·rcases List.mem_cons.1 hz with hz | hz
   ·subst hz
    rcases hpl i e with h2 | h2
    ·exact hoth x (.inl hx) i hi h2
    ·have:=hlow x (.inl hx) i hi;omega
   ·exact hp.2.2 x hx z (by simp[hz]) i hi e
 ·simp only[List.mem_append,List.mem_cons]at hx
  rcases hx with hx | hx | hx
  ·exact h.key x (by simp[hx])
  ·subst hx;exact h.key g (by simp)
  ·exact h.key x (by simp[hx])
theorem jH.new (h:jH w base im G) (hb:base<=im) (hq:q.size<=maxLen) (hd:bH (· <base) w y.1 y.2.data/\gS y.2) (hown:w1.ownsRow base 79 6 v' 1 (oX y.1 y.2)) (hg:w.grownBy w1 none) (hpl: ∀i,v'.ownBlock=some i->w.heap.size<=i)
  (hm:cT Tryz.prog 9 w2 im (G.map gC++[(.string q,v')])) (hg2:w1.grownBy w2 (some im)):jH w2 base im (G++[⟨q,v',[y]⟩]):=by
 have hmc: ∀ {u:Value} {n:Nat} {xs:List Value} {t:TypeId} {sz:Nat},w1.ownsRow base t sz u n xs->w2.ownsRow base t sz u n xs:=fun {u n xs t sz} hr=>by
  refine hr.kept hg2 (.inr (fun e=> ?_));obtain⟨cs,hc⟩:=az hr e;have h0:=h.map.lt;have hi:w1.heap[im]? =w.heap[im]? :=hg.block im h0 (by simp);exact h.map.ncells (hi.symm.trans hc)
 have hdat: ∀ {u:Value} {bs:List UInt8},bH (· <base) w u bs->bH (· <base) w2 u bs:=fun {u bs} hu=>by
  have h0:=h.map.lt;refine aS.same hu (fun i hi=>(hg2.block i ?_ ?_).trans (hg.block i ?_ (by simp)))
  ·have:=hg.size;omega
  ·intro e;have:i=im:=by simpa using e
   omega
  ·skip
   omega
 refine⟨by simpa [gC]using hm,fun x hx=> ?_,fun x hx z hz=> ?_,List.pairwise_append.2 ⟨h.apart,by simp,fun x hx z hz i hi e=> ?_⟩,fun x hx=> ?_⟩
 ·rcases List.mem_append.1 hx with hx | hx
  ·exact hmc ((h.own x hx).kept hg (by cases hv:x.val.ownBlock<;> simp))
  ·rw[List.mem_singleton]at hx;subst hx
   simpa [df]using hmc hown
 ·rcases List.mem_append.1 hx with hx | hx
  ·have:=h.dat x hx z hz;exact⟨hdat this.1,this.2⟩
  ·rw[List.mem_singleton]at hx;subst hx;simp only[List.mem_singleton]at hz;subst hz;exact⟨hdat hd.1,hd.2⟩
 ·rw[List.mem_singleton]at hz;subst hz;have h1:=hpl i e;have h2:=((h.own x hx).lt i hi).2;omega
 ·rcases List.mem_append.1 hx with hx | hx
  ·exact h.key x hx
  ·rw[List.mem_singleton]at hx;subst hx;exact hq
end
def zt (k:bI) (gs:List (ByteArray×Int)) (c:dN) (tree:List bD):List aG:=
 (tree.flatMap fun e=>(fG c e.data).map (be k gs))++(List.range 515).flatMap fun n=>(⟨#[]⟩::tree.map bD.path).flatMap fun d=>match cE k gs c tree n d with
  | .ok p=>[be k gs p.1]
  | .error _=>[]
theorem yu {k:bI} {gs:List (ByteArray×Int)} {c:dN} {tree:List bD} (hc:iI c=true) (hl:tree.length<=4096) (hv: ∀e∈tree,iJ e=true):(zt k gs c tree).length<=100000000000:=by
 have h1:=fI (fun e:bD=>(fG c e.data).map (be k gs)) 1048576 tree (fun e he=>by
  rw[List.length_map];have:=tf hc e.data;have:=(iR (hv e he)).2.2
  omega)
 have h2:=fI (fun n:Nat=>(⟨#[]⟩::tree.map bD.path).flatMap fun d=>match cE k gs c tree n d with
  | .ok p=>[be k gs p.1]
  | .error _=>[]) 4097 (List.range 515) (fun n _=>by
   have h3:=fI (fun d=>match cE k gs c tree n d with
    | .ok p=>[be k gs p.1]
    | .error _=>[]) 1 (⟨#[]⟩::tree.map bD.path) (fun d _=>by
     cases cE k gs c tree n d<;> simp)
   simp only[List.length_cons,List.length_map]at h3
   omega)
 rw[List.length_range]at h2;have h4:tree.length*1048576<=4096*1048576:=Nat.mul_le_mul_right _ hl;unfold zt;rw[List.length_append];omega
theorem yw {k:bI} {gs:List (ByteArray×Int)} {c:dN} {tree:List bD} : ∀e∈tree,∀y∈fG c e.data,be k gs y∈zt k gs c tree:=fun e he y hy=>
 List.mem_append.2 (.inl (List.mem_flatMap.2 ⟨e,he,List.mem_map.2 ⟨y,hy,rfl⟩⟩))
theorem yx {k:bI} {gs:List (ByteArray×Int)} {c:dN} {tree:List bD} : ∀(n:Nat) (d:ByteArray) (p:List UInt8×List (List UInt8)),n<=514->(d.size=0\/ ∃e∈tree,e.path=d)->cE k gs c tree n d= .ok p->be k gs p.1∈zt k gs c tree:=fun n d p hn hd hp=>by
 refine List.mem_append.2 (.inr (List.mem_flatMap.2 ⟨n,List.mem_range.2 (by omega),List.mem_flatMap.2 ⟨d, ?_, ?_⟩⟩))
 ·rcases hd with hd | ⟨e,he,rfl⟩
  ·have:d=⟨#[]⟩:=by
    apply ft
    exact List.eq_nil_of_length_eq_zero (by rw[<-ay]; exact hd)
   simp[this]
  ·exact List.mem_cons_of_mem _ (List.mem_map.2 ⟨e,he,rfl⟩)
 ·rw[hp]; simp
theorem zE {a:Act} {w:World} {b:Nat} {x0 x1 x2 e9 e10:Value} (h:w.heap[b]? =some (.cells #[x0,x1,x2] 26 (0,0)))
  (h8:a.tmps[8]? =some (.pointer (some ⟨b,0,none⟩))) (h9:a.tmps[9]? =some e9) (h10:a.tmps[10]? =some e10):(results Tryz.f22 a.tmps).run Tryz.prog w= .ok (.tuple #[.agg #[x0,x1,x2],e9,e10]) w:=by
 have m0:=ah (k:=0) h;have m1:=ah (k:=1) h;have m2:=ah (k:=2) h;simp only[aN]at m0 m1 m2;simp[results,Tryz.results22,go_sem,h8,h9,h10,m0,m1,m2]
theorem dU {a:Act} {w:World} {b:Nat} {a0 a1 a2 x0 x1 x2 e9 e10:Value} {Q:Ending->World->Prop} (h:w.heap[b]? =some (.cells #[a0,a1,a2] 26 (0,0)))
  (h8:a.tmps[8]? =some (.pointer (some ⟨b,0,none⟩))) (h9:a.tmps[9]? =some e9) (h10:a.tmps[10]? =some e10) (hd:a.defers=[])
  (hQ:Q (.returned (.tuple #[.agg #[x0,x1,x2],e9,e10])) (((w.setCell ⟨b,0,none⟩ x0).setCell ⟨b,1,none⟩ x1).setCell ⟨b,2,none⟩ x2)):
  bodyPost Tryz.prog Tryz.f22 Q Exit.ret a (((w.setCell ⟨b,0,none⟩ x0).setCell ⟨b,1,none⟩ x1).setCell ⟨b,2,none⟩ x2):=bodyPost_ret (zE (Dv h) h8 h9 h10) hd hQ
def tY (res:Except Int (aG×List bM)) (w:World) (e:Ending) (w':World):Prop:=Below w.heap.size w w'/\match res with
 | .error x=>e= .returned (.tuple #[.agg #[.string ⟨#[]⟩, .int .i64 0, .int .i64 0], .slice none 0 0, .int .i64 x])/\x≠0
 | .ok p=> ∃v zs,e= .returned (.tuple #[aX p.1,v, .int .i64 0])/\zs.map Prod.snd=p.2/\ed w' w.heap.size v zs
theorem ed.other {w w':World} {base B b:Nat} {v:Value} {zs:List iO} {cs:Array Value} {t:TypeId} {z:Nat×Nat} (h:ed w base v zs) (hb:w.heap[b]? =some (.cells cs t z)) (h1:t≠53) (h2:t≠5) (hB:B<=base) (hs: ∀i,i≠b->w'.heap[i]? =w.heap[i]?):ed w' B v zs:=by
 refine⟨cN (dz h.row (fun i hi hu=>hs i (fun e=> ?_))) hB,fun y hy=>cN (dz (h.dat y hy) (fun i hi hu=>hs i (fun e=> ?_))) hB⟩
 ·subst e;obtain⟨cs2,hc2⟩:=az h.row hu;exact h1 (aO hb hc2)
 ·subst e;obtain⟨cs2,hc2⟩:=az (h.dat y hy) hu;exact h2 (aO hb hc2)
theorem yC (S:Nat->Prop) (L:List bD) (v:Value) (x:Int) (w:World) (hv:dI S w v L) (henv:fE w) (hx:cX L=x):Calls Tryz.prog 71 #[v] w fun e w'=>e= .returned (.int .i64 x)/\Below w.heap.size w w':=by
 rw[<-hx]; exact zH S L v w hv henv
theorem ep.nilKeep {w w':World} {base bb im kb:Nat} {k:bI} {c:dN} {gv:Value} (h:ep w base bb k c gv im kb (.slice none 0 0) []) (hs:w'.heap[bb]? =w.heap[bb]?) (hk:w'.heap[kb]? =w.heap[kb]?):ep w' base bb k c gv im kb (.slice none 0 0) []:=
 ⟨hs.trans h.box,⟨[],rfl,World.ownsRow_nil _ _ _ _,by simp⟩,h.known.same hk⟩
structure BgI (w4 : World) (base bb im kb : Nat) (k : bI) (c : dN) (gv : Value) (T : List bD) (wr : World) (G : List tW) : Prop where
 bd:ep wr base bb k c gv im kb (.slice none 0 0) []
 grp:jH wr base im G
 ents: ∀d,fw G d=ci T d
 below:Below base w4 wr
theorem qZ (S T:Nat->Prop) (k:bI) (c:dN) (tree:List bD) (gs:List (ByteArray×Int)) (tv gv:Value) (w:World) (hsd:c.seed<18446744073709551616) (ht:dI S w tv tree) (hg:iu T w gv gs) (hE:kS w):
  Calls Tryz.prog 22 #[iU k,fH c,tv,gv] w (tY (cW k c tree gs) w):=by
 obtain⟨ta,tc,rfl,htn,htm,-⟩:=aL.shape ht qt.len;unfold maxLen at htm;obtain⟨n,hn⟩: ∃n,n=tree.length:=⟨_,rfl⟩;rw[<-hn]at ht htn ⊢;have HN:=ab hn;have HT:=ab ht;have HG:=ab hg;have HE:=ab hE;obtain⟨W0,hW0⟩: ∃W0,W0=((w.alloc (.cells #[.string k.nm, .string k.st, .string k.ck, .string k.ix, .string k.tk] 42)).alloc (.cells #[.int .i64 c.mn, .int .i64 c.mx, .int .i64 c.win, .int .i64 c.bits, .int .u64 (c.seed:Int)] 45)).alloc (.cells #[.string ⟨#[]⟩, .int .i64 0, .int .i64 0] 26):=⟨_,rfl⟩
 have hb0:Below w.heap.size w W0:=by rw[hW0]; exact(((Below.refl _ _).alloc (Nat.le_refl _) _).alloc (by simp) _).alloc (by simp; omega) _
 have HB0:=ab hb0;have HKX:=ab (show W0.heap[w.heap.size]? =some (.cells #[.string k.nm, .string k.st, .string k.ck, .string k.ix, .string k.tk] 42 (0,0)) by rw[hW0]; exact cH (cH (bZ w _) _) _);have HCX:=ab (show W0.heap[w.heap.size+1]? =some (.cells #[.int .i64 c.mn, .int .i64 c.mx, .int .i64 c.win, .int .i64 c.bits, .int .u64 (c.seed:Int)] 45 (0,0)) by rw[hW0]; exact cH (jY w _ _) _)
 have HRX:=ab (show W0.heap[w.heap.size+2]? =some (.cells #[.string ⟨#[]⟩, .int .i64 0, .int .i64 0] 26 (0,0)) by
  rw[hW0];have:=bZ ((w.alloc (.cells #[.string k.nm, .string k.st, .string k.ck, .string k.ix, .string k.tk] 42)).alloc (.cells #[.int .i64 c.mn, .int .i64 c.mx, .int .i64 c.win, .int .i64 c.bits, .int .u64 (c.seed:Int)] 45)) (.cells #[.string ⟨#[]⟩, .int .i64 0, .int .i64 0] 26);rw[show((w.alloc (.cells #[.string k.nm, .string k.st, .string k.ck, .string k.ix, .string k.tk] 42)).alloc (.cells #[.int .i64 c.mn, .int .i64 c.mx, .int .i64 c.win, .int .i64 c.bits, .int .u64 (c.seed:Int)] 45)).heap.size=w.heap.size+2 by simp]at this
  exact this)
 have hsc:=qL k W0 (hE.below hb0).envh;unfold iU at hsc ⊢;unfold fH;have HSC:=ab hsc;clear ht hg hE hn hb0 hsc
 go_enter Tryz.func22,Tryz.ntmps22
 go_upto_region 1 with(fail)
 rw[<-hW0];clear hW0;have a0:=aa (k:=0) HKX.out;have a1:=aa (k:=1) HKX.out;have a2:=aa (k:=2) HKX.out;have a3:=aa (k:=3) HKX.out;have a4:=aa (k:=4) HKX.out;simp only[aN]at a0 a1 a2 a3 a4
 cases hkv:fP k with
 | false=>
  rw[hkv]at HSC;have HM:=ab (show cW k c tree gs= .error 1 by unfold cW; rw[if_neg (by rw[hkv]; simp)]);clear hkv;go_wp2_with fail;refine HSC.out.mono ?_;rintro e w1 ⟨⟨sv,rfl⟩,hb1⟩;have HB1:=ab (ag HB0.out hb1);have HR1:=ab ((hb1.block _ (lt_of_block HRX.out)).trans HRX.out);clear hb1 a0 a1 a2 a3 a4;have z0:=aa (k:=0) HR1.out;have z1:=aa (k:=1) HR1.out
  have z2:=aa (k:=2) HR1.out;have y0:=ai (k:=0) HR1.out;have y1:=ai (k:=1) HR1.out;have y2:=ai (k:=2) HR1.out;simp only[aN]at z0 z1 z2;go_wp2_with fail;refine dU HR1.out rfl rfl rfl rfl ⟨dm HB1.out (by show w.heap.size<=w.heap.size+2; omega), ?_⟩;rw[HM.out];exact⟨rfl,by decide⟩
 | true=>
  rw[hkv]at HSC;have HKV:=ab hkv;go_wp2_with fail;refine HSC.out.mono ?_;rintro e w1 ⟨⟨sv,rfl⟩,hb1⟩;have HB1:=ab (ag HB0.out hb1);have HW1:=ab hb1;have HR1:=ab ((hb1.block _ (lt_of_block HRX.out)).trans HRX.out);have HK1:=ab ((hb1.block _ (lt_of_block HKX.out)).trans HKX.out);have HC1:=ab ((hb1.block _ (lt_of_block HCX.out)).trans HCX.out);clear hb1 a0 a1 a2 a3 a4;have b0:=aa (k:=0) HC1.out
  have b1:=aa (k:=1) HC1.out;have b2:=aa (k:=2) HC1.out;have b3:=aa (k:=3) HC1.out;have b4:=aa (k:=4) HC1.out;simp only[aN]at b0 b1 b2 b3 b4
  cases hcv:iI c with
  | false=>
   have HCV:=ab hcv;have HM:=ab (show cW k c tree gs= .error 1 by unfold cW; rw[if_neg (by rw[hcv]; simp)]);have hvc:=gW c false w1 hcv;unfold fH at hvc;have HVC:=ab hvc;clear hkv hcv hvc;go_wp2_with fail;refine HVC.out.mono ?_;rintro e w2 ⟨rfl,hb2⟩;have HB2:=ab (ag HB1.out hb2);have HR2:=ab ((hb2.block _ (lt_of_block HR1.out)).trans HR1.out);clear hb2 b0 b1 b2 b3 b4
   have z0:=aa (k:=0) HR2.out;have z1:=aa (k:=1) HR2.out;have z2:=aa (k:=2) HR2.out;have y0:=ai (k:=0) HR2.out;have y1:=ai (k:=1) HR2.out;have y2:=ai (k:=2) HR2.out;simp only[aN]at z0 z1 z2;go_wp2_with fail;refine dU HR2.out rfl rfl rfl rfl ⟨dm HB2.out (by show w.heap.size<=w.heap.size+2; omega), ?_⟩;rw[HM.out];exact⟨rfl,by decide⟩
  | true=>
   have HCV:=ab hcv;have HM0:=ab (show cW k c tree gs=(if(gs.all fun p=>decide (0<=p.2) && decide (p.2<=1099511627776))=true then
    (if cX tree=0 then(match cE k gs c tree 514 ⟨#[]⟩with
     | .error x=> .error x
     | .ok p=> .ok (be k gs p.1,bJ k gs p.2 []))
    else .error (cX tree))else .error 1) by unfold cW; rw[if_pos ⟨hkv,hcv⟩]; rfl)
   have hvc:=gW c true w1 hcv;unfold fH at hvc;have HVC:=ab hvc;clear hkv hcv hvc;go_wp2_with fail;refine HVC.out.mono ?_;rintro e w2 ⟨rfl,hb2⟩;have HB2:=ab (ag HB1.out hb2);have HR2:=ab ((hb2.block _ (lt_of_block HR1.out)).trans HR1.out);have HK2:=ab ((hb2.block _ (lt_of_block HK1.out)).trans HK1.out);have HC2:=ab ((hb2.block _ (lt_of_block HC1.out)).trans HC1.out)
   clear hb2 b0 b1 b2 b3 b4
   rcases HG.out with⟨rfl,hgs⟩ | ⟨gb,rfl,hTg,hgm⟩
   ·have HGS:=ab hgs;have hr:=fun(w:World)=>run_range_nilMap (P:=Tryz.prog) w 47 9 3 Tryz.underlying47
    have hnx:=fun(w:World) (ty:TypeId) (a b:Nat) (s:Array Nat)=>run_next_nilMap (P:=Tryz.prog) w ty a b s
    clear hgs;go_wp2_with fail;obtain⟨W3,hW3⟩: ∃W3:World,W3=w2.alloc (.mapIter none 0 #[] 0):=⟨_,rfl⟩;have hnx2: ∀ty,(Instr.next (.pointer (some ⟨w2.heap.size,0,none⟩)) false ty).run Tryz.prog W3= .ok (.tuple #[.bool false]) W3:=by rw[hW3]; exact fun ty=>hnx w2 ty _ _ _
    have hb3:Below w2.heap.size w2 W3:=by rw[hW3]; exact(Below.refl _ _).alloc (Nat.le_refl _) _
    have HB3:=ab (ag HB2.out hb3);have HR3:=ab ((hb3.block _ (lt_of_block HR2.out)).trans HR2.out);have HK3:=ab ((hb3.block _ (lt_of_block HK2.out)).trans HK2.out);have HC3:=ab ((hb3.block _ (lt_of_block HC2.out)).trans HC2.out);have HALL:=ab (show gs.all (fun p=>decide (0<=p.2) && decide (p.2<=1099511627776))=true by rw[HGS.out]; rfl);rw[<-hW3];clear hr hnx hb3 hW3
    go_loopw [14] (fun _ wr=>wr=W3) (fun _ _=>0)
    case atStart=>rfl
    case round=>
     subst hrel
     go_upto_region 9 with(fail)
     have HM1:=ab (show cW k c tree gs=(if cX tree=0 then(match cE k gs c tree 514 ⟨#[]⟩with
      | .error x=> .error x
      | .ok p=> .ok (be k gs p.1,bJ k gs p.2 []))
     else .error (cX tree)) by rw[HM0.out,if_pos HALL.out])
     have htr:dI S (wr) (.slice ta n tc) tree:=dI.below HT.out HB3.out;have hev:=HE.out.below HB3.out;obtain⟨x,hx⟩: ∃x,cX tree=x:=⟨_,rfl⟩;have hck:=yC S tree (.slice ta n tc) x (wr) htr hev.env hx;have HCK:=ab hck;have HCX2:=ab hx;clear htr hev hck hx;go_wp2_with fail;refine HCK.out.mono ?_;rintro e w4 ⟨rfl,hb4⟩;have HB4:=ab (ag HB3.out hb4);have HR4:=ab ((hb4.block _ (lt_of_block HR3.out)).trans HR3.out)
     have HK4:=ab ((hb4.block _ (lt_of_block HK3.out)).trans HK3.out);have HC4:=ab ((hb4.block _ (lt_of_block HC3.out)).trans HC3.out);clear hb4
     by_cases hx0:x=0
     ·have e1:(x != 0)=false:=by simp[hx0]
      have HTO:=ab (oF.1 (HCX2.out.trans hx0));have HM2:=ab (show cW k c tree gs=(match cE k gs c tree 514 ⟨#[]⟩with
       | .error x=> .error x
       | .ok p=> .ok (be k gs p.1,bJ k gs p.2 [])) by rw[HM1.out,if_pos (HCX2.out.trans hx0)])
      clear hx0;have a0:=aa (k:=0) HK4.out;have a1:=aa (k:=1) HK4.out;have a2:=aa (k:=2) HK4.out;have a3:=aa (k:=3) HK4.out;have a4:=aa (k:=4) HK4.out;have b0:=aa (k:=0) HC4.out;have b1:=aa (k:=1) HC4.out;have b2:=aa (k:=2) HC4.out;have b3:=aa (k:=3) HC4.out;have b4:=aa (k:=4) HC4.out;simp only[aN]at a0 a1 a2 a3 a4 b0 b1 b2 b3 b4
      have hmm:= @run_makeMap Tryz.prog
      go_upto_region 13 with(fail)
      obtain⟨W5,hW5⟩: ∃W5:World,W5=((w4.alloc (.map #[] 0)).alloc (.map #[] 0)).alloc (.cells #[.string k.nm, .string k.st, .string k.ck, .string k.ix, .string k.tk, .int .i64 c.mn, .int .i64 c.mx, .int .i64 c.win, .int .i64 c.bits, .int .u64 (c.seed:Int), .map none, .map (some w4.heap.size), .slice none 0 0, .map (some (w4.heap.size+1))] 122):=⟨_,rfl⟩;rw[<-hW5];obtain⟨base,hbase⟩: ∃base,base=w4.heap.size:=⟨_,rfl⟩
      rw[<-hbase]at hW5 ⊢;have HBS:=ab hbase;have hbgi:BgI w4 base (base+1+1) base (base+1) k c (.map none) [] W5 []:=by
       have e1:(w4.alloc (.map #[] 0)).heap.size=base+1:=by simp[hbase]
       have e2:((w4.alloc (.map #[] 0)).alloc (.map #[] 0)).heap.size=base+1+1:=by simp[hbase]
       have h1:=cT.made (P:=Tryz.prog) (k:=9) w4;have h2:=cb.made (w4.alloc (.map #[] 0));rw[e1]at h2;rw[<-hbase]at h1;have h3:=bZ ((w4.alloc (.map #[] 0)).alloc (.map #[] 0)) (.cells #[.string k.nm, .string k.st, .string k.ck, .string k.ix, .string k.tk, .int .i64 c.mn, .int .i64 c.mx, .int .i64 c.win, .int .i64 c.bits, .int .u64 (c.seed:Int), .map none, .map (some base), .slice none 0 0, .map (some (base+1))] 122)
       rw[e2]at h3;have hs1:W5.heap[base]? =(w4.alloc (.map #[] 0)).heap[base]? :=by rw[hW5]; exact(Below.heap_alloc _ _ _ (by rw[e2]; omega)).trans (Below.heap_alloc _ _ _ (by rw[e1]; omega))
       have hs2:W5.heap[base+1]? =((w4.alloc (.map #[] 0)).alloc (.map #[] 0)).heap[base+1]? :=by rw[hW5]; exact Below.heap_alloc _ _ _ (by rw[e2]; omega)
       refine⟨⟨by rw[hW5]; exact h3,⟨[],rfl,World.ownsRow_nil _ _ _ _,by simp⟩,h2.same hs2⟩,⟨h1.same hs1,by simp,by simp,List.Pairwise.nil,by simp⟩,fun d=>rfl, ?_⟩;rw[hW5,hbase];exact(((Below.refl _ _).alloc (Nat.le_refl _) _).alloc (by simp) _).alloc (by simp; omega) _
      have HBG:=ab hbgi;have hne2:w.heap.size+2<base:=by have:=lt_of_block HR4.out; omega
      have hwb:w.heap.size<=base:=by omega
      clear hW5 a0 a1 a2 a3 a4 b0 b1 b2 b3 b4 hmm hbase hbgi;go_wp2_with fail
      go_loopw [64] (fun i wr=> ∃(j:Nat) (G:List tW),j<=n/\i= .int .i64 (j:Int)/\BgI w4 base (base+1+1) base (base+1) k c (.map none) (tree.take j) wr G) (fun i _=>n-(intOf i).toNat)
      case atStart=>exact⟨0,[],Nat.zero_le _,rfl,HBG.out⟩
      case round=>
       obtain⟨j,G,hj,rfl,hin⟩:=hrel;rename_i wq;have HIN:=ab hin;clear hin HBG
       by_cases hlt:j<n
       ·obtain⟨e,he⟩: ∃e,tree[j]? =some e:=⟨tree[j]'(by rw[<-HN.out]; exact hlt),by simp⟩;have hbw:Below w.heap.size w wr:=HB4.out.trans (HIN.out.below.mono hwb);obtain⟨b,o,dv,rfl,-,-,hdd,heok,-,p0,p1,p2,p3,p4,p5⟩:=ku (dI.below HT.out hbw) he;obtain⟨da,dc,rfl,-,-⟩:=bH.slice hdd;have HDY:=ab (show bH (· <base) wr (.slice da e.data.length dc) e.data/\gS e from by
         obtain⟨b9,o9,dv9,he9,_,_,hd9,_,_,_,_,_,_,hp9,_⟩:=ku HT.out he
         cases he9
         have hq:=(hbw.cell (p:=⟨b,o+j*6+4,none⟩) (aR (a:=⟨b,o+j*6+4,none⟩) hp9)).trans hp9;rw[p4]at hq
         cases hq
         have hd0:=aS.lt' hd9 (by decide);exact⟨aS.same (aS.weak (T:=(· <w.heap.size)) hd0 (fun _ h=>h)) (fun i hi=>hbw.block i hi) |> fun h=>aS.weak h (fun i hi=>Nat.lt_of_lt_of_le hi hwb),heok⟩)
        have hval:=HTO.out.val e (List.mem_of_getElem? he);have hep:=bQ hval;have hes:e.path.size<=512:=(iR hval).1;obtain⟨q,hq⟩: ∃q:ByteArray,q=⟨(aT (bl e.path)).toArray⟩:=⟨_,rfl⟩;have HQ:=ab hq;have hqs:q.size<=maxLen:=by
         have h1:=lq (l:=bl e.path) (fun h=>by have:=jy hep; rw[h]at this; simp at this);rw[hq,ay,ff];rw[<-ay e.path]at h1;unfold maxLen;omega
        have HEA:=ab he;have hpc:=fun W hE=>eO e.path q W hE hep hq
        have HPC:=ab hpc;have hbz:base<=wr.heap.size:=by have h1:=HIN.out.grp.map.lt; omega
        have h7:7<=base:=Nat.le_trans HE.out.seven hwb;clear hval hep hq hdd heok he hpc
        go_upto_region 16 with(fail)
        obtain⟨W6,hW6⟩: ∃W6:World,W6=wr.alloc (.cells #[.string e.path, .int .i64 e.kind, .int .i64 e.mode, .int .i64 e.time, .slice da e.data.length dc, .string e.link] 79):=⟨_,rfl⟩;rw[<-hW6];have hb6:Below wr.heap.size wr W6:=by rw[hW6]; exact(Below.refl _ _).alloc (Nat.le_refl _) _
        have HB6:=ab hb6;have HX6:=ab (show W6.heap[wr.heap.size]? =some (.cells #[.string e.path, .int .i64 e.kind, .int .i64 e.mode, .int .i64 e.time, .slice da e.data.length dc, .string e.link] 79 (0,0)) by rw[hW6]; exact bZ wr _);have HE6:=ab (HE.out.keep (HB4.out.trans ((HIN.out.below.mono hwb).trans (hb6.mono (Nat.le_trans hwb hbz)))) HE.out.seven);clear hW6 hb6 p0 p1 p2 p3 p4 p5
        have d0:=aa (k:=0) HX6.out;have d1:=aa (k:=1) HX6.out;have d2:=aa (k:=2) HX6.out;have d3:=aa (k:=3) HX6.out;have d4:=aa (k:=4) HX6.out;have d5:=aa (k:=5) HX6.out;simp only[aN]at d0 d1 d2 d3 d4 d5;go_wp2_with fail;refine(HPC.out W6 HE6.out.env).mono ?_;rintro e' w7 ⟨rfl,hb7⟩;have HX7:=ab ((hb7.block _ (lt_of_block HX6.out)).trans HX6.out)
        have HB7:=ab (ag HB6.out hb7);clear hb7 d0 d1 d2 d3 d4 d5;go_wp2_with fail;obtain⟨W8,hW8⟩: ∃W8:World,W8=w7.drew:=⟨_,rfl⟩;have hb8:Below w7.heap.size w7 W8:=by rw[hW8]; exact(Below.refl _ _).drew
        have HB8:=ab (ag HB7.out hb8);have HX8:=ab ((hb8.block _ (lt_of_block HX7.out)).trans HX7.out);have hkp8:=cZ.ofBelow (bb:=base+1+1) (kb:=base+1) (v:= .slice none 0 0) HB8.out hbz;have HBD8:=ab (HIN.out.bd.below HB8.out);have HGR8:=ab (HIN.out.grp.keep HIN.out.bd hkp8 (by omega));have HBX8:=ab HBD8.out.box;have hltx:wr.heap.size<W8.heap.size:=lt_of_block HX8.out
        have HDY8:=ab (show bH (· <base) W8 (.slice da e.data.length dc) e.data/\gS e from⟨jm HDY.out.1 (HB8.out.mono hbz),HDY.out.2⟩);have ht:Tryz.prog.underlying 119=some (.map 9 46):=Tryz.underlying119;have HTY:=ab ht;clear ht hb8 hkp8;have k0:=aa (k:=0) HBX8.out;have k1:=aa (k:=1) HBX8.out;have k2:=aa (k:=2) HBX8.out;have k3:=aa (k:=3) HBX8.out
        have k4:=aa (k:=4) HBX8.out;have k10:=aa (k:=10) HBX8.out;have k11:=aa (k:=11) HBX8.out;have k12:=aa (k:=12) HBX8.out;have k13:=aa (k:=13) HBX8.out;simp only[fZ,dh,dA,List.cons_append,List.nil_append,aN]at k0 k1 k2 k3 k4 k10 k11 k12 k13;clear k0 k1 k2 k3 k4 k10 k12 k13;have d0:=aa (k:=0) HX8.out;have d1:=aa (k:=1) HX8.out
        have d2:=aa (k:=2) HX8.out;have d3:=aa (k:=3) HX8.out;have d4:=aa (k:=4) HX8.out;have d5:=aa (k:=5) HX8.out;simp only[aN]at d0 d1 d2 d3 d4 d5
        cases hf:G.find? (fun g=>decide (g.dir=q))with
        | none=>
         have HF:=ab hf;clear hf;have hnew: ∀p∈G.map gC,p.1≠Value.string q:=by
          intro p hp e9;obtain⟨g9,hg9,rfl⟩:=List.mem_map.1 hp;simp only[gC,Value.string.injEq]at e9;have:=List.find?_eq_none.1 HF.out g9 hg9;simp[e9]at this
         have HNEW:=ab hnew;have HLK:=ab (show ∀W:World,W.heap[base]? =W8.heap[base]? ->(Instr.lookup 119 (.map (some base)) (.string q) false).run Tryz.prog W= .ok (.slice none 0 0) W from fun W hW=>by
          have:=(HGR8.out.map.same hW).is.miss bS HTY.out (show(zeroValue 46).run Tryz.prog W= .ok (.slice none 0 0) W by kernel_rfl) (cF hqs) HNEW.out false
          simpa using this)
         clear hnew;have HNE:=ab (show(Value.slice none 0 0).ownBlock≠some (base+1+1)/\(Value.slice none 0 0).ownBlock≠some wr.heap.size/\(Value.slice none 0 0).ownBlock≠some base from⟨by simp[Value.ownBlock],by simp[Value.ownBlock],by simp[Value.ownBlock]⟩);have HNK:=ab (show(Value.slice none 0 0).ownBlock≠some (base+1) by simp[Value.ownBlock]);have HLOW:=ab (show ∀i,(Value.slice none 0 0).ownBlock=some i->base<=i from fun i hi=>by simp[Value.ownBlock]at hi)
         have HLNB:=ab (show(0:Nat)<1099511627775 by decide);have hlk:=HLK.out W8 rfl;refine bP (fun w'=>w'.cell? ⟨base+1+1,11,none⟩=some (.map (some base))/\(Instr.lookup 119 (.map (some base)) (.string (q)) false).run Tryz.prog w'= .ok (.slice none 0 0) w'/\w'.cell? ⟨wr.heap.size,0,none⟩=some (.string e.path)/\w'.cell? ⟨wr.heap.size,1,none⟩=some (.int .i64 e.kind)/\w'.cell? ⟨wr.heap.size,2,none⟩=some (.int .i64 e.mode)/\w'.cell? ⟨wr.heap.size,3,none⟩=some (.int .i64 e.time)/\w'.cell? ⟨wr.heap.size,4,none⟩=some (.slice da e.data.length dc)/\w'.cell? ⟨wr.heap.size,5,none⟩=some (.string e.link)) (by kernel_rfl) (by kernel_rfl) ?_
         simp only[List.dropLast_cons_cons,List.dropLast_singleton,List.length_cons,List.length_nil,Nat.reduceAdd,Nat.reduceSub];rw[<-hW8];clear hW8;refine af 0 rfl (by kernel_rfl) (by kernel_rfl) (by kernel_rfl) (fun _ _ _ h=>h) rfl ⟨k11,hlk,d0,d1,d2,d3,d4,d5⟩ (by rintro w' ⟨hw1,hw2,hw3,hw4,hw5,hw6,hw7,hw8⟩; go_simp; rfl) ?_;simp only[Act.put,aA,aB,aC];refine af 1 rfl (by kernel_rfl) (by kernel_rfl) (by kernel_rfl) (fun _ _ _ h=>h) rfl ⟨k11,hlk,d0,d1,d2,d3,d4,d5⟩ (by rintro w' ⟨hw1,hw2,hw3,hw4,hw5,hw6,hw7,hw8⟩; go_simp; rfl) ?_
         simp only[Act.put,aA,aB,aC];refine af 2 rfl (by kernel_rfl) (by kernel_rfl) (by kernel_rfl) (fun _ _ _ h=>h) rfl ⟨k11,hlk,d0,d1,d2,d3,d4,d5⟩ (by rintro w' ⟨hw1,hw2,hw3,hw4,hw5,hw6,hw7,hw8⟩; go_simp; rfl) ?_;simp only[Act.put,aA,aB,aC];refine af 3 rfl (by kernel_rfl) (by kernel_rfl) (by kernel_rfl) (fun _ _ _ h=>h) rfl ⟨k11,hlk,d0,d1,d2,d3,d4,d5⟩ (by rintro w' ⟨hw1,hw2,hw3,hw4,hw5,hw6,hw7,hw8⟩; go_simp; rfl) ?_
         simp only[Act.put,aA,aB,aC];refine af 4 rfl (by kernel_rfl) (by kernel_rfl) (by kernel_rfl) (fun _ _ _ h=>h) rfl ⟨k11,hlk,d0,d1,d2,d3,d4,d5⟩ (by rintro w' ⟨hw1,hw2,hw3,hw4,hw5,hw6,hw7,hw8⟩; go_simp; rfl) ?_;simp only[Act.put,aA,aB,aC];refine af 5 rfl (by kernel_rfl) (by kernel_rfl) (by kernel_rfl) (fun _ _ _ h=>h) rfl ⟨k11,hlk,d0,d1,d2,d3,d4,d5⟩ (by rintro w' ⟨hw1,hw2,hw3,hw4,hw5,hw6,hw7,hw8⟩; go_simp; rfl) ?_
         simp only[Act.put,aA,aB,aC];refine af 6 rfl (by kernel_rfl) (by kernel_rfl) (by kernel_rfl) (fun _ _ _ h=>h) rfl ⟨k11,hlk,d0,d1,d2,d3,d4,d5⟩ (by rintro w' ⟨hw1,hw2,hw3,hw4,hw5,hw6,hw7,hw8⟩; go_simp; rfl) ?_;simp only[Act.put,aA,aB,aC];refine af 7 rfl (by kernel_rfl) (by kernel_rfl) (by kernel_rfl) (fun _ _ _ h=>h) rfl ⟨k11,hlk,d0,d1,d2,d3,d4,d5⟩ (by rintro w' ⟨hw1,hw2,hw3,hw4,hw5,hw6,hw7,hw8⟩; go_simp; rfl) ?_
         simp only[Act.put,aA,aB,aC];refine af 8 rfl (by kernel_rfl) (by kernel_rfl) (by kernel_rfl) (fun _ _ _ h=>h) rfl ⟨k11,hlk,d0,d1,d2,d3,d4,d5⟩ (by rintro w' ⟨hw1,hw2,hw3,hw4,hw5,hw6,hw7,hw8⟩; go_simp; rfl) ?_;simp only[Act.put,aA,aB,aC];refine af 9 rfl (by kernel_rfl) (by kernel_rfl) (by kernel_rfl) (fun _ _ _ h=>h) rfl ⟨k11,hlk,d0,d1,d2,d3,d4,d5⟩ (by rintro w' ⟨hw1,hw2,hw3,hw4,hw5,hw6,hw7,hw8⟩; go_simp; rfl) ?_
         simp only[Act.put,aA,aB,aC];refine af 10 rfl (by kernel_rfl) (by kernel_rfl) (by kernel_rfl) (fun _ _ _ h=>h) rfl ⟨k11,hlk,d0,d1,d2,d3,d4,d5⟩ (by rintro w' ⟨hw1,hw2,hw3,hw4,hw5,hw6,hw7,hw8⟩; go_simp; rfl) ?_;simp only[Act.put,aA,aB,aC];refine af 11 rfl (by kernel_rfl) (by kernel_rfl) (by kernel_rfl) (fun _ _ _ h=>h) rfl ⟨k11,hlk,d0,d1,d2,d3,d4,d5⟩ (by rintro w' ⟨hw1,hw2,hw3,hw4,hw5,hw6,hw7,hw8⟩; go_simp; rfl) ?_
         simp only[Act.put,aA,aB,aC];have HAL:=ab ((Below.refl W8.heap.size W8).alloc (Nat.le_refl _) (.cells #[.string e.path, .int .i64 e.kind, .int .i64 e.mode, .int .i64 e.time, .slice da e.data.length dc, .string e.link] 79));have hltb:base+1+1<W8.heap.size:=lt_of_block HBX8.out;have hS2:=And.intro ((HAL.out.cell (p:=⟨base+1+1,11,none⟩) hltb).trans k11) (And.intro (HLK.out _ (HAL.out.block base (by omega))) (And.intro ((HAL.out.cell (p:=⟨wr.heap.size,0,none⟩) hltx).trans d0) (And.intro ((HAL.out.cell (p:=⟨wr.heap.size,1,none⟩) hltx).trans d1) (And.intro ((HAL.out.cell (p:=⟨wr.heap.size,2,none⟩) hltx).trans d2) (And.intro ((HAL.out.cell (p:=⟨wr.heap.size,3,none⟩) hltx).trans d3) (And.intro ((HAL.out.cell (p:=⟨wr.heap.size,4,none⟩) hltx).trans d4) ((HAL.out.cell (p:=⟨wr.heap.size,5,none⟩) hltx).trans d5)))))))
         have HS2:=ab hS2;clear hS2;refine ar 12 rfl (by kernel_rfl) rfl (fun K hK=> ?_);go_wp2_with fail
         (first | (refine⟨HS2.out, ?_⟩) | skip)
         refine ar 13 rfl (by kernel_rfl) rfl (fun K hK=> ?_);have hz8:base<=W8.heap.size:=by omega
         go_wp2_with (at_builtin; go_must (refine aK Tryz.appEnts rfl _ _ rfl base (.slice none 0 0) (0) ([]) rfl W8 [.string e.path, .int .i64 e.kind, .int .i64 e.mode, .int .i64 e.time, .slice da e.data.length dc, .string e.link] _ rfl rfl (eJ (e:=e)) ((World.ownsRow_nil _ _ _ _)) HLNB.out hz8 ?_); intro v' wc hown' hgrow' _ hpl; obtain⟨ae,ce,rfl,-,-⟩:=aj hown');have hbxc:=(hgrow'.block (base+1+1) hltb (fun e9=>HNE.out.1 e9.symm)).trans HBX8.out
         have hxc:=(hgrow'.block wr.heap.size hltx (fun e9=>HNE.out.2.1 e9.symm)).trans HX8.out;have hmc:=hgrow'.block base (by omega) (fun e9=>HNE.out.2.2 e9.symm);have hlkc:=HLK.out wc hmc;have HBXC:=ab hbxc;have HXC:=ab hxc;have HMC:=ab hmc;have HOWC:=ab hown';have HGRC:=ab hgrow';have HPLC:=ab hpl;clear hbxc hxc hmc hown' hgrow' hpl hlk k11 d0 d1 d2 d3 d4 d5;have d0:=aa (k:=0) HXC.out
         have d1:=aa (k:=1) HXC.out;have d2:=aa (k:=2) HXC.out;have d3:=aa (k:=3) HXC.out;have d4:=aa (k:=4) HXC.out;have d5:=aa (k:=5) HXC.out;simp only[aN]at d0 d1 d2 d3 d4 d5;have k11:=aa (k:=11) HBXC.out;simp only[fZ,dh,dA,List.cons_append,List.nil_append,aN]at k11;refine⟨⟨k11,hlkc,d0,d1,d2,d3,d4,d5⟩, ?_⟩;refine aV (by kernel_rfl) ?_
         refine bX rfl rfl (fun K hK=> ?_);clear k11 hlkc d0 d1 d2 d3 d4 d5;have HMS:=ab (HGR8.out.map.same HMC.out);go_wp2_with (at_mapUpdate; go_must (refine eo bS rfl _ _ _ _ rfl HTY.out base (G.map gC) HMS.out rfl (.string q) (.slice ae (0+1) ce) rfl rfl (cF hqs) HNEW.out ?_); intro w10 hm10 hg10);have HG10:=ab hg10;have HGRN:=ab (HGR8.out.new (Nat.le_refl _) hqs (y:=(.slice da e.data.length dc,e)) HDY8.out HOWC.out HGRC.out (fun i hi=>by
          rcases HPLC.out i hi with h9 | h9
          ·simp[Value.ownBlock]at h9
          ·exact h9) hm10 hg10)
         clear hm10 hg10;have hb10:=HIN.out.below.trans ((HB8.out.mono hbz).trans (((Below.refl base W8).grown HGRC.out hz8 (fun i hi=>HLOW.out i hi)).grown HG10.out (Nat.le_trans hz8 HGRC.out.size) (fun i hi=>by cases hi; exact Nat.le_refl _)));have hbd10:=HBD8.out.nilKeep (w':=w10) ((HG10.out.block _ (Nat.lt_of_lt_of_le hltb HGRC.out.size) (fun e9=>by have:=Option.some.inj e9; omega)).trans (HBXC.out.trans HBX8.out.symm)) ((HG10.out.block _ (Nat.lt_of_lt_of_le HBD8.out.known.map.lt HGRC.out.size) (fun e9=>by have:=Option.some.inj e9; omega)).trans (HGRC.out.block _ HBD8.out.known.map.lt (fun e9=>HNK.out e9.symm)))
         go_roundw
         case rel=>
          refine⟨j+1,(G++[⟨q, .slice ae (0+1) ce,[(.slice da e.data.length dc,e)]⟩]),by omega,by go_num,⟨hbd10,HGRN.out,fun d=> ?_,hb10⟩⟩;rw[ii HEA.out];rw[oZ (g:=⟨q, .slice ae (0+1) ce,[(.slice da e.data.length dc,e)]⟩) HF.out]
          by_cases hqd:q=d
          ·rw[if_pos hqd,if_pos (show aT (bl e.path)=bl d by rw[<-hqd,HQ.out]; exact(ff _).symm),<-HIN.out.ents d,<-hqd,nf HF.out]
           rfl
          ·rw[if_neg hqd,if_neg (fun h9=>hqd (ft (by rw[HQ.out]; exact(ff _).trans h9))),List.append_nil];exact HIN.out.ents d
         case measure=>simp[intOf]; omega
        | some g=>
         obtain⟨A,B,hAB,hgd,hA⟩: ∃A B,G=A++g::B/\g.dir=q/\ ∀x∈A,x.dir≠q:=by
          have h9:=List.find?_eq_some_iff_append.1 hf;obtain⟨h1,A,B,h2,h3⟩:=h9;exact⟨A,B,h2,by simpa using h1,fun x hx=>by simpa using h3 x hx⟩
         have hent:=gX hf;subst hgd;subst hAB;have HENT:=ab hent;have HA:=ab hA;have hgo:=HGR8.out.own g (by simp);have hgo0:=HIN.out.grp.own g (by simp);obtain⟨ga,gc,hgv,hgn,-⟩:=aj hgo;have hgl:g.ents.length<=4096:=by
          have h1:=HIN.out.ents g.dir;rw[hent]at h1;have h2:=congrArg List.length h1;rw[List.length_map]at h2;rw[h2];have h3:(ci (tree.take j) g.dir).length<=(tree.take j).length:=List.length_filter_le _ _;rw[List.length_take]at h3;have h4:=HTO.out.len;omega
         obtain⟨gl,hgl2⟩: ∃gl,gl=g.ents.length:=⟨_,rfl⟩;have HGL:=ab hgl2;rw[<-hgl2]at hgv hgl;have HLNB:=ab (show gl<1099511627775 by omega);have HGO:=ab (show W8.ownsRow base 79 6 (.slice ga gl gc) gl (df g.ents) by rw[<-hgv,hgl2]; exact hgo);have HGV:=ab hgv;have HNE:=ab (show(Value.slice ga gl gc).ownBlock≠some (base+1+1)/\(Value.slice ga gl gc).ownBlock≠some wr.heap.size/\(Value.slice ga gl gc).ownBlock≠some base from by
          rw[<-hgv];refine⟨fun e9=> ?_,fun e9=> ?_,fun e9=> ?_⟩
          ·obtain⟨cs2,hc2⟩:=az hgo e9;exact absurd (aO HBX8.out hc2) (by decide)
          ·have:=(hgo0.lt _ e9).2;omega
          ·obtain⟨cs2,hc2⟩:=az hgo e9;exact HGR8.out.map.ncells hc2)
         have HNK:=ab (show(Value.slice ga gl gc).ownBlock≠some (base+1)from by
          rw[<-hgv];intro e9;obtain⟨cs2,hc2⟩:=az hgo e9;exact HBD8.out.known.cells hc2)
         have HLOW:=ab (show ∀i,(Value.slice ga gl gc).ownBlock=some i->base<=i from fun i hi=>by
          rw[<-hgv]at hi;exact(hgo.lt i hi).1)
         have HLK:=ab (show ∀W:World,W.heap[base]? =W8.heap[base]? ->(Instr.lookup 119 (.map (some base)) (.string g.dir) false).run Tryz.prog W= .ok (.slice ga gl gc) W from fun W hW=>by
          have:=(HGR8.out.map.same hW).is.hit bS HTY.out (cF hqs) (val:=g.val) (List.mem_map.2 ⟨g,by simp,rfl⟩) false;rw[hgv]at this
          simpa using this)
         clear hf hent hA hgo hgo0 hgv hgl2;have hlk:=HLK.out W8 rfl;refine bP (fun w'=>w'.cell? ⟨base+1+1,11,none⟩=some (.map (some base))/\(Instr.lookup 119 (.map (some base)) (.string (g.dir)) false).run Tryz.prog w'= .ok (.slice ga gl gc) w'/\w'.cell? ⟨wr.heap.size,0,none⟩=some (.string e.path)/\w'.cell? ⟨wr.heap.size,1,none⟩=some (.int .i64 e.kind)/\w'.cell? ⟨wr.heap.size,2,none⟩=some (.int .i64 e.mode)/\w'.cell? ⟨wr.heap.size,3,none⟩=some (.int .i64 e.time)/\w'.cell? ⟨wr.heap.size,4,none⟩=some (.slice da e.data.length dc)/\w'.cell? ⟨wr.heap.size,5,none⟩=some (.string e.link)) (by kernel_rfl) (by kernel_rfl) ?_
         simp only[List.dropLast_cons_cons,List.dropLast_singleton,List.length_cons,List.length_nil,Nat.reduceAdd,Nat.reduceSub];rw[<-hW8];clear hW8;refine af 0 rfl (by kernel_rfl) (by kernel_rfl) (by kernel_rfl) (fun _ _ _ h=>h) rfl ⟨k11,hlk,d0,d1,d2,d3,d4,d5⟩ (by rintro w' ⟨hw1,hw2,hw3,hw4,hw5,hw6,hw7,hw8⟩; go_simp; rfl) ?_;simp only[Act.put,aA,aB,aC];refine af 1 rfl (by kernel_rfl) (by kernel_rfl) (by kernel_rfl) (fun _ _ _ h=>h) rfl ⟨k11,hlk,d0,d1,d2,d3,d4,d5⟩ (by rintro w' ⟨hw1,hw2,hw3,hw4,hw5,hw6,hw7,hw8⟩; go_simp; rfl) ?_
         simp only[Act.put,aA,aB,aC];refine af 2 rfl (by kernel_rfl) (by kernel_rfl) (by kernel_rfl) (fun _ _ _ h=>h) rfl ⟨k11,hlk,d0,d1,d2,d3,d4,d5⟩ (by rintro w' ⟨hw1,hw2,hw3,hw4,hw5,hw6,hw7,hw8⟩; go_simp; rfl) ?_;simp only[Act.put,aA,aB,aC];refine af 3 rfl (by kernel_rfl) (by kernel_rfl) (by kernel_rfl) (fun _ _ _ h=>h) rfl ⟨k11,hlk,d0,d1,d2,d3,d4,d5⟩ (by rintro w' ⟨hw1,hw2,hw3,hw4,hw5,hw6,hw7,hw8⟩; go_simp; rfl) ?_
         simp only[Act.put,aA,aB,aC];refine af 4 rfl (by kernel_rfl) (by kernel_rfl) (by kernel_rfl) (fun _ _ _ h=>h) rfl ⟨k11,hlk,d0,d1,d2,d3,d4,d5⟩ (by rintro w' ⟨hw1,hw2,hw3,hw4,hw5,hw6,hw7,hw8⟩; go_simp; rfl) ?_;simp only[Act.put,aA,aB,aC];refine af 5 rfl (by kernel_rfl) (by kernel_rfl) (by kernel_rfl) (fun _ _ _ h=>h) rfl ⟨k11,hlk,d0,d1,d2,d3,d4,d5⟩ (by rintro w' ⟨hw1,hw2,hw3,hw4,hw5,hw6,hw7,hw8⟩; go_simp; rfl) ?_
         simp only[Act.put,aA,aB,aC];refine af 6 rfl (by kernel_rfl) (by kernel_rfl) (by kernel_rfl) (fun _ _ _ h=>h) rfl ⟨k11,hlk,d0,d1,d2,d3,d4,d5⟩ (by rintro w' ⟨hw1,hw2,hw3,hw4,hw5,hw6,hw7,hw8⟩; go_simp; rfl) ?_;simp only[Act.put,aA,aB,aC];refine af 7 rfl (by kernel_rfl) (by kernel_rfl) (by kernel_rfl) (fun _ _ _ h=>h) rfl ⟨k11,hlk,d0,d1,d2,d3,d4,d5⟩ (by rintro w' ⟨hw1,hw2,hw3,hw4,hw5,hw6,hw7,hw8⟩; go_simp; rfl) ?_
         simp only[Act.put,aA,aB,aC];refine af 8 rfl (by kernel_rfl) (by kernel_rfl) (by kernel_rfl) (fun _ _ _ h=>h) rfl ⟨k11,hlk,d0,d1,d2,d3,d4,d5⟩ (by rintro w' ⟨hw1,hw2,hw3,hw4,hw5,hw6,hw7,hw8⟩; go_simp; rfl) ?_;simp only[Act.put,aA,aB,aC];refine af 9 rfl (by kernel_rfl) (by kernel_rfl) (by kernel_rfl) (fun _ _ _ h=>h) rfl ⟨k11,hlk,d0,d1,d2,d3,d4,d5⟩ (by rintro w' ⟨hw1,hw2,hw3,hw4,hw5,hw6,hw7,hw8⟩; go_simp; rfl) ?_
         simp only[Act.put,aA,aB,aC];refine af 10 rfl (by kernel_rfl) (by kernel_rfl) (by kernel_rfl) (fun _ _ _ h=>h) rfl ⟨k11,hlk,d0,d1,d2,d3,d4,d5⟩ (by rintro w' ⟨hw1,hw2,hw3,hw4,hw5,hw6,hw7,hw8⟩; go_simp; rfl) ?_;simp only[Act.put,aA,aB,aC];refine af 11 rfl (by kernel_rfl) (by kernel_rfl) (by kernel_rfl) (fun _ _ _ h=>h) rfl ⟨k11,hlk,d0,d1,d2,d3,d4,d5⟩ (by rintro w' ⟨hw1,hw2,hw3,hw4,hw5,hw6,hw7,hw8⟩; go_simp; rfl) ?_
         simp only[Act.put,aA,aB,aC];have HAL:=ab ((Below.refl W8.heap.size W8).alloc (Nat.le_refl _) (.cells #[.string e.path, .int .i64 e.kind, .int .i64 e.mode, .int .i64 e.time, .slice da e.data.length dc, .string e.link] 79));have hltb:base+1+1<W8.heap.size:=lt_of_block HBX8.out;have hS2:=And.intro ((HAL.out.cell (p:=⟨base+1+1,11,none⟩) hltb).trans k11) (And.intro (HLK.out _ (HAL.out.block base (by omega))) (And.intro ((HAL.out.cell (p:=⟨wr.heap.size,0,none⟩) hltx).trans d0) (And.intro ((HAL.out.cell (p:=⟨wr.heap.size,1,none⟩) hltx).trans d1) (And.intro ((HAL.out.cell (p:=⟨wr.heap.size,2,none⟩) hltx).trans d2) (And.intro ((HAL.out.cell (p:=⟨wr.heap.size,3,none⟩) hltx).trans d3) (And.intro ((HAL.out.cell (p:=⟨wr.heap.size,4,none⟩) hltx).trans d4) ((HAL.out.cell (p:=⟨wr.heap.size,5,none⟩) hltx).trans d5)))))))
         have HS2:=ab hS2;clear hS2;refine ar 12 rfl (by kernel_rfl) rfl (fun K hK=> ?_);go_wp2_with fail
         (first | (refine⟨HS2.out, ?_⟩) | skip)
         refine ar 13 rfl (by kernel_rfl) rfl (fun K hK=> ?_);have hz8:base<=W8.heap.size:=by omega
         go_wp2_with (at_builtin; go_must (refine aK Tryz.appEnts rfl _ _ rfl base (.slice ga gl gc) (gl) ((df g.ents)) rfl W8 [.string e.path, .int .i64 e.kind, .int .i64 e.mode, .int .i64 e.time, .slice da e.data.length dc, .string e.link] _ rfl rfl (eJ (e:=e)) (HGO.out) HLNB.out hz8 ?_); intro v' wc hown' hgrow' _ hpl; obtain⟨ae,ce,rfl,-,-⟩:=aj hown');have hbxc:=(hgrow'.block (base+1+1) hltb (fun e9=>HNE.out.1 e9.symm)).trans HBX8.out
         have hxc:=(hgrow'.block wr.heap.size hltx (fun e9=>HNE.out.2.1 e9.symm)).trans HX8.out;have hmc:=hgrow'.block base (by omega) (fun e9=>HNE.out.2.2 e9.symm);have hlkc:=HLK.out wc hmc;have HBXC:=ab hbxc;have HXC:=ab hxc;have HMC:=ab hmc;have HOWC:=ab hown';have HGRC:=ab hgrow';have HPLC:=ab hpl;clear hbxc hxc hmc hown' hgrow' hpl hlk k11 d0 d1 d2 d3 d4 d5;have d0:=aa (k:=0) HXC.out
         have d1:=aa (k:=1) HXC.out;have d2:=aa (k:=2) HXC.out;have d3:=aa (k:=3) HXC.out;have d4:=aa (k:=4) HXC.out;have d5:=aa (k:=5) HXC.out;simp only[aN]at d0 d1 d2 d3 d4 d5;have k11:=aa (k:=11) HBXC.out;simp only[fZ,dh,dA,List.cons_append,List.nil_append,aN]at k11;refine⟨⟨k11,hlkc,d0,d1,d2,d3,d4,d5⟩, ?_⟩;refine aV (by kernel_rfl) ?_
         refine bX rfl rfl (fun K hK=> ?_);clear k11 hlkc d0 d1 d2 d3 d4 d5;have HMS:=ab (show cT Tryz.prog 9 wc base (A.map gC++(.string g.dir,g.val)::B.map gC)from by
          have:=HGR8.out.map.same HMC.out
          simpa [gC]using this)
         go_wp2_with (at_mapUpdate; go_must (refine jB bS rfl _ _ _ _ rfl HTY.out base (A.map gC) (B.map gC) (.string g.dir) (.slice ae (gl+1) ce) g.val HMS.out rfl rfl rfl ?_); intro w10 hm10 hg10);have HG10:=ab hg10;have HGRN:=ab (HGR8.out.over (Nat.le_refl _) (y:=(.slice da e.data.length dc,e)) HDY8.out (by rw[<-HGL.out]; exact HOWC.out) (by rw[HGV.out]; exact HGRC.out) (by rw[HGV.out]; exact HPLC.out) hm10 hg10)
         clear hm10 hg10;have hb10:=HIN.out.below.trans ((HB8.out.mono hbz).trans (((Below.refl base W8).grown HGRC.out hz8 (fun i hi=>HLOW.out i hi)).grown HG10.out (Nat.le_trans hz8 HGRC.out.size) (fun i hi=>by cases hi; exact Nat.le_refl _)));have hbd10:=HBD8.out.nilKeep (w':=w10) ((HG10.out.block _ (Nat.lt_of_lt_of_le hltb HGRC.out.size) (fun e9=>by have:=Option.some.inj e9; omega)).trans (HBXC.out.trans HBX8.out.symm)) ((HG10.out.block _ (Nat.lt_of_lt_of_le HBD8.out.known.map.lt HGRC.out.size) (fun e9=>by have:=Option.some.inj e9; omega)).trans (HGRC.out.block _ HBD8.out.known.map.lt (fun e9=>HNK.out e9.symm)))
         go_roundw
         case rel=>
          refine⟨j+1,(A++⟨g.dir, .slice ae (gl+1) ce,g.ents++[(.slice da e.data.length dc,e)]⟩::B),by omega,by go_num,⟨hbd10,HGRN.out,fun d=> ?_,hb10⟩⟩;rw[ii HEA.out];rw[ng (A:=A) (B:=B) (g:=g) (g':=(⟨g.dir, .slice ae (gl+1) ce,g.ents++[((Value.slice da e.data.length dc,e):ji)]⟩:tW)) rfl HA.out d]
          by_cases hqd:g.dir=d
          ·rw[if_pos hqd,if_pos (show aT (bl e.path)=bl d by rw[<-hqd,HQ.out]; exact(ff _).symm),<-HIN.out.ents d,<-hqd,HENT.out,List.map_append]
           rfl
          ·rw[if_neg hqd,if_neg (fun h9=>hqd (ft (by rw[HQ.out]; exact(ff _).trans h9))),List.append_nil];exact HIN.out.ents d
         case measure=>simp[intOf]; omega
       ·have hk2:j=n:=by omega
        have hgl:wH wr base base tree:=⟨G,HIN.out.grp,fun d=>by have:=HIN.out.ents d; rwa [show tree.take j=tree by rw[hk2,HN.out,List.take_length]]at this⟩;have hbz:base<=wr.heap.size:=by have h1:=HIN.out.grp.map.lt; omega
        have h7:7<=base:=Nat.le_trans HE.out.seven hwb;have hgok: ∀p∈gs,0<=p.2/\p.2<=1099511627776:=fun p hp=>by have:=List.all_eq_true.1 HALL.out p hp; simpa using this
        have hX:BB base (base+1+1) (base+1) base k c gs tree (zt k gs c tree):=⟨HKV.out,HCV.out,hsd,hgok,by omega,by omega,h7,by omega,HTO.out.val,HTO.out.len,yu HCV.out HTO.out.len HTO.out.val,yw,yx⟩;have hbw:Below w.heap.size w wr:=HB4.out.trans (HIN.out.below.mono hwb);have hgw:iu (· <base) wr (.map none) gs:=by
         rcases HG.out with⟨h1,h2⟩ | ⟨gb9,h1,_,h3⟩
         ·exact .inl ⟨h1,h2⟩
         ·exact .inr ⟨gb9,h1,Nat.lt_of_lt_of_le h3.lt hwb,h3.same (hbw.block _ h3.lt)⟩
        have hdr:=ti hX 514 (Nat.le_refl _) ⟨#[]⟩ (.slice none 0 0) [] wr (by show 514<=0+514; omega) (.inl rfl) HIN.out.bd hgw hgl (by intro b hb; simp at hb) (HE.out.keep hbw HE.out.seven) hbz;unfold sM at hdr;clear hgl hX hgw
        cases hdp:cE k gs c tree 514 ⟨#[]⟩with
        | error x9=>
         rw[hdp]at hdr;have HM3:=ab (show cW k c tree gs= .error x9 by rw[HM2.out,hdp]);have HDR:=ab hdr;clear hdr hdp;go_wp2_with fail;refine HDR.out.mono ?_;rintro e' w5 ⟨rfl,hx9,v5,bs5,hbd5,hkp5⟩;have HB5:=ab (hbw.trans (hkp5.below.mono hwb));have HR5:=ab ((hkp5.below.block (w.heap.size+2) hne2).trans ((HIN.out.below.block (w.heap.size+2) hne2).trans HR4.out));have HX9:=ab hx9
         have e4:(x9 != 0)=true:=by simp[hx9]
         clear hx9 hbd5 hkp5 hbw
         go_upto_region 20 with(fail)
         obtain⟨W6,hW6⟩: ∃W6:World,W6=w5.alloc (.cells #[.string ⟨#[]⟩, .int .i64 0, .int .i64 0] 26):=⟨_,rfl⟩;rw[<-hW6];have hb6:Below w5.heap.size w5 W6:=by rw[hW6]; exact(Below.refl _ _).alloc (Nat.le_refl _) _
         have HB6:=ab (ag HB5.out hb6);have HR6:=ab ((hb6.block _ (lt_of_block HR5.out)).trans HR5.out);clear hb6 hW6;have z0:=aa (k:=0) HR6.out;have z1:=aa (k:=1) HR6.out;have z2:=aa (k:=2) HR6.out;have y0:=ai (k:=0) HR6.out;have y1:=ai (k:=1) HR6.out;have y2:=ai (k:=2) HR6.out;simp only[aN]at z0 z1 z2;go_wp2_with fail;refine dU HR6.out rfl rfl rfl rfl ⟨dm HB6.out (by show w.heap.size<=w.heap.size+2; omega), ?_⟩
         rw[HM3.out];exact⟨rfl,HX9.out⟩
        | ok p=>
         rw[hdp]at hdr
         dsimp only at hdr
         have HM3:=ab (show cW k c tree gs= .ok (be k gs p.1,bJ k gs p.2 []) by rw[HM2.out,hdp]);obtain⟨r,hr⟩: ∃r,r=be k gs p.1:=⟨_,rfl⟩;rw[<-hr]at hdr;have HRE:=ab hr;have HDR:=ab hdr;unfold aX at HDR;clear hdr hdp hr;go_wp2_with fail;refine HDR.out.mono ?_;rintro e' w5 ⟨rfl,-,v5,hbd5,hkp5⟩;have HB5:=ab (hbw.trans (hkp5.below.mono hwb));have HR5:=ab ((hkp5.below.block (w.heap.size+2) hne2).trans ((HIN.out.below.block (w.heap.size+2) hne2).trans HR4.out))
         have HBD5:=ab hbd5;clear hbd5 hkp5 hbw
         go_upto_region 22 with(fail)
         obtain⟨W6,hW6⟩: ∃W6:World,W6=(w5.alloc (.cells #[.string r.name, .int .i64 r.gen, .int .i64 r.size] 26)).drew:=⟨_,rfl⟩;have hb6:Below w5.heap.size w5 W6:=by rw[hW6]; exact((Below.refl _ _).alloc (Nat.le_refl _) _).drew
         have HB6:=ab (ag HB5.out hb6);have HR6:=ab ((hb6.block _ (lt_of_block HR5.out)).trans HR5.out);have HF6:=ab (show W6.heap[w5.heap.size]? =some (.cells #[.string r.name, .int .i64 r.gen, .int .i64 r.size] 26 (0,0)) by rw[hW6]; exact bZ w5 _);have HBD6:=ab (HBD5.out.below hb6);obtain⟨zs,hzs,hbo⟩:=HBD6.out.own;obtain⟨va,vc,hv6,-,-⟩:=aj hbo.row;subst hv6
         have HZS:=ab hzs;have HBO:=ab hbo;have HBX6:=ab HBD6.out.box;clear hb6 hzs hbo;have k12:=aa (k:=12) HBX6.out;have f0:=aa (k:=0) HF6.out;have f1:=aa (k:=1) HF6.out;have f2:=aa (k:=2) HF6.out;simp only[fZ,dh,dA,List.cons_append,List.nil_append,aN]at k12 f0 f1 f2;have z0:=aa (k:=0) HR6.out;have z1:=aa (k:=1) HR6.out;have z2:=aa (k:=2) HR6.out
         have y0:=ai (k:=0) HR6.out;have y1:=ai (k:=1) HR6.out;have y2:=ai (k:=2) HR6.out;simp only[aN]at z0 z1 z2;refine cM (fun w'=>w'.cell? ⟨base+1+1,12,none⟩=some (.slice va zs.length vc)/\w'.cell? ⟨w5.heap.size,0,none⟩=some (.string r.name)/\w'.cell? ⟨w5.heap.size,1,none⟩=some (.int .i64 r.gen)/\w'.cell? ⟨w5.heap.size,2,none⟩=some (.int .i64 r.size)) (by kernel_rfl) ?_
         rw[<-hW6];clear hW6;refine af 0 rfl (by kernel_rfl) (by kernel_rfl) (by kernel_rfl) (fun _ _ _ h=>h) rfl ⟨k12,f0,f1,f2⟩ (by rintro w' ⟨hw1,hw2,hw3,hw4⟩; go_simp; rfl) ?_;simp only[Act.put,aA,aB,aC];refine af 1 rfl (by kernel_rfl) (by kernel_rfl) (by kernel_rfl) (fun _ _ _ h=>h) rfl ⟨k12,f0,f1,f2⟩ (by rintro w' ⟨hw1,hw2,hw3,hw4⟩; go_simp; rfl) ?_;simp only[Act.put,aA,aB,aC]
         refine af 2 rfl (by kernel_rfl) (by kernel_rfl) (by kernel_rfl) (fun _ _ _ h=>h) rfl ⟨k12,f0,f1,f2⟩ (by rintro w' ⟨hw1,hw2,hw3,hw4⟩; go_simp; rfl) ?_;simp only[Act.put,aA,aB,aC];refine af 3 rfl (by kernel_rfl) (by kernel_rfl) (by kernel_rfl) (fun _ _ _ h=>h) rfl ⟨k12,f0,f1,f2⟩ (by rintro w' ⟨hw1,hw2,hw3,hw4⟩; go_simp; rfl) ?_;simp only[Act.put,aA,aB,aC]
         refine af 4 rfl (by kernel_rfl) (by kernel_rfl) (by kernel_rfl) (fun _ _ _ h=>h) rfl ⟨k12,f0,f1,f2⟩ (by rintro w' ⟨hw1,hw2,hw3,hw4⟩; go_simp; rfl) ?_;simp only[Act.put,aA,aB,aC];refine ar 5 rfl (by kernel_rfl) rfl (fun K hK=> ?_);have hw5:w.heap.size+1+1<w5.heap.size:=lt_of_block HR5.out;have hbwb:base+1+1≠w.heap.size+1+1:=by omega
         have hwfb:w5.heap.size≠w.heap.size+1+1:=by omega
         have hS2:=fun(u0 u1 u2:Value)=>And.intro ((World.cell?_of_block (a:=⟨base+1+1,12,none⟩) (bO (w:=W6) (x0:=u0) (x1:=u1) (x2:=u2) hbwb)).trans k12) (And.intro ((World.cell?_of_block (a:=⟨w5.heap.size,0,none⟩) (bO (w:=W6) (x0:=u0) (x1:=u1) (x2:=u2) hwfb)).trans f0) (And.intro ((World.cell?_of_block (a:=⟨w5.heap.size,1,none⟩) (bO (w:=W6) (x0:=u0) (x1:=u1) (x2:=u2) hwfb)).trans f1) ((World.cell?_of_block (a:=⟨w5.heap.size,2,none⟩) (bO (w:=W6) (x0:=u0) (x1:=u1) (x2:=u2) hwfb)).trans f2)))
         have HS2:=ab hS2;clear hS2 k12 f0 f1 f2;go_wp2_with fail;refine⟨HS2.out _ _ _, ?_⟩;refine af 6 rfl (by kernel_rfl) (by kernel_rfl) (by kernel_rfl) (fun _ _ _ h=>h) rfl (HS2.out _ _ _) (by rintro w' ⟨hw1,hw2,hw3,hw4⟩; go_simp; rfl) ?_;simp only[Act.put,aA,aB,aC];refine af 7 rfl (by kernel_rfl) (by kernel_rfl) (by kernel_rfl) (fun _ _ _ h=>h) rfl (HS2.out _ _ _) (by rintro w' ⟨hw1,hw2,hw3,hw4⟩; go_simp; rfl) ?_
         simp only[Act.put,aA,aB,aC];refine aV (by kernel_rfl) ?_;go_wp2_with fail;refine dU HR6.out rfl rfl rfl rfl ⟨dm HB6.out (by show w.heap.size<=w.heap.size+2; omega), ?_⟩;rw[HM3.out];refine⟨_,zs,by rw[<-HRE.out]; rfl,HZS.out,HBO.out.other HR6.out (by decide) (by decide) hwb (fun i hi=>bO hi)⟩
     ·have e1:(x != 0)=true:=by simp[hx0]
      have HX0:=ab hx0;clear hx0;have z0:=aa (k:=0) HR4.out;have z1:=aa (k:=1) HR4.out;have z2:=aa (k:=2) HR4.out;have y0:=ai (k:=0) HR4.out;have y1:=ai (k:=1) HR4.out;have y2:=ai (k:=2) HR4.out;simp only[aN]at z0 z1 z2;go_wp2_with fail;refine dU HR4.out rfl rfl rfl rfl ⟨dm HB4.out (by show w.heap.size<=w.heap.size+2; omega), ?_⟩
      rw[HM1.out,if_neg (by rw[HCX2.out]; exact HX0.out)];rw[HCX2.out];exact⟨rfl,HX0.out⟩
   ·have HGM:=ab (hgm.same (w':=w2) (HB2.out.block gb hgm.lt));have hgbw:gb<w.heap.size:=hgm.lt;clear hgm hTg;go_wp2_with (at_range; go_must (refine qS rfl _ _ rfl eN gb _ rfl HGM.out ?_); intro w0 hrg0 hb0 hs0);obtain⟨r9,hr9⟩: ∃r9,r9=w2.heap.size:=⟨_,rfl⟩;rw[<-hr9]at hrg0 ⊢;have HR9:=ab hr9;have HB20:=ab hb0;clear hr9 hs0 hb0
    go_frame
    go_loopw [14] (fun _ wr=> ∃vis,jI Tryz.prog 9 wr gb r9 (gs.map uJ) vis/\(∀p∈vis,∃z:Int,p.2= .int .i64 z/\0<=z/\z<=1099511627776)/\Below w2.heap.size w2 wr) (fun _ wr=>wr.rangeLeft gb r9)
    case atStart=>exact⟨[],hrg0,by simp,HB20.out⟩
    case round=>
     obtain⟨vis,hrg,hvis,hb2r⟩:=hrel;have HRG:=ab hrg;have HVIS:=ab hvis;have HB2R:=ab hb2r;clear hrg hvis hb2r;go_wp2_with (at_next; go_must (refine tV rfl _ rfl gb r9 _ _ rfl HRG.out ?_ ?_))
     ·intro hdone;have HALL:=ab (show gs.all (fun p=>decide (0<=p.2) && decide (p.2<=1099511627776))=true from by
       rw[List.all_eq_true];intro p hp;obtain⟨z,hz1,hz2,hz3⟩:=HVIS.out (uJ p) (hdone.mem_iff.2 (List.mem_map.2 ⟨p,hp,rfl⟩));simp only[uJ,Value.int.injEq,true_and]at hz1;subst hz1;simp[hz2,hz3])
      have HB3:=ab (ag HB2.out HB2R.out);have HR3:=ab ((HB2R.out.block _ (lt_of_block HR2.out)).trans HR2.out);have HK3:=ab ((HB2R.out.block _ (lt_of_block HK2.out)).trans HK2.out);have HC3:=ab ((HB2R.out.block _ (lt_of_block HC2.out)).trans HC2.out);clear hdone HRG hrg0
      go_upto_region 9 with(fail)
      have HM1:=ab (show cW k c tree gs=(if cX tree=0 then(match cE k gs c tree 514 ⟨#[]⟩with
       | .error x=> .error x
       | .ok p=> .ok (be k gs p.1,bJ k gs p.2 []))
      else .error (cX tree)) by rw[HM0.out,if_pos HALL.out])
      have htr:dI S (wr) (.slice ta n tc) tree:=dI.below HT.out HB3.out;have hev:=HE.out.below HB3.out;obtain⟨x,hx⟩: ∃x,cX tree=x:=⟨_,rfl⟩;have hck:=yC S tree (.slice ta n tc) x (wr) htr hev.env hx;have HCK:=ab hck;have HCX2:=ab hx;clear htr hev hck hx;go_wp2_with fail;refine HCK.out.mono ?_;rintro e w4 ⟨rfl,hb4⟩;have HB4:=ab (ag HB3.out hb4);have HR4:=ab ((hb4.block _ (lt_of_block HR3.out)).trans HR3.out)
      have HK4:=ab ((hb4.block _ (lt_of_block HK3.out)).trans HK3.out);have HC4:=ab ((hb4.block _ (lt_of_block HC3.out)).trans HC3.out);clear hb4
      by_cases hx0:x=0
      ·have e1:(x != 0)=false:=by simp[hx0]
       have HTO:=ab (oF.1 (HCX2.out.trans hx0));have HM2:=ab (show cW k c tree gs=(match cE k gs c tree 514 ⟨#[]⟩with
        | .error x=> .error x
        | .ok p=> .ok (be k gs p.1,bJ k gs p.2 [])) by rw[HM1.out,if_pos (HCX2.out.trans hx0)])
       clear hx0;have a0:=aa (k:=0) HK4.out;have a1:=aa (k:=1) HK4.out;have a2:=aa (k:=2) HK4.out;have a3:=aa (k:=3) HK4.out;have a4:=aa (k:=4) HK4.out;have b0:=aa (k:=0) HC4.out;have b1:=aa (k:=1) HC4.out;have b2:=aa (k:=2) HC4.out;have b3:=aa (k:=3) HC4.out;have b4:=aa (k:=4) HC4.out;simp only[aN]at a0 a1 a2 a3 a4 b0 b1 b2 b3 b4
       have hmm:= @run_makeMap Tryz.prog
       go_upto_region 13 with(fail)
       obtain⟨W5,hW5⟩: ∃W5:World,W5=((w4.alloc (.map #[] 0)).alloc (.map #[] 0)).alloc (.cells #[.string k.nm, .string k.st, .string k.ck, .string k.ix, .string k.tk, .int .i64 c.mn, .int .i64 c.mx, .int .i64 c.win, .int .i64 c.bits, .int .u64 (c.seed:Int), .map (some gb), .map (some w4.heap.size), .slice none 0 0, .map (some (w4.heap.size+1))] 122):=⟨_,rfl⟩;rw[<-hW5];obtain⟨base,hbase⟩: ∃base,base=w4.heap.size:=⟨_,rfl⟩
       rw[<-hbase]at hW5 ⊢;have HBS:=ab hbase;have hbgi:BgI w4 base (base+1+1) base (base+1) k c (.map (some gb)) [] W5 []:=by
        have e1:(w4.alloc (.map #[] 0)).heap.size=base+1:=by simp[hbase]
        have e2:((w4.alloc (.map #[] 0)).alloc (.map #[] 0)).heap.size=base+1+1:=by simp[hbase]
        have h1:=cT.made (P:=Tryz.prog) (k:=9) w4;have h2:=cb.made (w4.alloc (.map #[] 0));rw[e1]at h2;rw[<-hbase]at h1;have h3:=bZ ((w4.alloc (.map #[] 0)).alloc (.map #[] 0)) (.cells #[.string k.nm, .string k.st, .string k.ck, .string k.ix, .string k.tk, .int .i64 c.mn, .int .i64 c.mx, .int .i64 c.win, .int .i64 c.bits, .int .u64 (c.seed:Int), .map (some gb), .map (some base), .slice none 0 0, .map (some (base+1))] 122)
        rw[e2]at h3;have hs1:W5.heap[base]? =(w4.alloc (.map #[] 0)).heap[base]? :=by rw[hW5]; exact(Below.heap_alloc _ _ _ (by rw[e2]; omega)).trans (Below.heap_alloc _ _ _ (by rw[e1]; omega))
        have hs2:W5.heap[base+1]? =((w4.alloc (.map #[] 0)).alloc (.map #[] 0)).heap[base+1]? :=by rw[hW5]; exact Below.heap_alloc _ _ _ (by rw[e2]; omega)
        refine⟨⟨by rw[hW5]; exact h3,⟨[],rfl,World.ownsRow_nil _ _ _ _,by simp⟩,h2.same hs2⟩,⟨h1.same hs1,by simp,by simp,List.Pairwise.nil,by simp⟩,fun d=>rfl, ?_⟩;rw[hW5,hbase];exact(((Below.refl _ _).alloc (Nat.le_refl _) _).alloc (by simp) _).alloc (by simp; omega) _
       have HBG:=ab hbgi;have hne2:w.heap.size+2<base:=by have:=lt_of_block HR4.out; omega
       have hwb:w.heap.size<=base:=by omega
       clear hW5 a0 a1 a2 a3 a4 b0 b1 b2 b3 b4 hmm hbase hbgi;go_wp2_with fail
       go_loopw [64] (fun i wr=> ∃(j:Nat) (G:List tW),j<=n/\i= .int .i64 (j:Int)/\BgI w4 base (base+1+1) base (base+1) k c (.map (some gb)) (tree.take j) wr G) (fun i _=>n-(intOf i).toNat)
       case atStart=>exact⟨0,[],Nat.zero_le _,rfl,HBG.out⟩
       case round=>
        obtain⟨j,G,hj,rfl,hin⟩:=hrel;rename_i wq;have HIN:=ab hin;clear hin HBG
        by_cases hlt:j<n
        ·obtain⟨e,he⟩: ∃e,tree[j]? =some e:=⟨tree[j]'(by rw[<-HN.out]; exact hlt),by simp⟩;have hbw:Below w.heap.size w wr:=HB4.out.trans (HIN.out.below.mono hwb);obtain⟨b,o,dv,rfl,-,-,hdd,heok,-,p0,p1,p2,p3,p4,p5⟩:=ku (dI.below HT.out hbw) he;obtain⟨da,dc,rfl,-,-⟩:=bH.slice hdd;have HDY:=ab (show bH (· <base) wr (.slice da e.data.length dc) e.data/\gS e from by
          obtain⟨b9,o9,dv9,he9,_,_,hd9,_,_,_,_,_,_,hp9,_⟩:=ku HT.out he
          cases he9
          have hq:=(hbw.cell (p:=⟨b,o+j*6+4,none⟩) (aR (a:=⟨b,o+j*6+4,none⟩) hp9)).trans hp9;rw[p4]at hq
          cases hq
          have hd0:=aS.lt' hd9 (by decide);exact⟨aS.same (aS.weak (T:=(· <w.heap.size)) hd0 (fun _ h=>h)) (fun i hi=>hbw.block i hi) |> fun h=>aS.weak h (fun i hi=>Nat.lt_of_lt_of_le hi hwb),heok⟩)
         have hval:=HTO.out.val e (List.mem_of_getElem? he);have hep:=bQ hval;have hes:e.path.size<=512:=(iR hval).1;obtain⟨q,hq⟩: ∃q:ByteArray,q=⟨(aT (bl e.path)).toArray⟩:=⟨_,rfl⟩;have HQ:=ab hq;have hqs:q.size<=maxLen:=by
          have h1:=lq (l:=bl e.path) (fun h=>by have:=jy hep; rw[h]at this; simp at this);rw[hq,ay,ff];rw[<-ay e.path]at h1;unfold maxLen;omega
         have HEA:=ab he;have hpc:=fun W hE=>eO e.path q W hE hep hq
         have HPC:=ab hpc;have hbz:base<=wr.heap.size:=by have h1:=HIN.out.grp.map.lt; omega
         have h7:7<=base:=Nat.le_trans HE.out.seven hwb;clear hval hep hq hdd heok he hpc
         go_upto_region 16 with(fail)
         obtain⟨W6,hW6⟩: ∃W6:World,W6=wr.alloc (.cells #[.string e.path, .int .i64 e.kind, .int .i64 e.mode, .int .i64 e.time, .slice da e.data.length dc, .string e.link] 79):=⟨_,rfl⟩;rw[<-hW6];have hb6:Below wr.heap.size wr W6:=by rw[hW6]; exact(Below.refl _ _).alloc (Nat.le_refl _) _
         have HB6:=ab hb6;have HX6:=ab (show W6.heap[wr.heap.size]? =some (.cells #[.string e.path, .int .i64 e.kind, .int .i64 e.mode, .int .i64 e.time, .slice da e.data.length dc, .string e.link] 79 (0,0)) by rw[hW6]; exact bZ wr _);have HE6:=ab (HE.out.keep (HB4.out.trans ((HIN.out.below.mono hwb).trans (hb6.mono (Nat.le_trans hwb hbz)))) HE.out.seven);clear hW6 hb6 p0 p1 p2 p3 p4 p5
         have d0:=aa (k:=0) HX6.out;have d1:=aa (k:=1) HX6.out;have d2:=aa (k:=2) HX6.out;have d3:=aa (k:=3) HX6.out;have d4:=aa (k:=4) HX6.out;have d5:=aa (k:=5) HX6.out;simp only[aN]at d0 d1 d2 d3 d4 d5;go_wp2_with fail;refine(HPC.out W6 HE6.out.env).mono ?_;rintro e' w7 ⟨rfl,hb7⟩;have HX7:=ab ((hb7.block _ (lt_of_block HX6.out)).trans HX6.out)
         have HB7:=ab (ag HB6.out hb7);clear hb7 d0 d1 d2 d3 d4 d5;go_wp2_with fail;obtain⟨W8,hW8⟩: ∃W8:World,W8=w7.drew:=⟨_,rfl⟩;have hb8:Below w7.heap.size w7 W8:=by rw[hW8]; exact(Below.refl _ _).drew
         have HB8:=ab (ag HB7.out hb8);have HX8:=ab ((hb8.block _ (lt_of_block HX7.out)).trans HX7.out);have hkp8:=cZ.ofBelow (bb:=base+1+1) (kb:=base+1) (v:= .slice none 0 0) HB8.out hbz;have HBD8:=ab (HIN.out.bd.below HB8.out);have HGR8:=ab (HIN.out.grp.keep HIN.out.bd hkp8 (by omega));have HBX8:=ab HBD8.out.box;have hltx:wr.heap.size<W8.heap.size:=lt_of_block HX8.out
         have HDY8:=ab (show bH (· <base) W8 (.slice da e.data.length dc) e.data/\gS e from⟨jm HDY.out.1 (HB8.out.mono hbz),HDY.out.2⟩);have ht:Tryz.prog.underlying 119=some (.map 9 46):=Tryz.underlying119;have HTY:=ab ht;clear ht hb8 hkp8;have k0:=aa (k:=0) HBX8.out;have k1:=aa (k:=1) HBX8.out;have k2:=aa (k:=2) HBX8.out;have k3:=aa (k:=3) HBX8.out
         have k4:=aa (k:=4) HBX8.out;have k10:=aa (k:=10) HBX8.out;have k11:=aa (k:=11) HBX8.out;have k12:=aa (k:=12) HBX8.out;have k13:=aa (k:=13) HBX8.out;simp only[fZ,dh,dA,List.cons_append,List.nil_append,aN]at k0 k1 k2 k3 k4 k10 k11 k12 k13;clear k0 k1 k2 k3 k4 k10 k12 k13;have d0:=aa (k:=0) HX8.out;have d1:=aa (k:=1) HX8.out
         have d2:=aa (k:=2) HX8.out;have d3:=aa (k:=3) HX8.out;have d4:=aa (k:=4) HX8.out;have d5:=aa (k:=5) HX8.out;simp only[aN]at d0 d1 d2 d3 d4 d5
         cases hf:G.find? (fun g=>decide (g.dir=q))with
         | none=>
          have HF:=ab hf;clear hf;have hnew: ∀p∈G.map gC,p.1≠Value.string q:=by
           intro p hp e9;obtain⟨g9,hg9,rfl⟩:=List.mem_map.1 hp;simp only[gC,Value.string.injEq]at e9;have:=List.find?_eq_none.1 HF.out g9 hg9;simp[e9]at this
          have HNEW:=ab hnew;have HLK:=ab (show ∀W:World,W.heap[base]? =W8.heap[base]? ->(Instr.lookup 119 (.map (some base)) (.string q) false).run Tryz.prog W= .ok (.slice none 0 0) W from fun W hW=>by
           have:=(HGR8.out.map.same hW).is.miss bS HTY.out (show(zeroValue 46).run Tryz.prog W= .ok (.slice none 0 0) W by kernel_rfl) (cF hqs) HNEW.out false
           simpa using this)
          clear hnew;have HNE:=ab (show(Value.slice none 0 0).ownBlock≠some (base+1+1)/\(Value.slice none 0 0).ownBlock≠some wr.heap.size/\(Value.slice none 0 0).ownBlock≠some base from⟨by simp[Value.ownBlock],by simp[Value.ownBlock],by simp[Value.ownBlock]⟩);have HNK:=ab (show(Value.slice none 0 0).ownBlock≠some (base+1) by simp[Value.ownBlock]);have HLOW:=ab (show ∀i,(Value.slice none 0 0).ownBlock=some i->base<=i from fun i hi=>by simp[Value.ownBlock]at hi)
          have HLNB:=ab (show(0:Nat)<1099511627775 by decide);have hlk:=HLK.out W8 rfl;refine bP (fun w'=>w'.cell? ⟨base+1+1,11,none⟩=some (.map (some base))/\(Instr.lookup 119 (.map (some base)) (.string (q)) false).run Tryz.prog w'= .ok (.slice none 0 0) w'/\w'.cell? ⟨wr.heap.size,0,none⟩=some (.string e.path)/\w'.cell? ⟨wr.heap.size,1,none⟩=some (.int .i64 e.kind)/\w'.cell? ⟨wr.heap.size,2,none⟩=some (.int .i64 e.mode)/\w'.cell? ⟨wr.heap.size,3,none⟩=some (.int .i64 e.time)/\w'.cell? ⟨wr.heap.size,4,none⟩=some (.slice da e.data.length dc)/\w'.cell? ⟨wr.heap.size,5,none⟩=some (.string e.link)) (by kernel_rfl) (by kernel_rfl) ?_
          simp only[List.dropLast_cons_cons,List.dropLast_singleton,List.length_cons,List.length_nil,Nat.reduceAdd,Nat.reduceSub];rw[<-hW8];clear hW8;refine af 0 rfl (by kernel_rfl) (by kernel_rfl) (by kernel_rfl) (fun _ _ _ h=>h) rfl ⟨k11,hlk,d0,d1,d2,d3,d4,d5⟩ (by rintro w' ⟨hw1,hw2,hw3,hw4,hw5,hw6,hw7,hw8⟩; go_simp; rfl) ?_;simp only[Act.put,aA,aB,aC];refine af 1 rfl (by kernel_rfl) (by kernel_rfl) (by kernel_rfl) (fun _ _ _ h=>h) rfl ⟨k11,hlk,d0,d1,d2,d3,d4,d5⟩ (by rintro w' ⟨hw1,hw2,hw3,hw4,hw5,hw6,hw7,hw8⟩; go_simp; rfl) ?_
          simp only[Act.put,aA,aB,aC];refine af 2 rfl (by kernel_rfl) (by kernel_rfl) (by kernel_rfl) (fun _ _ _ h=>h) rfl ⟨k11,hlk,d0,d1,d2,d3,d4,d5⟩ (by rintro w' ⟨hw1,hw2,hw3,hw4,hw5,hw6,hw7,hw8⟩; go_simp; rfl) ?_;simp only[Act.put,aA,aB,aC];refine af 3 rfl (by kernel_rfl) (by kernel_rfl) (by kernel_rfl) (fun _ _ _ h=>h) rfl ⟨k11,hlk,d0,d1,d2,d3,d4,d5⟩ (by rintro w' ⟨hw1,hw2,hw3,hw4,hw5,hw6,hw7,hw8⟩; go_simp; rfl) ?_
          simp only[Act.put,aA,aB,aC];refine af 4 rfl (by kernel_rfl) (by kernel_rfl) (by kernel_rfl) (fun _ _ _ h=>h) rfl ⟨k11,hlk,d0,d1,d2,d3,d4,d5⟩ (by rintro w' ⟨hw1,hw2,hw3,hw4,hw5,hw6,hw7,hw8⟩; go_simp; rfl) ?_;simp only[Act.put,aA,aB,aC];refine af 5 rfl (by kernel_rfl) (by kernel_rfl) (by kernel_rfl) (fun _ _ _ h=>h) rfl ⟨k11,hlk,d0,d1,d2,d3,d4,d5⟩ (by rintro w' ⟨hw1,hw2,hw3,hw4,hw5,hw6,hw7,hw8⟩; go_simp; rfl) ?_
          simp only[Act.put,aA,aB,aC];refine af 6 rfl (by kernel_rfl) (by kernel_rfl) (by kernel_rfl) (fun _ _ _ h=>h) rfl ⟨k11,hlk,d0,d1,d2,d3,d4,d5⟩ (by rintro w' ⟨hw1,hw2,hw3,hw4,hw5,hw6,hw7,hw8⟩; go_simp; rfl) ?_;simp only[Act.put,aA,aB,aC];refine af 7 rfl (by kernel_rfl) (by kernel_rfl) (by kernel_rfl) (fun _ _ _ h=>h) rfl ⟨k11,hlk,d0,d1,d2,d3,d4,d5⟩ (by rintro w' ⟨hw1,hw2,hw3,hw4,hw5,hw6,hw7,hw8⟩; go_simp; rfl) ?_
          simp only[Act.put,aA,aB,aC];refine af 8 rfl (by kernel_rfl) (by kernel_rfl) (by kernel_rfl) (fun _ _ _ h=>h) rfl ⟨k11,hlk,d0,d1,d2,d3,d4,d5⟩ (by rintro w' ⟨hw1,hw2,hw3,hw4,hw5,hw6,hw7,hw8⟩; go_simp; rfl) ?_;simp only[Act.put,aA,aB,aC];refine af 9 rfl (by kernel_rfl) (by kernel_rfl) (by kernel_rfl) (fun _ _ _ h=>h) rfl ⟨k11,hlk,d0,d1,d2,d3,d4,d5⟩ (by rintro w' ⟨hw1,hw2,hw3,hw4,hw5,hw6,hw7,hw8⟩; go_simp; rfl) ?_
          simp only[Act.put,aA,aB,aC];refine af 10 rfl (by kernel_rfl) (by kernel_rfl) (by kernel_rfl) (fun _ _ _ h=>h) rfl ⟨k11,hlk,d0,d1,d2,d3,d4,d5⟩ (by rintro w' ⟨hw1,hw2,hw3,hw4,hw5,hw6,hw7,hw8⟩; go_simp; rfl) ?_;simp only[Act.put,aA,aB,aC];refine af 11 rfl (by kernel_rfl) (by kernel_rfl) (by kernel_rfl) (fun _ _ _ h=>h) rfl ⟨k11,hlk,d0,d1,d2,d3,d4,d5⟩ (by rintro w' ⟨hw1,hw2,hw3,hw4,hw5,hw6,hw7,hw8⟩; go_simp; rfl) ?_
          simp only[Act.put,aA,aB,aC];have HAL:=ab ((Below.refl W8.heap.size W8).alloc (Nat.le_refl _) (.cells #[.string e.path, .int .i64 e.kind, .int .i64 e.mode, .int .i64 e.time, .slice da e.data.length dc, .string e.link] 79));have hltb:base+1+1<W8.heap.size:=lt_of_block HBX8.out;have hS2:=And.intro ((HAL.out.cell (p:=⟨base+1+1,11,none⟩) hltb).trans k11) (And.intro (HLK.out _ (HAL.out.block base (by omega))) (And.intro ((HAL.out.cell (p:=⟨wr.heap.size,0,none⟩) hltx).trans d0) (And.intro ((HAL.out.cell (p:=⟨wr.heap.size,1,none⟩) hltx).trans d1) (And.intro ((HAL.out.cell (p:=⟨wr.heap.size,2,none⟩) hltx).trans d2) (And.intro ((HAL.out.cell (p:=⟨wr.heap.size,3,none⟩) hltx).trans d3) (And.intro ((HAL.out.cell (p:=⟨wr.heap.size,4,none⟩) hltx).trans d4) ((HAL.out.cell (p:=⟨wr.heap.size,5,none⟩) hltx).trans d5)))))))
          have HS2:=ab hS2;clear hS2;refine ar 12 rfl (by kernel_rfl) rfl (fun K hK=> ?_);go_wp2_with fail
          (first | (refine⟨HS2.out, ?_⟩) | skip)
          refine ar 13 rfl (by kernel_rfl) rfl (fun K hK=> ?_);have hz8:base<=W8.heap.size:=by omega
          go_wp2_with (at_builtin; go_must (refine aK Tryz.appEnts rfl _ _ rfl base (.slice none 0 0) (0) ([]) rfl W8 [.string e.path, .int .i64 e.kind, .int .i64 e.mode, .int .i64 e.time, .slice da e.data.length dc, .string e.link] _ rfl rfl (eJ (e:=e)) ((World.ownsRow_nil _ _ _ _)) HLNB.out hz8 ?_); intro v' wc hown' hgrow' _ hpl; obtain⟨ae,ce,rfl,-,-⟩:=aj hown')
          have hbxc:=(hgrow'.block (base+1+1) hltb (fun e9=>HNE.out.1 e9.symm)).trans HBX8.out;have hxc:=(hgrow'.block wr.heap.size hltx (fun e9=>HNE.out.2.1 e9.symm)).trans HX8.out;have hmc:=hgrow'.block base (by omega) (fun e9=>HNE.out.2.2 e9.symm);have hlkc:=HLK.out wc hmc;have HBXC:=ab hbxc;have HXC:=ab hxc;have HMC:=ab hmc;have HOWC:=ab hown';have HGRC:=ab hgrow'
          have HPLC:=ab hpl;clear hbxc hxc hmc hown' hgrow' hpl hlk k11 d0 d1 d2 d3 d4 d5;have d0:=aa (k:=0) HXC.out;have d1:=aa (k:=1) HXC.out;have d2:=aa (k:=2) HXC.out;have d3:=aa (k:=3) HXC.out;have d4:=aa (k:=4) HXC.out;have d5:=aa (k:=5) HXC.out;simp only[aN]at d0 d1 d2 d3 d4 d5;have k11:=aa (k:=11) HBXC.out;simp only[fZ,dh,dA,List.cons_append,List.nil_append,aN]at k11
          refine⟨⟨k11,hlkc,d0,d1,d2,d3,d4,d5⟩, ?_⟩;refine aV (by kernel_rfl) ?_;refine bX rfl rfl (fun K hK=> ?_);clear k11 hlkc d0 d1 d2 d3 d4 d5;have HMS:=ab (HGR8.out.map.same HMC.out);go_wp2_with (at_mapUpdate; go_must (refine eo bS rfl _ _ _ _ rfl HTY.out base (G.map gC) HMS.out rfl (.string q) (.slice ae (0+1) ce) rfl rfl (cF hqs) HNEW.out ?_); intro w10 hm10 hg10)
          have HG10:=ab hg10;have HGRN:=ab (HGR8.out.new (Nat.le_refl _) hqs (y:=(.slice da e.data.length dc,e)) HDY8.out HOWC.out HGRC.out (fun i hi=>by
           rcases HPLC.out i hi with h9 | h9
           ·simp[Value.ownBlock]at h9
           ·exact h9) hm10 hg10)
          clear hm10 hg10;have hb10:=HIN.out.below.trans ((HB8.out.mono hbz).trans (((Below.refl base W8).grown HGRC.out hz8 (fun i hi=>HLOW.out i hi)).grown HG10.out (Nat.le_trans hz8 HGRC.out.size) (fun i hi=>by cases hi; exact Nat.le_refl _)));have hbd10:=HBD8.out.nilKeep (w':=w10) ((HG10.out.block _ (Nat.lt_of_lt_of_le hltb HGRC.out.size) (fun e9=>by have:=Option.some.inj e9; omega)).trans (HBXC.out.trans HBX8.out.symm)) ((HG10.out.block _ (Nat.lt_of_lt_of_le HBD8.out.known.map.lt HGRC.out.size) (fun e9=>by have:=Option.some.inj e9; omega)).trans (HGRC.out.block _ HBD8.out.known.map.lt (fun e9=>HNK.out e9.symm)))
          go_roundw
          case rel=>
           refine⟨j+1,(G++[⟨q, .slice ae (0+1) ce,[(.slice da e.data.length dc,e)]⟩]),by omega,by go_num,⟨hbd10,HGRN.out,fun d=> ?_,hb10⟩⟩;rw[ii HEA.out];rw[oZ (g:=⟨q, .slice ae (0+1) ce,[(.slice da e.data.length dc,e)]⟩) HF.out]
           by_cases hqd:q=d
           ·rw[if_pos hqd,if_pos (show aT (bl e.path)=bl d by rw[<-hqd,HQ.out]; exact(ff _).symm),<-HIN.out.ents d,<-hqd,nf HF.out]
            rfl
           ·rw[if_neg hqd,if_neg (fun h9=>hqd (ft (by rw[HQ.out]; exact(ff _).trans h9))),List.append_nil];exact HIN.out.ents d
          case measure=>simp[intOf]; omega
         | some g=>
          obtain⟨A,B,hAB,hgd,hA⟩: ∃A B,G=A++g::B/\g.dir=q/\ ∀x∈A,x.dir≠q:=by
           have h9:=List.find?_eq_some_iff_append.1 hf;obtain⟨h1,A,B,h2,h3⟩:=h9;exact⟨A,B,h2,by simpa using h1,fun x hx=>by simpa using h3 x hx⟩
          have hent:=gX hf;subst hgd;subst hAB;have HENT:=ab hent;have HA:=ab hA;have hgo:=HGR8.out.own g (by simp);have hgo0:=HIN.out.grp.own g (by simp);obtain⟨ga,gc,hgv,hgn,-⟩:=aj hgo;have hgl:g.ents.length<=4096:=by
           have h1:=HIN.out.ents g.dir;rw[hent]at h1;have h2:=congrArg List.length h1;rw[List.length_map]at h2;rw[h2];have h3:(ci (tree.take j) g.dir).length<=(tree.take j).length:=List.length_filter_le _ _;rw[List.length_take]at h3;have h4:=HTO.out.len;omega
          obtain⟨gl,hgl2⟩: ∃gl,gl=g.ents.length:=⟨_,rfl⟩;have HGL:=ab hgl2;rw[<-hgl2]at hgv hgl;have HLNB:=ab (show gl<1099511627775 by omega);have HGO:=ab (show W8.ownsRow base 79 6 (.slice ga gl gc) gl (df g.ents) by rw[<-hgv,hgl2]; exact hgo);have HGV:=ab hgv;have HNE:=ab (show(Value.slice ga gl gc).ownBlock≠some (base+1+1)/\(Value.slice ga gl gc).ownBlock≠some wr.heap.size/\(Value.slice ga gl gc).ownBlock≠some base from by
           rw[<-hgv];refine⟨fun e9=> ?_,fun e9=> ?_,fun e9=> ?_⟩
           ·obtain⟨cs2,hc2⟩:=az hgo e9;exact absurd (aO HBX8.out hc2) (by decide)
           ·have:=(hgo0.lt _ e9).2;omega
           ·obtain⟨cs2,hc2⟩:=az hgo e9;exact HGR8.out.map.ncells hc2)
          have HNK:=ab (show(Value.slice ga gl gc).ownBlock≠some (base+1)from by
           rw[<-hgv];intro e9;obtain⟨cs2,hc2⟩:=az hgo e9;exact HBD8.out.known.cells hc2)
          have HLOW:=ab (show ∀i,(Value.slice ga gl gc).ownBlock=some i->base<=i from fun i hi=>by
           rw[<-hgv]at hi;exact(hgo.lt i hi).1)
          have HLK:=ab (show ∀W:World,W.heap[base]? =W8.heap[base]? ->(Instr.lookup 119 (.map (some base)) (.string g.dir) false).run Tryz.prog W= .ok (.slice ga gl gc) W from fun W hW=>by
           have:=(HGR8.out.map.same hW).is.hit bS HTY.out (cF hqs) (val:=g.val) (List.mem_map.2 ⟨g,by simp,rfl⟩) false;rw[hgv]at this
           simpa using this)
          clear hf hent hA hgo hgo0 hgv hgl2;have hlk:=HLK.out W8 rfl;refine bP (fun w'=>w'.cell? ⟨base+1+1,11,none⟩=some (.map (some base))/\(Instr.lookup 119 (.map (some base)) (.string (g.dir)) false).run Tryz.prog w'= .ok (.slice ga gl gc) w'/\w'.cell? ⟨wr.heap.size,0,none⟩=some (.string e.path)/\w'.cell? ⟨wr.heap.size,1,none⟩=some (.int .i64 e.kind)/\w'.cell? ⟨wr.heap.size,2,none⟩=some (.int .i64 e.mode)/\w'.cell? ⟨wr.heap.size,3,none⟩=some (.int .i64 e.time)/\w'.cell? ⟨wr.heap.size,4,none⟩=some (.slice da e.data.length dc)/\w'.cell? ⟨wr.heap.size,5,none⟩=some (.string e.link)) (by kernel_rfl) (by kernel_rfl) ?_
          simp only[List.dropLast_cons_cons,List.dropLast_singleton,List.length_cons,List.length_nil,Nat.reduceAdd,Nat.reduceSub];rw[<-hW8];clear hW8;refine af 0 rfl (by kernel_rfl) (by kernel_rfl) (by kernel_rfl) (fun _ _ _ h=>h) rfl ⟨k11,hlk,d0,d1,d2,d3,d4,d5⟩ (by rintro w' ⟨hw1,hw2,hw3,hw4,hw5,hw6,hw7,hw8⟩; go_simp; rfl) ?_;simp only[Act.put,aA,aB,aC];refine af 1 rfl (by kernel_rfl) (by kernel_rfl) (by kernel_rfl) (fun _ _ _ h=>h) rfl ⟨k11,hlk,d0,d1,d2,d3,d4,d5⟩ (by rintro w' ⟨hw1,hw2,hw3,hw4,hw5,hw6,hw7,hw8⟩; go_simp; rfl) ?_
          simp only[Act.put,aA,aB,aC];refine af 2 rfl (by kernel_rfl) (by kernel_rfl) (by kernel_rfl) (fun _ _ _ h=>h) rfl ⟨k11,hlk,d0,d1,d2,d3,d4,d5⟩ (by rintro w' ⟨hw1,hw2,hw3,hw4,hw5,hw6,hw7,hw8⟩; go_simp; rfl) ?_;simp only[Act.put,aA,aB,aC];refine af 3 rfl (by kernel_rfl) (by kernel_rfl) (by kernel_rfl) (fun _ _ _ h=>h) rfl ⟨k11,hlk,d0,d1,d2,d3,d4,d5⟩ (by rintro w' ⟨hw1,hw2,hw3,hw4,hw5,hw6,hw7,hw8⟩; go_simp; rfl) ?_
          simp only[Act.put,aA,aB,aC];refine af 4 rfl (by kernel_rfl) (by kernel_rfl) (by kernel_rfl) (fun _ _ _ h=>h) rfl ⟨k11,hlk,d0,d1,d2,d3,d4,d5⟩ (by rintro w' ⟨hw1,hw2,hw3,hw4,hw5,hw6,hw7,hw8⟩; go_simp; rfl) ?_;simp only[Act.put,aA,aB,aC];refine af 5 rfl (by kernel_rfl) (by kernel_rfl) (by kernel_rfl) (fun _ _ _ h=>h) rfl ⟨k11,hlk,d0,d1,d2,d3,d4,d5⟩ (by rintro w' ⟨hw1,hw2,hw3,hw4,hw5,hw6,hw7,hw8⟩; go_simp; rfl) ?_
          simp only[Act.put,aA,aB,aC];refine af 6 rfl (by kernel_rfl) (by kernel_rfl) (by kernel_rfl) (fun _ _ _ h=>h) rfl ⟨k11,hlk,d0,d1,d2,d3,d4,d5⟩ (by rintro w' ⟨hw1,hw2,hw3,hw4,hw5,hw6,hw7,hw8⟩; go_simp; rfl) ?_;simp only[Act.put,aA,aB,aC];refine af 7 rfl (by kernel_rfl) (by kernel_rfl) (by kernel_rfl) (fun _ _ _ h=>h) rfl ⟨k11,hlk,d0,d1,d2,d3,d4,d5⟩ (by rintro w' ⟨hw1,hw2,hw3,hw4,hw5,hw6,hw7,hw8⟩; go_simp; rfl) ?_
          simp only[Act.put,aA,aB,aC];refine af 8 rfl (by kernel_rfl) (by kernel_rfl) (by kernel_rfl) (fun _ _ _ h=>h) rfl ⟨k11,hlk,d0,d1,d2,d3,d4,d5⟩ (by rintro w' ⟨hw1,hw2,hw3,hw4,hw5,hw6,hw7,hw8⟩; go_simp; rfl) ?_;simp only[Act.put,aA,aB,aC];refine af 9 rfl (by kernel_rfl) (by kernel_rfl) (by kernel_rfl) (fun _ _ _ h=>h) rfl ⟨k11,hlk,d0,d1,d2,d3,d4,d5⟩ (by rintro w' ⟨hw1,hw2,hw3,hw4,hw5,hw6,hw7,hw8⟩; go_simp; rfl) ?_
          simp only[Act.put,aA,aB,aC];refine af 10 rfl (by kernel_rfl) (by kernel_rfl) (by kernel_rfl) (fun _ _ _ h=>h) rfl ⟨k11,hlk,d0,d1,d2,d3,d4,d5⟩ (by rintro w' ⟨hw1,hw2,hw3,hw4,hw5,hw6,hw7,hw8⟩; go_simp; rfl) ?_;simp only[Act.put,aA,aB,aC];refine af 11 rfl (by kernel_rfl) (by kernel_rfl) (by kernel_rfl) (fun _ _ _ h=>h) rfl ⟨k11,hlk,d0,d1,d2,d3,d4,d5⟩ (by rintro w' ⟨hw1,hw2,hw3,hw4,hw5,hw6,hw7,hw8⟩; go_simp; rfl) ?_
          simp only[Act.put,aA,aB,aC];have HAL:=ab ((Below.refl W8.heap.size W8).alloc (Nat.le_refl _) (.cells #[.string e.path, .int .i64 e.kind, .int .i64 e.mode, .int .i64 e.time, .slice da e.data.length dc, .string e.link] 79));have hltb:base+1+1<W8.heap.size:=lt_of_block HBX8.out;have hS2:=And.intro ((HAL.out.cell (p:=⟨base+1+1,11,none⟩) hltb).trans k11) (And.intro (HLK.out _ (HAL.out.block base (by omega))) (And.intro ((HAL.out.cell (p:=⟨wr.heap.size,0,none⟩) hltx).trans d0) (And.intro ((HAL.out.cell (p:=⟨wr.heap.size,1,none⟩) hltx).trans d1) (And.intro ((HAL.out.cell (p:=⟨wr.heap.size,2,none⟩) hltx).trans d2) (And.intro ((HAL.out.cell (p:=⟨wr.heap.size,3,none⟩) hltx).trans d3) (And.intro ((HAL.out.cell (p:=⟨wr.heap.size,4,none⟩) hltx).trans d4) ((HAL.out.cell (p:=⟨wr.heap.size,5,none⟩) hltx).trans d5)))))))
          have HS2:=ab hS2;clear hS2;refine ar 12 rfl (by kernel_rfl) rfl (fun K hK=> ?_);go_wp2_with fail
          (first | (refine⟨HS2.out, ?_⟩) | skip)
          refine ar 13 rfl (by kernel_rfl) rfl (fun K hK=> ?_);have hz8:base<=W8.heap.size:=by omega
          go_wp2_with (at_builtin; go_must (refine aK Tryz.appEnts rfl _ _ rfl base (.slice ga gl gc) (gl) ((df g.ents)) rfl W8 [.string e.path, .int .i64 e.kind, .int .i64 e.mode, .int .i64 e.time, .slice da e.data.length dc, .string e.link] _ rfl rfl (eJ (e:=e)) (HGO.out) HLNB.out hz8 ?_); intro v' wc hown' hgrow' _ hpl; obtain⟨ae,ce,rfl,-,-⟩:=aj hown');have hbxc:=(hgrow'.block (base+1+1) hltb (fun e9=>HNE.out.1 e9.symm)).trans HBX8.out
          have hxc:=(hgrow'.block wr.heap.size hltx (fun e9=>HNE.out.2.1 e9.symm)).trans HX8.out;have hmc:=hgrow'.block base (by omega) (fun e9=>HNE.out.2.2 e9.symm);have hlkc:=HLK.out wc hmc;have HBXC:=ab hbxc;have HXC:=ab hxc;have HMC:=ab hmc;have HOWC:=ab hown';have HGRC:=ab hgrow';have HPLC:=ab hpl;clear hbxc hxc hmc hown' hgrow' hpl hlk k11 d0 d1 d2 d3 d4 d5;have d0:=aa (k:=0) HXC.out
          have d1:=aa (k:=1) HXC.out;have d2:=aa (k:=2) HXC.out;have d3:=aa (k:=3) HXC.out;have d4:=aa (k:=4) HXC.out;have d5:=aa (k:=5) HXC.out;simp only[aN]at d0 d1 d2 d3 d4 d5;have k11:=aa (k:=11) HBXC.out;simp only[fZ,dh,dA,List.cons_append,List.nil_append,aN]at k11;refine⟨⟨k11,hlkc,d0,d1,d2,d3,d4,d5⟩, ?_⟩;refine aV (by kernel_rfl) ?_
          refine bX rfl rfl (fun K hK=> ?_);clear k11 hlkc d0 d1 d2 d3 d4 d5;have HMS:=ab (show cT Tryz.prog 9 wc base (A.map gC++(.string g.dir,g.val)::B.map gC)from by
           have:=HGR8.out.map.same HMC.out
           simpa [gC]using this)
          go_wp2_with (at_mapUpdate; go_must (refine jB bS rfl _ _ _ _ rfl HTY.out base (A.map gC) (B.map gC) (.string g.dir) (.slice ae (gl+1) ce) g.val HMS.out rfl rfl rfl ?_); intro w10 hm10 hg10);have HG10:=ab hg10;have HGRN:=ab (HGR8.out.over (Nat.le_refl _) (y:=(.slice da e.data.length dc,e)) HDY8.out (by rw[<-HGL.out]; exact HOWC.out) (by rw[HGV.out]; exact HGRC.out) (by rw[HGV.out]; exact HPLC.out) hm10 hg10)
          clear hm10 hg10;have hb10:=HIN.out.below.trans ((HB8.out.mono hbz).trans (((Below.refl base W8).grown HGRC.out hz8 (fun i hi=>HLOW.out i hi)).grown HG10.out (Nat.le_trans hz8 HGRC.out.size) (fun i hi=>by cases hi; exact Nat.le_refl _)));have hbd10:=HBD8.out.nilKeep (w':=w10) ((HG10.out.block _ (Nat.lt_of_lt_of_le hltb HGRC.out.size) (fun e9=>by have:=Option.some.inj e9; omega)).trans (HBXC.out.trans HBX8.out.symm)) ((HG10.out.block _ (Nat.lt_of_lt_of_le HBD8.out.known.map.lt HGRC.out.size) (fun e9=>by have:=Option.some.inj e9; omega)).trans (HGRC.out.block _ HBD8.out.known.map.lt (fun e9=>HNK.out e9.symm)))
          go_roundw
          case rel=>
           refine⟨j+1,(A++⟨g.dir, .slice ae (gl+1) ce,g.ents++[(.slice da e.data.length dc,e)]⟩::B),by omega,by go_num,⟨hbd10,HGRN.out,fun d=> ?_,hb10⟩⟩;rw[ii HEA.out];rw[ng (A:=A) (B:=B) (g:=g) (g':=(⟨g.dir, .slice ae (gl+1) ce,g.ents++[((Value.slice da e.data.length dc,e):ji)]⟩:tW)) rfl HA.out d]
           by_cases hqd:g.dir=d
           ·rw[if_pos hqd,if_pos (show aT (bl e.path)=bl d by rw[<-hqd,HQ.out]; exact(ff _).symm),<-HIN.out.ents d,<-hqd,HENT.out,List.map_append]
            rfl
           ·rw[if_neg hqd,if_neg (fun h9=>hqd (ft (by rw[HQ.out]; exact(ff _).trans h9))),List.append_nil];exact HIN.out.ents d
          case measure=>simp[intOf]; omega
        ·have hk2:j=n:=by omega
         have hgl:wH wr base base tree:=⟨G,HIN.out.grp,fun d=>by have:=HIN.out.ents d; rwa [show tree.take j=tree by rw[hk2,HN.out,List.take_length]]at this⟩;have hbz:base<=wr.heap.size:=by have h1:=HIN.out.grp.map.lt; omega
         have h7:7<=base:=Nat.le_trans HE.out.seven hwb;have hgok: ∀p∈gs,0<=p.2/\p.2<=1099511627776:=fun p hp=>by have:=List.all_eq_true.1 HALL.out p hp; simpa using this
         have hX:BB base (base+1+1) (base+1) base k c gs tree (zt k gs c tree):=⟨HKV.out,HCV.out,hsd,hgok,by omega,by omega,h7,by omega,HTO.out.val,HTO.out.len,yu HCV.out HTO.out.len HTO.out.val,yw,yx⟩;have hbw:Below w.heap.size w wr:=HB4.out.trans (HIN.out.below.mono hwb);have hgw:iu (· <base) wr (.map (some gb)) gs:=by
          rcases HG.out with⟨h1,h2⟩ | ⟨gb9,h1,_,h3⟩
          ·exact .inl ⟨h1,h2⟩
          ·exact .inr ⟨gb9,h1,Nat.lt_of_lt_of_le h3.lt hwb,h3.same (hbw.block _ h3.lt)⟩
         have hdr:=ti hX 514 (Nat.le_refl _) ⟨#[]⟩ (.slice none 0 0) [] wr (by show 514<=0+514; omega) (.inl rfl) HIN.out.bd hgw hgl (by intro b hb; simp at hb) (HE.out.keep hbw HE.out.seven) hbz;unfold sM at hdr;clear hgl hX hgw
         cases hdp:cE k gs c tree 514 ⟨#[]⟩with
         | error x9=>
          rw[hdp]at hdr;have HM3:=ab (show cW k c tree gs= .error x9 by rw[HM2.out,hdp]);have HDR:=ab hdr;clear hdr hdp;go_wp2_with fail;refine HDR.out.mono ?_;rintro e' w5 ⟨rfl,hx9,v5,bs5,hbd5,hkp5⟩;have HB5:=ab (hbw.trans (hkp5.below.mono hwb));have HR5:=ab ((hkp5.below.block (w.heap.size+2) hne2).trans ((HIN.out.below.block (w.heap.size+2) hne2).trans HR4.out));have HX9:=ab hx9
          have e4:(x9 != 0)=true:=by simp[hx9]
          clear hx9 hbd5 hkp5 hbw
          go_upto_region 20 with(fail)
          obtain⟨W6,hW6⟩: ∃W6:World,W6=w5.alloc (.cells #[.string ⟨#[]⟩, .int .i64 0, .int .i64 0] 26):=⟨_,rfl⟩;rw[<-hW6];have hb6:Below w5.heap.size w5 W6:=by rw[hW6]; exact(Below.refl _ _).alloc (Nat.le_refl _) _
          have HB6:=ab (ag HB5.out hb6);have HR6:=ab ((hb6.block _ (lt_of_block HR5.out)).trans HR5.out);clear hb6 hW6;have z0:=aa (k:=0) HR6.out;have z1:=aa (k:=1) HR6.out;have z2:=aa (k:=2) HR6.out;have y0:=ai (k:=0) HR6.out;have y1:=ai (k:=1) HR6.out;have y2:=ai (k:=2) HR6.out;simp only[aN]at z0 z1 z2;go_wp2_with fail;refine dU HR6.out rfl rfl rfl rfl ⟨dm HB6.out (by show w.heap.size<=w.heap.size+2; omega), ?_⟩
          rw[HM3.out];exact⟨rfl,HX9.out⟩
         | ok p=>
          rw[hdp]at hdr
          dsimp only at hdr
          have HM3:=ab (show cW k c tree gs= .ok (be k gs p.1,bJ k gs p.2 []) by rw[HM2.out,hdp]);obtain⟨r,hr⟩: ∃r,r=be k gs p.1:=⟨_,rfl⟩;rw[<-hr]at hdr;have HRE:=ab hr;have HDR:=ab hdr;unfold aX at HDR;clear hdr hdp hr;go_wp2_with fail;refine HDR.out.mono ?_;rintro e' w5 ⟨rfl,-,v5,hbd5,hkp5⟩;have HB5:=ab (hbw.trans (hkp5.below.mono hwb));have HR5:=ab ((hkp5.below.block (w.heap.size+2) hne2).trans ((HIN.out.below.block (w.heap.size+2) hne2).trans HR4.out))
          have HBD5:=ab hbd5;clear hbd5 hkp5 hbw
          go_upto_region 22 with(fail)
          obtain⟨W6,hW6⟩: ∃W6:World,W6=(w5.alloc (.cells #[.string r.name, .int .i64 r.gen, .int .i64 r.size] 26)).drew:=⟨_,rfl⟩;have hb6:Below w5.heap.size w5 W6:=by rw[hW6]; exact((Below.refl _ _).alloc (Nat.le_refl _) _).drew
          have HB6:=ab (ag HB5.out hb6);have HR6:=ab ((hb6.block _ (lt_of_block HR5.out)).trans HR5.out);have HF6:=ab (show W6.heap[w5.heap.size]? =some (.cells #[.string r.name, .int .i64 r.gen, .int .i64 r.size] 26 (0,0)) by rw[hW6]; exact bZ w5 _);have HBD6:=ab (HBD5.out.below hb6);obtain⟨zs,hzs,hbo⟩:=HBD6.out.own;obtain⟨va,vc,hv6,-,-⟩:=aj hbo.row;subst hv6
          have HZS:=ab hzs;have HBO:=ab hbo;have HBX6:=ab HBD6.out.box;clear hb6 hzs hbo;have k12:=aa (k:=12) HBX6.out;have f0:=aa (k:=0) HF6.out;have f1:=aa (k:=1) HF6.out;have f2:=aa (k:=2) HF6.out;simp only[fZ,dh,dA,List.cons_append,List.nil_append,aN]at k12 f0 f1 f2;have z0:=aa (k:=0) HR6.out;have z1:=aa (k:=1) HR6.out;have z2:=aa (k:=2) HR6.out
          have y0:=ai (k:=0) HR6.out;have y1:=ai (k:=1) HR6.out;have y2:=ai (k:=2) HR6.out;simp only[aN]at z0 z1 z2;refine cM (fun w'=>w'.cell? ⟨base+1+1,12,none⟩=some (.slice va zs.length vc)/\w'.cell? ⟨w5.heap.size,0,none⟩=some (.string r.name)/\w'.cell? ⟨w5.heap.size,1,none⟩=some (.int .i64 r.gen)/\w'.cell? ⟨w5.heap.size,2,none⟩=some (.int .i64 r.size)) (by kernel_rfl) ?_
          rw[<-hW6];clear hW6;refine af 0 rfl (by kernel_rfl) (by kernel_rfl) (by kernel_rfl) (fun _ _ _ h=>h) rfl ⟨k12,f0,f1,f2⟩ (by rintro w' ⟨hw1,hw2,hw3,hw4⟩; go_simp; rfl) ?_;simp only[Act.put,aA,aB,aC];refine af 1 rfl (by kernel_rfl) (by kernel_rfl) (by kernel_rfl) (fun _ _ _ h=>h) rfl ⟨k12,f0,f1,f2⟩ (by rintro w' ⟨hw1,hw2,hw3,hw4⟩; go_simp; rfl) ?_;simp only[Act.put,aA,aB,aC]
          refine af 2 rfl (by kernel_rfl) (by kernel_rfl) (by kernel_rfl) (fun _ _ _ h=>h) rfl ⟨k12,f0,f1,f2⟩ (by rintro w' ⟨hw1,hw2,hw3,hw4⟩; go_simp; rfl) ?_;simp only[Act.put,aA,aB,aC];refine af 3 rfl (by kernel_rfl) (by kernel_rfl) (by kernel_rfl) (fun _ _ _ h=>h) rfl ⟨k12,f0,f1,f2⟩ (by rintro w' ⟨hw1,hw2,hw3,hw4⟩; go_simp; rfl) ?_;simp only[Act.put,aA,aB,aC]
          refine af 4 rfl (by kernel_rfl) (by kernel_rfl) (by kernel_rfl) (fun _ _ _ h=>h) rfl ⟨k12,f0,f1,f2⟩ (by rintro w' ⟨hw1,hw2,hw3,hw4⟩; go_simp; rfl) ?_;simp only[Act.put,aA,aB,aC];refine ar 5 rfl (by kernel_rfl) rfl (fun K hK=> ?_);have hw5:w.heap.size+1+1<w5.heap.size:=lt_of_block HR5.out;have hbwb:base+1+1≠w.heap.size+1+1:=by omega
          have hwfb:w5.heap.size≠w.heap.size+1+1:=by omega
          have hS2:=fun(u0 u1 u2:Value)=>And.intro ((World.cell?_of_block (a:=⟨base+1+1,12,none⟩) (bO (w:=W6) (x0:=u0) (x1:=u1) (x2:=u2) hbwb)).trans k12) (And.intro ((World.cell?_of_block (a:=⟨w5.heap.size,0,none⟩) (bO (w:=W6) (x0:=u0) (x1:=u1) (x2:=u2) hwfb)).trans f0) (And.intro ((World.cell?_of_block (a:=⟨w5.heap.size,1,none⟩) (bO (w:=W6) (x0:=u0) (x1:=u1) (x2:=u2) hwfb)).trans f1) ((World.cell?_of_block (a:=⟨w5.heap.size,2,none⟩) (bO (w:=W6) (x0:=u0) (x1:=u1) (x2:=u2) hwfb)).trans f2)))
          have HS2:=ab hS2;clear hS2 k12 f0 f1 f2;go_wp2_with fail;refine⟨HS2.out _ _ _, ?_⟩;refine af 6 rfl (by kernel_rfl) (by kernel_rfl) (by kernel_rfl) (fun _ _ _ h=>h) rfl (HS2.out _ _ _) (by rintro w' ⟨hw1,hw2,hw3,hw4⟩; go_simp; rfl) ?_;simp only[Act.put,aA,aB,aC];refine af 7 rfl (by kernel_rfl) (by kernel_rfl) (by kernel_rfl) (fun _ _ _ h=>h) rfl (HS2.out _ _ _) (by rintro w' ⟨hw1,hw2,hw3,hw4⟩; go_simp; rfl) ?_
          simp only[Act.put,aA,aB,aC];refine aV (by kernel_rfl) ?_;go_wp2_with fail;refine dU HR6.out rfl rfl rfl rfl ⟨dm HB6.out (by show w.heap.size<=w.heap.size+2; omega), ?_⟩;rw[HM3.out];refine⟨_,zs,by rw[<-HRE.out]; rfl,HZS.out,HBO.out.other HR6.out (by decide) (by decide) hwb (fun i hi=>bO hi)⟩
      ·have e1:(x != 0)=true:=by simp[hx0]
       have HX0:=ab hx0;clear hx0;have z0:=aa (k:=0) HR4.out;have z1:=aa (k:=1) HR4.out;have z2:=aa (k:=2) HR4.out;have y0:=ai (k:=0) HR4.out;have y1:=ai (k:=1) HR4.out;have y2:=ai (k:=2) HR4.out;simp only[aN]at z0 z1 z2;go_wp2_with fail;refine dU HR4.out rfl rfl rfl rfl ⟨dm HB4.out (by show w.heap.size<=w.heap.size+2; omega), ?_⟩
       rw[HM1.out,if_neg (by rw[HCX2.out]; exact HX0.out)];rw[HCX2.out];exact⟨rfl,HX0.out⟩
     ·intro key v1 w1' a0 e0 hmem hxe hnew hrg1 hg1 hs1 hen;simp only[uJ,Prod.mk.injEq]at hxe;obtain⟨rfl,rfl⟩:=hxe;have HMEM:=ab hmem;have HRG1:=ab hrg1;have hr9w:w2.heap.size<=r9:=by have:=HR9.out; omega
      have hb21:Below w2.heap.size w2 w1':=HB2R.out.grown hg1 HB2R.out.size (fun i hi=>by cases hi; exact hr9w);have HB21:=ab hb21;have hlt9:wr.rangeLeft gb r9=(gs.map uJ).length-vis.length:=by have:=HRG.out.left; omega
      have hlt91:w1'.rangeLeft gb r9+(vis++[(Value.string a0,Value.int .i64 e0)]).length=(gs.map uJ).length:=hrg1.left;have HLT:=ab (show w1'.rangeLeft gb r9<wr.rangeLeft gb r9 by
       have h1:=HRG.out.left;rw[List.length_append,List.length_singleton]at hlt91
       omega)
      clear hmem hnew hrg1 hg1 hs1 hb21 hlt9 hlt91
      by_cases hok:0<=e0/\e0<=1099511627776
      ·obtain⟨ho1,ho2⟩:=hok;have HO:=ab (And.intro ho1 ho2);go_wp2_with fail
       go_roundw
       case rel=>
        refine⟨_,HRG1.out,fun p hp=> ?_,HB21.out⟩
        rcases List.mem_append.1 hp with hp | hp
        ·exact HVIS.out p hp
        ·rw[List.mem_singleton]at hp;subst hp;exact⟨e0,rfl,HO.out.1,HO.out.2⟩
       case measure=>exact HLT.out
      ·have HNO:=ab (show cW k c tree gs= .error 1 by
        rw[HM0.out,if_neg];intro h9;have:=List.all_eq_true.1 h9 _ HMEM.out;simp only[Bool.and_eq_true,decide_eq_true_eq]at this;exact hok this)
       have HR5:=ab ((HB21.out.block _ (lt_of_block HR2.out)).trans HR2.out);have HB5:=ab (ag HB2.out HB21.out);have z0:=aa (k:=0) HR5.out;have z1:=aa (k:=1) HR5.out;have z2:=aa (k:=2) HR5.out;have y0:=ai (k:=0) HR5.out;have y1:=ai (k:=1) HR5.out;have y2:=ai (k:=2) HR5.out;simp only[aN]at z0 z1 z2
       by_cases hneg:e0<0
       ·clear hok;go_wp2_with fail;refine dU HR5.out rfl rfl rfl rfl ⟨dm HB5.out (by show w.heap.size<=w.heap.size+2; omega), ?_⟩;rw[HNO.out];exact⟨rfl,by decide⟩
       ·have hbig:1099511627776<e0:=by omega
        clear hok;go_wp2_with fail;refine dU HR5.out rfl rfl rfl rfl ⟨dm HB5.out (by show w.heap.size<=w.heap.size+2; omega), ?_⟩;rw[HNO.out];exact⟨rfl,by decide⟩
theorem tJ {W:World} {b n sz:Nat} {cells:List Value} {t:TypeId} (h:W.heap[b]? =some (.cells cells.toArray t (0,0))) (hl:cells.length=n*sz) (hn:n<=maxLen):aS (fun k=>k=b) W sz (.slice (some ⟨b,0,none⟩) n n) n cells:=
 ⟨hl,some ⟨b,0,none⟩,n,rfl,Nat.le_refl _,hn, .inr ⟨b,0,rfl,rfl,fun j u hj=>by rw[ah h,Nat.zero_add,List.getElem?_toArray]; exact hj⟩⟩
theorem kZ {S:Nat->Prop} {w:World} {v:Value} {bs:List UInt8} (h:aD S w v bs):(convert 29 9 v).run Tryz.prog w= .ok (.string ⟨bs.toArray⟩) w:=by
 have h1:=zL (S:=S) (w:=w) (v:=v) (bs:=bs) h;rw[qe]at h1;exact h1
theorem Ch (w:World) (c:UInt8):(convert 29 9 (.slice (some ⟨w.heap.size,0,none⟩) 1 1)).run Tryz.prog (w.alloc (.cells #[.int .u8 (c.toNat:Int)] 5))= .ok (.string ⟨#[c]⟩) (w.alloc (.cells #[.int .u8 (c.toNat:Int)] 5)):=by
 have h:=kZ (S:=fun _=>True) (bs:=[c]) (w:=w.alloc (.cells #[.int .u8 (c.toNat:Int)] 5)) (v:= .slice (some ⟨w.heap.size,0,none⟩) 1 1) ((tJ (cells:=[au c]) (heap_alloc_new w _) rfl (by decide)).weak (fun _ _=>trivial));exact h
theorem lR (c:UInt8) (w:World):Calls Tryz.prog 93 #[.int .u8 (c.toNat:Int)] w fun e w'=>e= .returned (.string (pB c))/\Below w.heap.size w w':=by
 have hcv:=Ch w c
 go_enter Tryz.func93,Tryz.ntmps93
 go_wp2_with fail;go_ret;refine⟨?_,(Below.refl _ _).alloc (Nat.le_refl _) _⟩
 rfl
theorem vk (w:World):Calls Tryz.prog 33 #[] w fun e w'=>e= .returned (iU dg)/\Below w.heap.size w w':=by
 have HBK:=ab ((Below.refl w.heap.size w).alloc (Nat.le_refl _) (.cells #[.string ⟨#[]⟩, .string ⟨#[]⟩, .string ⟨#[]⟩, .string ⟨#[]⟩, .string ⟨#[]⟩] 42));have HXK:=ab (bZ w (.cells #[.string ⟨#[]⟩, .string ⟨#[]⟩, .string ⟨#[]⟩, .string ⟨#[]⟩, .string ⟨#[]⟩] 42))
 go_enter Tryz.func33,Tryz.ntmps33
 go_wp2_with fail;refine(lR 110 _).mono ?_;rintro e wk ⟨rfl,hbk⟩;have HBQ:=ab (ag HBK.out hbk);have HXQ:=ab ((hbk.block _ (lt_of_block HXK.out)).trans HXK.out);clear hbk HBK HXK;have HBK:=HBQ;have HXK:=HXQ;clear HBQ HXQ;go_wp2_with fail;refine(lR 115 _).mono ?_;rintro e wk ⟨rfl,hbk⟩;have HBQ:=ab (ag HBK.out hbk);have HXQ:=ab ((hbk.block _ (lt_of_block HXK.out)).trans HXK.out)
 clear hbk HBK HXK;have HBK:=HBQ;have HXK:=HXQ;clear HBQ HXQ;go_wp2_with fail;refine(lR 99 _).mono ?_;rintro e wk ⟨rfl,hbk⟩;have HBQ:=ab (ag HBK.out hbk);have HXQ:=ab ((hbk.block _ (lt_of_block HXK.out)).trans HXK.out);clear hbk HBK HXK;have HBK:=HBQ;have HXK:=HXQ;clear HBQ HXQ;go_wp2_with fail;refine(lR 105 _).mono ?_;rintro e wk ⟨rfl,hbk⟩;have HBQ:=ab (ag HBK.out hbk)
 have HXQ:=ab ((hbk.block _ (lt_of_block HXK.out)).trans HXK.out);clear hbk HBK HXK;have HBK:=HBQ;have HXK:=HXQ;clear HBQ HXQ;go_wp2_with fail;refine(lR 116 _).mono ?_;rintro e wk ⟨rfl,hbk⟩;have HBQ:=ab (ag HBK.out hbk);have hx:=(hbk.block _ (lt_of_block HXK.out)).trans HXK.out;have c0:=aa (k:=0) hx;have c1:=aa (k:=1) hx;have c2:=aa (k:=2) hx;have c3:=aa (k:=3) hx
 have c4:=aa (k:=4) hx;have f0:=ai (k:=0) hx;have f1:=ai (k:=1) hx;have f2:=ai (k:=2) hx;have f3:=ai (k:=3) hx;have f4:=ai (k:=4) hx;simp only[aN]at c0 c1 c2 c3 c4;have h5:=cI (k:=4) (cI (k:=3) (cI (k:=2) (cI (k:=1) (cI (k:=0) hx (.string (pB 110))) (.string (pB 115))) (.string (pB 99))) (.string (pB 105))) (.string (pB 116))
 simp only[List.setIfInBounds_toArray,List.set_cons_succ,List.set_cons_zero]at h5;have H5:=ab h5;clear hbk hx h5;go_wp2_with fail;have m0:=aa (k:=0) H5.out;have m1:=aa (k:=1) H5.out;have m2:=aa (k:=2) H5.out;have m3:=aa (k:=3) H5.out;have m4:=aa (k:=4) H5.out;simp only[aN]at m0 m1 m2 m3 m4;refine bodyPost_ret (v:=iU dg) (by simp[results,Tryz.results33,go_sem,m0,m1,m2,m3,m4]; rfl) rfl ⟨rfl, ?_⟩
 have hb:w.heap.size<=w.heap.size:=Nat.le_refl _;exact Below.setCell (Below.setCell (Below.setCell (Below.setCell (Below.setCell HBQ.out hb _) hb _) hb _) hb _) hb _
theorem nb (w:World):Calls Tryz.prog 34 #[] w fun e w'=>e= .returned (fH jN)/\Below w.heap.size w w':=by
 have hx:=bZ w (.cells #[.int .i64 2, .int .i64 6, .int .i64 1, .int .i64 1, .int .u64 0] 45);have m0:=aa (k:=0) hx;have m1:=aa (k:=1) hx;have m2:=aa (k:=2) hx;have m3:=aa (k:=3) hx;have m4:=aa (k:=4) hx;simp only[aN]at m0 m1 m2 m3 m4;have M:=ab (And.intro m0 (And.intro m1 (And.intro m2 (And.intro m3 m4))));clear hx m0 m1 m2 m3 m4
 go_enter Tryz.func34,Tryz.ntmps34
 go_wp2_with fail;obtain⟨m0,m1,m2,m3,m4⟩:=M.out;exact bodyPost_ret (v:=fH jN) (by simp[results,Tryz.results34,go_sem,m0,m1,m2,m3,m4]; rfl) rfl ⟨rfl,(Below.refl _ _).alloc (Nat.le_refl _) _⟩
def tE :List (ByteArray×List UInt8)->ByteArray->List UInt8->List (ByteArray×List UInt8)
 | [],n,x=>[(n,x)]
 | p::cs,n,x=>if p.1=n then(n,x)::cs else p::tE cs n x
def oQ (bs:List bM):List (ByteArray×List UInt8):=bs.foldl (fun cs b=>tE cs b.ref.name b.con) []
theorem wQ {bs:List bM} {j:Nat} {b:bM} (h:bs[j]? =some b):oQ (bs.take (j+1))=tE (oQ (bs.take j)) b.ref.name b.con:=by
 unfold oQ;rw[bh h,List.foldl_append]
 rfl
theorem bA.miss' {S:Nat->Prop} {w:World} {n:ByteArray} {v:Value} {x:List UInt8} (hv:aD S w v x): ∀ {m:List (Value×Value)} {cs:List (ByteArray×List UInt8)},bA S w m cs->(∀p∈m,p.1≠Value.string n)->bA S w (m++[(.string n,v)]) (tE cs n x)
 | [],[],_,_=>⟨rfl,hv,trivial⟩
 | [],_::_,h,_=>False.elim h
 | _::_,[],h,_=>False.elim h
 | (k,u)::m,(n',b')::cs,h,hm=>by
  have hne:n'≠n:=fun e=>hm (k,u) (by simp) (by rw[h.1,e])
  rw[tE,if_neg hne];exact⟨h.1,h.2.1,bA.miss' hv h.2.2 (fun p hp=>hm p (by simp[hp]))⟩
theorem bA.hit' {S:Nat->Prop} {w:World} {n:ByteArray} : ∀ {m:List (Value×Value)} {cs:List (ByteArray×List UInt8)},bA S w m cs->(∃p∈m,p.1=Value.string n)-> ∃m1 old m2,m=m1++(.string n,old)::m2/\ ∀(w':World) (S':Nat->Prop) (v:Value) (x:List UInt8),(∀v bs,aD S w v bs->aD S' w' v bs)->aD S' w' v x->bA S' w' (m1++(.string n,v)::m2) (tE cs n x)
 | [],[],_,⟨_,hp,_⟩=>by simp at hp
 | [],_::_,h,_=>False.elim h
 | _::_,[],h,_=>False.elim h
 | (k,u)::m,(n',b')::cs,h,hp=>by
  have hmono: ∀ {w':World} {S':Nat->Prop},(∀v bs,aD S w v bs->aD S' w' v bs)->bA S w m cs->bA S' w' m cs:=by
   intro w' S' hm;have: ∀ {m:List (Value×Value)} {cs:List (ByteArray×List UInt8)},bA S w m cs->bA S' w' m cs:=by
    intro m
    induction m with
    | nil=>intro cs h; cases cs with
     | nil=>trivial
     | cons=>exact h
    | cons p m ih=>intro cs h; cases cs with
     | nil=>exact h
     | cons q cs=>exact⟨h.1,hm _ _ h.2.1,ih h.2.2⟩
   exact this
  by_cases hn:n'=n
  ·subst hn;refine⟨[],u,m,by rw[h.1]; rfl,fun w' S' v x hm hv=> ?_⟩;rw[tE,if_pos rfl];exact⟨rfl,hv,hmono hm h.2.2⟩
  ·obtain⟨p,hp1,hp2⟩:=hp;have hp3:p∈m:=by
    rcases List.mem_cons.1 hp1 with rfl | hp3
    ·have:=h.1.symm.trans hp2;simp only[Value.string.injEq]at this;exact absurd this hn
    ·exact hp3
   obtain⟨m1,old,m2,h1,h2⟩:=bA.hit' h.2.2 ⟨p,hp3,hp2⟩;refine⟨(k,u)::m1,old,m2,by rw[h1]; rfl,fun w' S' v x hm hv=> ?_⟩;rw[tE,if_neg hn];exact⟨h.1,hm _ _ h.2.1,h2 w' S' v x hm hv⟩
def gR (S:Nat->Prop) (w:World) (v:Value) (bs:List bM):Prop:= ∃zs:List iO,zs.map Prod.snd=bs/\aS S w 4 v zs.length (eF zs)/\ ∀z∈zs,aD S w z.1 z.2.con/\aW z.2.ref
theorem oA : ∀ {zs:List iO} {k:Nat} {z:iO},zs[k]? =some z-> ∀j,j<4->(eF zs)[k*4+j]? =(jC z.1 z.2)[j]?
 | [],k,_,h,_,_=>by simp at h
 | x::zs,0,z,h,j,hj=>by
  simp at h; subst h;unfold eF;rw[List.flatMap_cons,Nat.zero_mul,Nat.zero_add,List.getElem?_append_left (by exact hj)]
 | x::zs,k+1,z,h,j,hj=>by
  have:=oA (zs:=zs) (k:=k) (z:=z) (by simpa using h) j hj;unfold eF at this ⊢;rw[List.flatMap_cons,List.getElem?_append_right (by show 4<=_; omega),<-this]
  congr 1
  show(k+1)*4+j-4=_
  omega
theorem uj {S:Nat->Prop} {w:World} {a:Option Addr} {n cap:Nat} {zs:List iO} (h:aS S w 4 (.slice a n cap) zs.length (eF zs)) {k:Nat} {z:iO} (hz:zs[k]? =some z):
  ∃b o,a=some ⟨b,o,none⟩/\S b/\b<w.heap.size/\ ∀j,j<4->w.cell? ⟨b,o+k*4+j,none⟩=(jC z.1 z.2)[j]? :=by
 obtain⟨_,a',cap',he,_,_,h0⟩:=h
 cases he
 have hlt:=(List.getElem?_eq_some_iff.1 hz).1
 rcases h0 with h0 | ⟨b,o,rfl,hS,hc⟩
 ·omega
 ·have g:=fun j (hj:j<4)=>hc (k*4+j) _ ((oA hz j hj).trans (List.getElem?_eq_getElem (l:=jC z.1 z.2) hj))
  have g0:=g 0 (by omega);refine⟨b,o,rfl,hS,aR (a:=⟨b,o+(k*4+0),none⟩) g0,fun j hj=> ?_⟩;rw[Nat.add_assoc,g j hj];exact(List.getElem?_eq_getElem (l:=jC z.1 z.2) hj).symm
theorem gR.below {S:Nat->Prop} {w w':World} {v:Value} {bs:List bM} (h:gR S w v bs) (hb:Below w.heap.size w w'):gR S w' v bs:=by
 obtain⟨zs,h1,h2,h3⟩:=h;exact⟨zs,h1,aS.below h2 (by omega) hb,fun z hz=>⟨aS.below (h3 z hz).1 (by omega) hb,(h3 z hz).2⟩⟩
def DZ (S:Nat->Prop) (bs:List bM) (w:World) (e:Ending) (w':World):Prop:= ∃mb m,e= .returned (.map (some mb))/\w.heap.size<=mb/\cT Tryz.prog 9 w' mb m/\bA S w' m (oQ bs)/\Below w.heap.size w w'
theorem sZ (S:Nat->Prop) (bs:List bM) (v:Value) (w:World) (hv:gR S w v bs) (hl:bs.length<=1000000):Calls Tryz.prog 36 #[v] w (DZ S bs w):=by
 obtain⟨zs,hzs,hrow,hdat⟩:=hv;obtain⟨_,a,cap,rfl,hcp,hm,-⟩:=id hrow;unfold maxLen at hm;have HROW:=ab hrow;have HDAT:=ab hdat
 have HZS:=ab hzs;obtain⟨n,hn⟩: ∃n,n=zs.length:=⟨_,rfl⟩;have hln:n<=1000000:=by rw[hn,<-List.length_map (f:=Prod.snd),hzs]; exact hl
 rw[<-hn]at hcp ⊢;have HN:=ab hn;have hmm:= @run_makeMap Tryz.prog;obtain⟨W0,hW0⟩: ∃W0,W0=w.alloc (.map #[] 0):=⟨_,rfl⟩;have HM0:=ab (show cT Tryz.prog 9 W0 w.heap.size [] by rw[hW0]; exact cT.made w);have HB0:=ab (show Below w.heap.size w W0 by rw[hW0]; exact(Below.refl _ _).alloc (Nat.le_refl _) _);clear hrow hdat hzs hn hl
 go_enter Tryz.func36,Tryz.ntmps36
 go_upto_region 2 with(fail)
 rw[<-hW0];clear hW0 hmm;go_wp2_with fail
 go_loopw [4] (fun i wr=> ∃(j:Nat) (m:List (Value×Value)),j<=n/\i= .int .i64 (j:Int)/\cT Tryz.prog 9 wr w.heap.size m/\bA S wr m (oQ (bs.take j))/\Below w.heap.size w wr) (fun i _=>n-(intOf i).toNat)
 case atStart=>exact⟨0,[],Nat.zero_le _,rfl,HM0.out,trivial,HB0.out⟩
 case round=>
  obtain⟨j,m,hj,rfl,hms,hen,hb⟩:=hrel;have HMS:=ab hms;have HEN:=ab hen;have HB:=ab hb;clear hms hen hb
  by_cases hlt:j<n
  ·obtain⟨z,hz⟩: ∃z,zs[j]? =some z:=⟨zs[j]'(by rw[<-HN.out]; exact hlt),by simp⟩;obtain⟨b,o,rfl,-,hbl,hcl⟩:=uj HROW.out hz;have hzd:=HDAT.out z (List.mem_of_getElem? hz);have HZD:=ab hzd;have HZN:=ab (show bs[j]? =some z.2 by rw[<-HZS.out,List.getElem?_map,hz]; rfl);obtain⟨_,za,zc,hzv,-,-,-⟩:=id hzd.1;have g:=fun i (hi:i<4)=>(HB.out.cell (p:=⟨b,o+j*4+i,none⟩) hbl).trans (hcl i hi)
   have q0:=g 0 (by omega);have q3:=g 3 (by omega);simp only[jC,Bw,Nat.add_zero]at q0 q3;rw[hzv]at q3;obtain⟨zl,hzl⟩: ∃zl,zl=z.2.con.length:=⟨_,rfl⟩;rw[<-hzl]at q3;obtain⟨nm,hnm⟩: ∃nm,nm=z.2.ref.name:=⟨_,rfl⟩;rw[<-hnm]at q0;have hnms:nm.size<=maxLen:=by rw[hnm]; exact hzd.2.nm
   have ht:Tryz.prog.underlying 55=some (.map 9 29):=Tryz.underlying55;have HTY:=ab ht;have HST:=ab (show oQ (bs.take (j+1))=tE (oQ (bs.take j)) nm z.2.con by rw[wQ HZN.out,hnm]);have HBV:=ab (show ∀W:World,Below w.heap.size w W->aD S W (.slice za zl zc) z.2.con from fun W hW=>by rw[hzl,<-hzv]; exact aS.below hzd.1 (by omega) hW);have hbw:w.heap.size<wr.heap.size:=HMS.out.lt
   clear ht hz hcl hzd hzv g hzl hnm;go_wp2_with fail;refine am [some 12,none] (by kernel_rfl) (by kernel_rfl) (by kernel_rfl) ?_;simp only[aZ,List.take_succ_cons,List.take_zero,List.drop_succ_cons,List.drop_zero];have HMD:=ab (HMS.out.same (w':=wr.drew) rfl)
   repeat (first | (refine aw rfl ?_; simp only[Act.put,aA,aB,aC]) | (refine aJ rfl (fun K hK=> ?_); go_simp; refine hK _ ?_; clear hK K))
   refine aI ?_;refine bw rfl (fun K hK=> ?_);have hby: ∀(w9:World),wr.drew.grownBy w9 (some w.heap.size)->Below w.heap.size w w9:=fun w9 hg=>(HB.out.trans ((Below.refl wr.heap.size wr).drew.mono HB.out.size)).grown hg (Nat.le_of_lt hbw) (fun i hi=>by cases hi; exact Nat.le_refl _)
   have HBY:=ab hby
   have hkeep: ∀(w9:World),wr.drew.grownBy w9 (some w.heap.size)-> ∀v bs,aD S wr v bs->aD S w9 v bs:=fun w9 hg v bs hv=>by
    obtain⟨h1,a9,cap9,rfl,h2,h3,h4⟩:=hv;refine⟨h1,a9,cap9,rfl,h2,h3, ?_⟩
    rcases h4 with h4 | ⟨b9,o9,rfl,hS,hc⟩
    ·exact .inl h4
    ·refine .inr ⟨b9,o9,rfl,hS,fun i u hi=> ?_⟩;have q:=hc i u hi;rw[<-q];refine World.cell?_of_block (hg.block b9 (aR (a:=⟨b9,o9+i,none⟩) q) (fun e=> ?_));have:b9=w.heap.size:=by simpa using e
     subst this;obtain⟨es,clock,hb9,_⟩:=HMS.out;simp[World.cell?,hb9]at q
   have HKP:=ab hkeep;clear hby hkeep
   by_cases hin: ∃p∈m,p.1=Value.string nm
   ·obtain⟨m1,old,m2,rfl,hnew⟩:=HEN.out.hit' hin;have HNW:=ab hnew;clear hin hnew;go_wp2_with (at_mapUpdate; go_must (refine jB bS rfl _ _ _ _ rfl HTY.out w.heap.size m1 m2 (.string nm) (.slice za zl zc) old HMD.out rfl rfl rfl ?_); intro w9 hm9 hg9);have HM9:=ab hm9;have HG9:=ab hg9;clear hm9 hg9;go_wp2_with fail
    go_roundw
    case rel=>exact⟨j+1,_,by omega,by go_num,HM9.out,by rw[HST.out]; exact HNW.out w9 S _ _ (HKP.out w9 HG9.out) (HBV.out w9 (HBY.out w9 HG9.out)),HBY.out w9 HG9.out⟩
    case measure=>simp[intOf]; omega
   ·have hno: ∀p∈m,p.1≠Value.string nm:=fun p hp e=>hin ⟨p,hp,e⟩
    have HNO:=ab hno;clear hin hno;go_wp2_with (at_mapUpdate; go_must (refine eo bS rfl _ _ _ _ rfl HTY.out w.heap.size m HMD.out rfl (.string nm) (.slice za zl zc) rfl rfl (cF hnms) HNO.out ?_); intro w9 hm9 hg9);have HM9:=ab hm9;have HG9:=ab hg9;clear hm9 hg9;go_wp2_with fail
    go_roundw
    case rel=>exact⟨j+1,_,by omega,by go_num,HM9.out,by rw[HST.out]; exact bA.miss' (HBV.out w9 (HBY.out w9 HG9.out)) (HEN.out.mono (HKP.out w9 HG9.out)) HNO.out,HBY.out w9 HG9.out⟩
    case measure=>simp[intOf]; omega
  ·have hk2:j=n:=by omega
   subst hk2;go_wp2_with fail;go_ret;have h1:=HEN.out;rw[List.take_of_length_le (by rw[<-HZS.out,List.length_map,<-HN.out]; exact Nat.le_refl _)]at h1;exact⟨_,m,rfl,Nat.le_refl _,HMS.out,h1,HB.out⟩
end Go.Proofs.YtpffpjbkbaleiaaGreatDoor
namespace Go.Proofs.YtpffpjbkbaleiaaGreatDoor
open Go Go.RowKit
theorem CB {a:Act} {w:World} {b:Nat} {x0 x1 x2 x3 x4 x5 x6 x7 x8 x9 e7:Value} (h:w.heap[b]? =some (.cells #[x0,x1,x2,x3,x4,x5,x6,x7,x8,x9] 28 (0,0)))
  (h6:a.tmps[6]? =some (.pointer (some ⟨b,0,none⟩))) (h7:a.tmps[7]? =some e7):(results Tryz.f28 a.tmps).run Tryz.prog w= .ok (.tuple #[.agg #[x0,x1,x2,x3,x4,x5,x6,x7,x8,x9],e7]) w:=by
 have m0:=ah (k:=0) h;have m1:=ah (k:=1) h;have m2:=ah (k:=2) h;have m3:=ah (k:=3) h;have m4:=ah (k:=4) h;have m5:=ah (k:=5) h;have m6:=ah (k:=6) h;have m7:=ah (k:=7) h;have m8:=ah (k:=8) h;have m9:=ah (k:=9) h;simp only[aN]at m0 m1 m2 m3 m4 m5 m6 m7 m8 m9;simp[results,Tryz.results28,go_sem,h6,h7,m0,m1,m2,m3,m4,m5,m6,m7,m8,m9]
theorem iW {a:Act} {w:World} {b:Nat} {a0 a1 a2 a3 a4 a5 a6 a7 a8 a9 x0 x1 x2 x3 x4 x5 x6 x7 x8 x9 e7:Value} {Q:Ending->World->Prop} (h:w.heap[b]? =some (.cells #[a0,a1,a2,a3,a4,a5,a6,a7,a8,a9] 28 (0,0)))
  (h6:a.tmps[6]? =some (.pointer (some ⟨b,0,none⟩))) (h7:a.tmps[7]? =some e7) (hd:a.defers=[])
  (hQ:Q (.returned (.tuple #[.agg #[x0,x1,x2,x3,x4,x5,x6,x7,x8,x9],e7])) ((((((((((w.setCell ⟨b,0,none⟩ x0).setCell ⟨b,1,none⟩ x1).setCell ⟨b,2,none⟩ x2).setCell ⟨b,3,none⟩ x3).setCell ⟨b,4,none⟩ x4).setCell ⟨b,5,none⟩ x5).setCell ⟨b,6,none⟩ x6).setCell ⟨b,7,none⟩ x7).setCell ⟨b,8,none⟩ x8).setCell ⟨b,9,none⟩ x9)):
  bodyPost Tryz.prog Tryz.f28 Q Exit.ret a ((((((((((w.setCell ⟨b,0,none⟩ x0).setCell ⟨b,1,none⟩ x1).setCell ⟨b,2,none⟩ x2).setCell ⟨b,3,none⟩ x3).setCell ⟨b,4,none⟩ x4).setCell ⟨b,5,none⟩ x5).setCell ⟨b,6,none⟩ x6).setCell ⟨b,7,none⟩ x7).setCell ⟨b,8,none⟩ x8).setCell ⟨b,9,none⟩ x9):=bodyPost_ret (CB (Dt h) h6 h7) hd hQ
theorem Dz {S:Nat->Prop} {w w':World} {a:Option Addr} {n cap:Nat} {xs:List ByteArray} (h:jh S w (.slice a n cap) xs) (hb:Below w.heap.size w w') {k:Nat} {x:ByteArray} (hx:xs[k]? =some x):
  ∃b o,a=some ⟨b,o,none⟩/\b<w.heap.size/\w'.cell? ⟨b,o+k,none⟩=some (.string x):=by
 obtain⟨_,a',cap',he,_,_,h0⟩:=h
 cases he
 rcases h0 with h0 | ⟨b,o,rfl,_,hc⟩
 ·have:=(List.getElem?_eq_some_iff.1 hx).1;omega
 ·have q:=hc k (.string x) (yR hx);exact⟨b,o,rfl,aR q,(hb.cell (p:=⟨b,o+k,none⟩) (aR q)).trans q⟩
structure LkI (w2 : World) (ib : Nat) (wr : World) (it : aE) : Prop where
 below:Below ib w2 wr
 box: ∃ca cc,wr.heap[ib]? =some (.cells (cP (.slice ca it.chunks.length cc) it).toArray 28 (0,0))/\aM (fun k=>ib<k) wr (.slice ca it.chunks.length cc) it.chunks
 ok:cB it
theorem LkI.next {w2 wr w':World} {ib:Nat} {it:aE} (h:LkI w2 ib wr it) (hb:Below wr.heap.size wr w'):LkI w2 ib w' it:=by
 obtain⟨ca,cc,h1,h2⟩:=h.box;have hl:=lt_of_block h1;exact⟨h.below.trans (hb.mono (by omega)),⟨ca,cc,(hb.block ib hl).trans h1,aL.below h2 (by omega) hb (fun _ _ _ h=>h)⟩,h.ok⟩
theorem wU {root:aG} (h:aW root):cB (gh root):=⟨by show(0:Nat)<=_; unfold maxLen; omega,by show(0:Nat)<=_; unfold maxLen; omega,h⟩
def Ei (cs:List (ByteArray×List UInt8)) (root:aG) (path:ByteArray) (w:World) (e:Ending) (w':World):Prop:=Below w.heap.size w w'/\match eM cs root path with
 | .error x=>e= .returned (.tuple #[.agg #[.string ⟨#[]⟩, .int .i64 0, .int .i64 0, .int .i64 0, .int .i64 0, .string ⟨#[]⟩, .slice none 0 0, .string ⟨#[]⟩, .int .i64 0, .int .i64 0], .int .i64 x])/\x≠0
 | .ok it=> ∃v,e= .returned (.tuple #[iT v it, .int .i64 0])/\aM (w.heap.size<= ·) w' v it.chunks/\cB it
theorem kN (S:Nat->Prop) (cv:Value) (cs:List (ByteArray×List UInt8)) (root:aG) (path:ByteArray) (w:World) (hc:bt S w cv cs) (henv:fE w) (hr:aW root):Calls Tryz.prog 28 #[aX root,cv, .string path] w (Ei cs root path w):=by
 obtain⟨W0,hW0⟩: ∃W0,W0=(w.alloc (.cells #[.string root.name, .int .i64 root.gen, .int .i64 root.size] 26)).alloc (.cells #[.string ⟨#[]⟩, .int .i64 0, .int .i64 0, .int .i64 0, .int .i64 0, .string ⟨#[]⟩, .slice none 0 0, .string ⟨#[]⟩, .int .i64 0, .int .i64 0] 28):=⟨_,rfl⟩;have HB0:=ab (show Below w.heap.size w W0 by rw[hW0]; exact((Below.refl _ _).alloc (Nat.le_refl _) _).alloc (by simp) _)
 have HX0:=ab (show W0.heap[w.heap.size]? =some (.cells #[.string root.name, .int .i64 root.gen, .int .i64 root.size] 26 (0,0)) by rw[hW0]; exact cH (bZ w _) _);have HY0:=ab (show W0.heap[w.heap.size+1]? =some (.cells #[.string ⟨#[]⟩, .int .i64 0, .int .i64 0, .int .i64 0, .int .i64 0, .string ⟨#[]⟩, .slice none 0 0, .string ⟨#[]⟩, .int .i64 0, .int .i64 0] 28 (0,0)) by rw[hW0]; exact jY w _ _)
 have HI:=ab (dd.start (hc.below HB0.out) (henv.below HB0.out));have HR:=ab hr;unfold aX;clear hc henv hr
 go_enter Tryz.func28,Tryz.ntmps28
 go_upto_region 1 with(fail)
 rw[<-hW0];clear hW0
 cases hp:bo (bl path)with
 | false=>
  have HM:=ab (show eM cs root path= .error 1 by unfold eM; rw[if_neg (by rw[hp]; simp)]);have HP:=ab hp;clear hp;go_wp2_with fail;refine(Bi path W0 HI.out.env HP.out).mono ?_;rintro e w1 ⟨rfl,hb1⟩;have HB1:=ab (ag HB0.out hb1);have HY1:=ab ((hb1.block _ (lt_of_block HY0.out)).trans HY0.out);have z0:=aa (k:=0) HY1.out;have z1:=aa (k:=1) HY1.out
  have z2:=aa (k:=2) HY1.out;have z3:=aa (k:=3) HY1.out;have z4:=aa (k:=4) HY1.out;have z5:=aa (k:=5) HY1.out;have z6:=aa (k:=6) HY1.out;have z7:=aa (k:=7) HY1.out;have z8:=aa (k:=8) HY1.out;have z9:=aa (k:=9) HY1.out;have g0:=ai (k:=0) HY1.out;have g1:=ai (k:=1) HY1.out;have g2:=ai (k:=2) HY1.out;have g3:=ai (k:=3) HY1.out
  have g4:=ai (k:=4) HY1.out;have g5:=ai (k:=5) HY1.out;have g6:=ai (k:=6) HY1.out;have g7:=ai (k:=7) HY1.out;have g8:=ai (k:=8) HY1.out;have g9:=ai (k:=9) HY1.out;simp only[aN]at z0 z1 z2 z3 z4 z5 z6 z7 z8 z9;clear hb1;go_wp2_with fail;refine iW HY1.out rfl rfl rfl ⟨dC HB1.out (by show w.heap.size<=w.heap.size+1; omega), ?_⟩
  rw[HM.out];exact⟨rfl,by decide⟩
 | true=>
  have HP:=ab hp
  cases hv:dw root with
  | false=>
   have HM:=ab (show eM cs root path= .error 1 by unfold eM; rw[if_neg (by rw[hv]; simp)]);have HVR:=ab hv;clear hp hv;go_wp2_with fail;refine(ws path W0 HI.out.env HP.out).mono ?_;rintro e w1 ⟨ap,cp,rfl,-,-,-,hb1⟩;have HB1:=ab (ag HB0.out hb1);have HW1:=ab hb1;have HX1:=ab ((hb1.block _ (lt_of_block HX0.out)).trans HX0.out);have HY1:=ab ((hb1.block _ (lt_of_block HY0.out)).trans HY0.out)
   have r0:=aa (k:=0) HX1.out;have r1:=aa (k:=1) HX1.out;have r2:=aa (k:=2) HX1.out;simp only[aN]at r0 r1 r2;clear hb1;go_wp2_with fail;refine(cA root false _ HR.out HVR.out).mono ?_;rintro e w2 ⟨rfl,hb2⟩;have HB2:=ab (ag HB1.out hb2);have HY2:=ab ((hb2.block _ (lt_of_block HY1.out)).trans HY1.out);have z0:=aa (k:=0) HY2.out;have z1:=aa (k:=1) HY2.out
   have z2:=aa (k:=2) HY2.out;have z3:=aa (k:=3) HY2.out;have z4:=aa (k:=4) HY2.out;have z5:=aa (k:=5) HY2.out;have z6:=aa (k:=6) HY2.out;have z7:=aa (k:=7) HY2.out;have z8:=aa (k:=8) HY2.out;have z9:=aa (k:=9) HY2.out;have g0:=ai (k:=0) HY2.out;have g1:=ai (k:=1) HY2.out;have g2:=ai (k:=2) HY2.out;have g3:=ai (k:=3) HY2.out
   have g4:=ai (k:=4) HY2.out;have g5:=ai (k:=5) HY2.out;have g6:=ai (k:=6) HY2.out;have g7:=ai (k:=7) HY2.out;have g8:=ai (k:=8) HY2.out;have g9:=ai (k:=9) HY2.out;simp only[aN]at z0 z1 z2 z3 z4 z5 z6 z7 z8 z9;clear hb2 r0 r1 r2;go_wp2_with fail;refine iW HY2.out rfl rfl rfl ⟨dC HB2.out (by show w.heap.size<=w.heap.size+1; omega), ?_⟩
   rw[HM.out];exact⟨rfl,by decide⟩
  | true=>
   have HM:=ab (show eM cs root path=iV cs (jw (bl path)) (gh root) by unfold eM; rw[if_pos ⟨hp,hv⟩]);have HVR:=ab hv;clear hp hv;go_wp2_with fail;refine(ws path W0 HI.out.env HP.out).mono ?_;rintro e w1 ⟨ap,cp,rfl,hpn,hpm,hps,hb1⟩;obtain⟨ps,hpd⟩: ∃ps,ps=jw (bl path):=⟨_,rfl⟩;rw[<-hpd]at hps hpn ⊢;have HPD:=ab hpd;obtain⟨np,hnp⟩: ∃np,np=ps.length:=⟨_,rfl⟩
   rw[<-hnp]at hps hpn ⊢;have HNP:=ab hnp;have HPS:=ab hps;unfold maxLen at hpm;have HB1:=ab (ag HB0.out hb1);have HW1:=ab hb1;have HX1:=ab ((hb1.block _ (lt_of_block HX0.out)).trans HX0.out);have HY1:=ab ((hb1.block _ (lt_of_block HY0.out)).trans HY0.out);have r0:=aa (k:=0) HX1.out;have r1:=aa (k:=1) HX1.out;have r2:=aa (k:=2) HX1.out;simp only[aN]at r0 r1 r2
   clear hb1;clear hpd hnp hps;go_wp2_with fail;refine(cA root true _ HR.out HVR.out).mono ?_;rintro e w2 ⟨rfl,hb2⟩;have HB2:=ab (ag HB1.out hb2);have HY2:=ab ((hb2.block _ (lt_of_block HY1.out)).trans HY1.out);have hx2:=(hb2.block _ (lt_of_block HX1.out)).trans HX1.out;clear r0 r1 r2;have r0:=aa (k:=0) hx2;have r1:=aa (k:=1) hx2;have r2:=aa (k:=2) hx2
   simp only[aN]at r0 r1 r2;clear hx2;go_wp2_with fail;obtain⟨W3,hW3⟩: ∃W3,W3=w2.alloc (.cells #[.string ⟨#[]⟩, .int .i64 2, .int .i64 0, .int .i64 0, .int .i64 0, .string ⟨#[]⟩, .slice none 0 0, .string root.name, .int .i64 root.gen, .int .i64 root.size] 28):=⟨_,rfl⟩;rw[<-hW3];have HLK:=ab (show LkI w2 w2.heap.size W3 (gh root)from⟨by rw[hW3]; exact(Below.refl _ _).alloc (Nat.le_refl _) _,⟨none,0,by rw[hW3]; exact bZ w2 _,aL.nil⟩,wU HR.out⟩)
   obtain⟨ib,hib⟩: ∃ib,ib=w2.heap.size:=⟨_,rfl⟩;rw[<-hib]at HLK ⊢;have HIB:=ab hib;have HPS2:=ab (aS.below HPS.out (by omega) hb2);have HW2:=ab (ag HW1.out hb2);clear hW3 r0 r1 r2 hb2 hib
   go_loopw [33] (fun i wr=> ∃(k:Nat) (it:aE),k<=np/\i= .int .i64 (k:Int)/\iV cs (ps.drop k) it=eM cs root path/\LkI w2 ib wr it) (fun i _=>np-(intOf i).toNat)
   case atStart=>exact⟨0,gh root,Nat.zero_le _,rfl,by rw[HM.out,<-HPD.out]; rfl,HLK.out⟩
   case round=>
    obtain⟨k,it,hk,rfl,hlp,hin⟩:=hrel;have HLP:=ab hlp;have HIN:=ab hin;obtain⟨ca,cc,hbx,hrf⟩:=hin.box;have HBX:=ab hbx;have HRF:=ab hrf;clear hlp hin hbx hrf HLK;have HYR:=ab ((HIN.out.below.block (w.heap.size+1) (by rw[HIB.out]; exact lt_of_block HY2.out)).trans HY2.out);have HWR:=ab (HB2.out.trans (HIN.out.below.mono (by rw[HIB.out]; exact HB2.out.size)));have hne:w.heap.size+1≠ib:=by have:=lt_of_block HY2.out; have:=HIB.out; omega
    by_cases hlt:k<np
    ·obtain⟨c,hc⟩: ∃c,ps[k]? =some c:=⟨ps[k]'(by rw[<-HNP.out]; exact hlt),by simp⟩;obtain⟨pb,po,rfl,hpb,hcell⟩:=Dz HPS2.out (by have:=HIN.out.below; rw[HIB.out]at this; exact this) hc;have HDR:=ab (show ps.drop k=c::ps.drop (k+1) by
      rw[List.drop_eq_getElem_cons (by rw[<-HNP.out]; exact hlt)]
      congr 1
      exact(List.getElem?_eq_some_iff.1 hc).2)
     obtain⟨W4,hW4⟩: ∃W4,W4=wr.alloc (.cells #[.string c] 9):=⟨_,rfl⟩;have hb4:Below wr.heap.size wr W4:=by rw[hW4]; exact(Below.refl _ _).alloc (Nat.le_refl _) _
     have HC4:=ab (show W4.cell? ⟨wr.heap.size,0,none⟩=some (.string c) by rw[hW4]; exact(aa (bZ wr _)).trans rfl);have HIN4:=ab (HIN.out.next hb4);have HBX4:=ab ((hb4.block ib (lt_of_block HBX.out)).trans HBX.out);have HY4:=ab ((hb4.block _ (lt_of_block HYR.out)).trans HYR.out);have HB4:=ab (ag HWR.out hb4);have HI4:=ab (HI.out.keepL (HW2.out.trans ((HIN.out.below.mono (by rw[HIB.out]; exact HW2.out.size)).trans (hb4.mono (Nat.le_trans HW2.out.size (by have:=HIN.out.below.size; exact this))))) (Nat.le_refl _))
     clear hc hb4
     go_upto_region 8 with(fail)
     rw[<-hW4];clear hW4 hcell;have i0:=aa (k:=0) HBX4.out;have i1:=aa (k:=1) HBX4.out;have i2:=aa (k:=2) HBX4.out;have i3:=aa (k:=3) HBX4.out;have i4:=aa (k:=4) HBX4.out;have i5:=aa (k:=5) HBX4.out;have i6:=aa (k:=6) HBX4.out;have i7:=aa (k:=7) HBX4.out;have i8:=aa (k:=8) HBX4.out;have i9:=aa (k:=9) HBX4.out;simp only[cP,aN]at i0 i1 i2 i3 i4 i5 i6 i7 i8 i9
     by_cases hk2:it.kind=2
     ·have e1:(it.kind != 2)=false:=by simp[hk2]
      have HLP2:=ab (show(match bG cs it.node with | .error x=> .error x | .ok l=>match l.find? (fun y=>decide (y.name=c))with | none=> .error 4 | some y=>iV cs (ps.drop (k+1)) y)=eM cs root path by have:=HLP.out; rw[HDR.out,iV,if_pos hk2]at this; exact this);have hnd:=lU _ cv cs it.node W4 HI4.out.cont HIN.out.ok.nd HI4.out.env;unfold nQ at hnd;clear hk2
      cases hnp:bG cs it.node with
      | error x=>
       rw[hnp]at hnd;have HND:=ab hnd;have HM5:=ab (show eM cs root path= .error x by have:=HLP2.out; rw[hnp]at this; exact this.symm);clear hnp hnd;go_wp2_with fail;refine HND.out.mono ?_;rintro e w5 ⟨hb5,rfl,hx⟩;have HB5:=ab (ag HB4.out hb5);have HY5:=ab ((hb5.block _ (lt_of_block HY4.out)).trans HY4.out);have e2:(x != 0)=true:=by simp[hx]
       have HX:=ab hx;clear hx hb5 i0 i1 i2 i3 i4 i5 i6 i7 i8 i9;have z0:=aa (k:=0) HY5.out;have z1:=aa (k:=1) HY5.out;have z2:=aa (k:=2) HY5.out;have z3:=aa (k:=3) HY5.out;have z4:=aa (k:=4) HY5.out;have z5:=aa (k:=5) HY5.out;have z6:=aa (k:=6) HY5.out;have z7:=aa (k:=7) HY5.out;have z8:=aa (k:=8) HY5.out;have z9:=aa (k:=9) HY5.out
       have g0:=ai (k:=0) HY5.out;have g1:=ai (k:=1) HY5.out;have g2:=ai (k:=2) HY5.out;have g3:=ai (k:=3) HY5.out;have g4:=ai (k:=4) HY5.out;have g5:=ai (k:=5) HY5.out;have g6:=ai (k:=6) HY5.out;have g7:=ai (k:=7) HY5.out;have g8:=ai (k:=8) HY5.out;have g9:=ai (k:=9) HY5.out;simp only[aN]at z0 z1 z2 z3 z4 z5 z6 z7 z8 z9
       go_wp2_with fail;refine iW HY5.out rfl rfl rfl ⟨dC HB5.out (by show w.heap.size<=w.heap.size+1; omega), ?_⟩;rw[HM5.out];exact⟨rfl,HX.out⟩
      | ok l=>
       rw[hnp]at hnd;have HND:=ab hnd;have HLP3:=ab (show(match l.find? (fun y=>decide (y.name=c))with | none=> .error 4 | some y=>iV cs (ps.drop (k+1)) y)=eM cs root path by have:=HLP2.out; rw[hnp]at this; exact this);have HLV:=ab (pJ hnp);clear hnp hnd;go_wp2_with fail;refine HND.out.mono ?_;rintro e w5 ⟨hb5,v5,rfl,hv5⟩;have HB5:=ab (ag HB4.out hb5)
       have HY5:=ab ((hb5.block _ (lt_of_block HY4.out)).trans HY4.out);have HIN5:=ab (HIN4.out.next hb5);have HBX5:=ab ((hb5.block _ (lt_of_block HBX4.out)).trans HBX4.out);have HC5:=ab ((hb5.cell (p:=⟨wr.heap.size,0,none⟩) (aR HC4.out)).trans HC4.out);obtain⟨a5,cap5,rfl,hc5,hm5,-⟩:=aL.shape hv5 dO.len;unfold maxLen at hm5;have HV5:=ab hv5;have HZ4:=ab (show ib<W4.heap.size from lt_of_block HBX4.out)
       obtain⟨nl,hnl⟩: ∃nl,nl=l.length:=⟨_,rfl⟩;rw[<-hnl]at HV5 hc5 ⊢;have HNL:=ab hnl;have hn4:nl<=4096:=by rw[hnl]; exact HLV.out.1
       clear hb5 hv5 hnl i0 i1 i2 i3 i4 i5 i6 i7 i8 i9;go_wp2_with fail;refine(qA _ l c wr.heap.size (.slice a5 nl cap5) w5 HV5.out HC5.out).mono ?_;rintro e w6 ⟨rfl,hb6⟩;have HB6:=ab (ag HB5.out hb6);have HY6:=ab ((hb6.block _ (lt_of_block HY5.out)).trans HY5.out);have HIN6:=ab (HIN5.out.next hb6);have HBX6:=ab ((hb6.block _ (lt_of_block HBX5.out)).trans HBX5.out)
       have HB56:=ab hb6;clear hb6
       rcases rH c l 0 with⟨hf,hix⟩ | ⟨j,y,hj,hf,hix⟩
       ·have HM6:=ab (show eM cs root path= .error 4 by have:=HLP3.out; rw[hf]at this; exact this.symm);rw[hix];clear hf hix;have z0:=aa (k:=0) HY6.out;have z1:=aa (k:=1) HY6.out;have z2:=aa (k:=2) HY6.out;have z3:=aa (k:=3) HY6.out;have z4:=aa (k:=4) HY6.out;have z5:=aa (k:=5) HY6.out;have z6:=aa (k:=6) HY6.out;have z7:=aa (k:=7) HY6.out
        have z8:=aa (k:=8) HY6.out;have z9:=aa (k:=9) HY6.out;have g0:=ai (k:=0) HY6.out;have g1:=ai (k:=1) HY6.out;have g2:=ai (k:=2) HY6.out;have g3:=ai (k:=3) HY6.out;have g4:=ai (k:=4) HY6.out;have g5:=ai (k:=5) HY6.out;have g6:=ai (k:=6) HY6.out;have g7:=ai (k:=7) HY6.out;have g8:=ai (k:=8) HY6.out
        have g9:=ai (k:=9) HY6.out;simp only[aN]at z0 z1 z2 z3 z4 z5 z6 z7 z8 z9;go_wp2_with fail;refine iW HY6.out rfl rfl rfl ⟨dC HB6.out (by show w.heap.size<=w.heap.size+1; omega), ?_⟩;rw[HM6.out];exact⟨rfl,by decide⟩
       ·have HM6:=ab (show iV cs (ps.drop (k+1)) y=eM cs root path by have:=HLP3.out; rw[hf]at this; exact this);rw[hix,Nat.zero_add];obtain⟨b7,o7,ca7,cc7,rfl,hok7,hrf7,hbl7,-,hcl⟩:=dy HV5.out HB56.out hj;have hjl:j<nl:=by rw[HNL.out]; exact(List.getElem?_eq_some_iff.1 hj).1
        have HOK7:=ab hok7;have HRF7:=ab hrf7;have q0:=hcl 0 (by omega);have q1:=hcl 1 (by omega);have q2:=hcl 2 (by omega);have q3:=hcl 3 (by omega);have q4:=hcl 4 (by omega);have q5:=hcl 5 (by omega);have q6:=hcl 6 (by omega);have q7:=hcl 7 (by omega);have q8:=hcl 8 (by omega);have q9:=hcl 9 (by omega);simp only[cP,Bw,Nat.add_zero]at q0 q1 q2 q3 q4 q5 q6 q7 q8 q9
        have i0:=aa (k:=0) HBX6.out;have i1:=aa (k:=1) HBX6.out;have i2:=aa (k:=2) HBX6.out;have i3:=aa (k:=3) HBX6.out;have i4:=aa (k:=4) HBX6.out;have i5:=aa (k:=5) HBX6.out;have i6:=aa (k:=6) HBX6.out;have i7:=aa (k:=7) HBX6.out;have i8:=aa (k:=8) HBX6.out;have i9:=aa (k:=9) HBX6.out;simp only[cP,aN]at i0 i1 i2 i3 i4 i5 i6 i7 i8 i9
        have g0:=ai (k:=0) HBX6.out;have g1:=ai (k:=1) HBX6.out;have g2:=ai (k:=2) HBX6.out;have g3:=ai (k:=3) HBX6.out;have g4:=ai (k:=4) HBX6.out;have g5:=ai (k:=5) HBX6.out;have g6:=ai (k:=6) HBX6.out;have g7:=ai (k:=7) HBX6.out;have g8:=ai (k:=8) HBX6.out;have g9:=ai (k:=9) HBX6.out;clear hf hix hj hok7 hrf7 hcl
        go_wp2_with fail
        go_roundw
        case rel=>
         refine⟨k+1,y,by omega,by go_num,HM6.out,⟨dC HIN6.out.below (Nat.le_refl _),⟨ca7,cc7,Dt HBX6.out,aM.same HRF7.out (fun i hi hS=>⟨Nat.lt_of_lt_of_le HZ4.out hS,ll (by have:=HZ4.out; omega)⟩)⟩,HOK7.out⟩⟩
        case measure=>simp[intOf]; omega
     ·have e1:(it.kind != 2)=true:=by simp[hk2]
      have HM4:=ab (show eM cs root path= .error 4 by have:=HLP.out; rw[HDR.out,iV,if_neg hk2]at this; exact this.symm);clear hk2;have z0:=aa (k:=0) HY4.out;have z1:=aa (k:=1) HY4.out;have z2:=aa (k:=2) HY4.out;have z3:=aa (k:=3) HY4.out;have z4:=aa (k:=4) HY4.out;have z5:=aa (k:=5) HY4.out;have z6:=aa (k:=6) HY4.out;have z7:=aa (k:=7) HY4.out
      have z8:=aa (k:=8) HY4.out;have z9:=aa (k:=9) HY4.out;have g0:=ai (k:=0) HY4.out;have g1:=ai (k:=1) HY4.out;have g2:=ai (k:=2) HY4.out;have g3:=ai (k:=3) HY4.out;have g4:=ai (k:=4) HY4.out;have g5:=ai (k:=5) HY4.out;have g6:=ai (k:=6) HY4.out;have g7:=ai (k:=7) HY4.out;have g8:=ai (k:=8) HY4.out;have g9:=ai (k:=9) HY4.out
      simp only[aN]at z0 z1 z2 z3 z4 z5 z6 z7 z8 z9;go_wp2_with fail;refine iW HY4.out rfl rfl rfl ⟨dC HB4.out (by show w.heap.size<=w.heap.size+1; omega), ?_⟩;rw[HM4.out];exact⟨rfl,by decide⟩
    ·have hk2:k=np:=by omega
     subst hk2;have hit:eM cs root path= .ok it:=by have:=HLP.out; rw[HNP.out,List.drop_length]at this; rw[<-this]; rfl
     have HIT:=ab hit;have z0:=aa (k:=0) HYR.out;have z1:=aa (k:=1) HYR.out;have z2:=aa (k:=2) HYR.out;have z3:=aa (k:=3) HYR.out;have z4:=aa (k:=4) HYR.out;have z5:=aa (k:=5) HYR.out;have z6:=aa (k:=6) HYR.out;have z7:=aa (k:=7) HYR.out;have z8:=aa (k:=8) HYR.out;have z9:=aa (k:=9) HYR.out;have g0:=ai (k:=0) HYR.out
     have g1:=ai (k:=1) HYR.out;have g2:=ai (k:=2) HYR.out;have g3:=ai (k:=3) HYR.out;have g4:=ai (k:=4) HYR.out;have g5:=ai (k:=5) HYR.out;have g6:=ai (k:=6) HYR.out;have g7:=ai (k:=7) HYR.out;have g8:=ai (k:=8) HYR.out;have g9:=ai (k:=9) HYR.out;simp only[aN]at z0 z1 z2 z3 z4 z5 z6 z7 z8 z9;have i0:=aa (k:=0) HBX.out
     have i1:=aa (k:=1) HBX.out;have i2:=aa (k:=2) HBX.out;have i3:=aa (k:=3) HBX.out;have i4:=aa (k:=4) HBX.out;have i5:=aa (k:=5) HBX.out;have i6:=aa (k:=6) HBX.out;have i7:=aa (k:=7) HBX.out;have i8:=aa (k:=8) HBX.out;have i9:=aa (k:=9) HBX.out;simp only[cP,aN]at i0 i1 i2 i3 i4 i5 i6 i7 i8 i9;clear hit;go_wp2_with fail
     refine iW HYR.out rfl rfl rfl ⟨dC HWR.out (by show w.heap.size<=w.heap.size+1; omega), ?_⟩;rw[HIT.out];refine⟨_,rfl,aM.same HRF.out (fun k hk hS=>⟨by have:=lt_of_block HY2.out; have:=HIB.out; omega,ll (by have:=lt_of_block HY2.out; have:=HIB.out; omega)⟩),HIN.out.ok⟩
end Go.Proofs.YtpffpjbkbaleiaaGreatDoor
