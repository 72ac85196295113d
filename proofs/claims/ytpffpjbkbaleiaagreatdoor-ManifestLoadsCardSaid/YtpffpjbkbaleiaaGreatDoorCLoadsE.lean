/- Texts of this proof, one after the other: ItemF, NodA, Lib, FileA, FileB, LoadP, PartB, LookP, WalkA, WalkB, WalkC, Needs, NeedP, LoadA, LookA, FtC, FtD, FtE, FtP, FtQ, BldA. -/
import Derived.Test.YtpffpjbkbaleiaaGreatDoorCLoadsD
set_option maxRecDepth 100000
set_option maxHeartbeats 8000000
namespace Go.Proofs.YtpffpjbkbaleiaaGreatDoor
open Go.RowKit
theorem gq (S:Nat->Prop) (l:List aB) (v:Value) (b:Bool) (w:World) (hv:ba S w v l) (henv:gN w) (h:cr l=b):Calls Tryz.prog 47 #[v] w fun e w'=>e= .returned (.bool b)/\Below w.heap.size w w':=by
 rw[<-h]; exact qX S l v w hv henv
theorem gF :bo bg:=⟨by decide,by decide,by decide⟩
theorem rT (S:Nat->Prop) (data:List UInt8) (v:Value) (w:World) (hv:aD S w v data) (henv:gN w):Calls Tryz.prog 18 #[v] w (uf data w):=by
 obtain⟨_,a,cap,rfl,hn,hm,-⟩:=id hv;unfold maxLen at hm;have HV:=ag hv;have HE:=ag henv;clear hv henv
 by_cases hbig:32768<data.length
 ·have HP:=ag (lm hbig)
  go_enter Tryz.func18,Tryz.ntmps18
  go_wp2_with fail
  go_ret2
  exact⟨Below.refl _ _,by rw[HP.out]; rfl⟩
 ·have HBIG:=ag hbig
  go_enter Tryz.func18,Tryz.ntmps18
  go_wp2_with fail;refine(qL S data _ w HV.out (by omega)).mono ?_;rintro e w1 ⟨rb,dv,rfl,hge,hrd,hb1⟩;have HRD1:=ag hrd;have HB1:=ag hb1;clear hrd hb1;go_wp2_with fail;refine(yB rb dv data ⟨0,0,0⟩ 4096 _ HRD1.out (by omega)).mono ?_;rintro e w2 ⟨n,s1,hcn,rfl,hrd2,hg2⟩;have hnl:n<=4096:=by have:=oV data 4096 ⟨0,0,0⟩; rw[hcn]at this; exact this
  have HCN:=ag hcn;have HI2:=ag (show oz w1 rb w2 dv (.slice none 0 0) data s1 []from⟨hrd2,⟨_,HRD1.out⟩,⟨[],World.ownsRow_nil _ _ _ _,rfl⟩,hg2⟩);clear hcn hrd2 hg2;go_wp2_with fail
  go_loopw [5,16] (fun v i wr=> ∃(k:Nat) (l:List aB) (s:RS),k<=n/\i= .int .i64 k/\l.length=k/\dr data s1 k=some (l,s)/\oz w1 rb wr dv v data s l) (fun _ i _=>n-(intOf i).toNat)
  case atStart=>exact⟨0,[],s1,Nat.zero_le _,rfl,rfl,rfl,HI2.out⟩
  case round=>
   obtain⟨k,l,s,hk,rfl,hlk,hit,hinv⟩:=hrel;have HIT:=ag hit;have HINV:=ag hinv;have HLK:=ag hlk;obtain⟨cells,hown,hrow⟩:=hinv.row;have HOWN:=ag hown;have HROW:=ag hrow;obtain⟨av,cv0,hvs,hvn,hvm⟩:=am hown;have HRD:=ag hinv.rd;subst hvs;clear hit hinv hlk hown hrow
   by_cases hlt:k<n
   ·go_wp2_with fail;refine(Du rb dv data s 64 _ HRD.out (by omega)).mono ?_;rintro e w3 ⟨nm,s2,hp1,rfl,h1,h2⟩;have HP1:=ag hp1;have HM0:=ag (dZ.start HRD.out h1 h2 #[.string ⟨nm.toArray⟩, .int .i64 0, .int .i64 0, .int .i64 0, .int .i64 0, .string ⟨#[]⟩, .slice none 0 0, .string ⟨#[]⟩, .int .i64 0, .int .i64 0]);clear hp1 h1 h2;go_wp2_with fail;refine(qt rb dv data s2 _ HM0.out.rd).mono ?_
    rintro e w4 ⟨kd,s3,hp,rfl,h1,h2⟩;have HP2:=ag hp;have HM1:=ag (HM0.out.call h1 h2);have ck:=HM1.out.cell 1;have fk:=HM1.out.free 1;simp only[aP]at ck;clear hp h1 h2;go_wp2_with fail;obtain⟨kv,hkv⟩: ∃ix:Int,ix=wrap64 (kd:Int):=⟨_,rfl⟩;rw[<-hkv];have Hkv:=ag hkv;clear hkv;obtain⟨w5,hw4⟩: ∃wx:World,wx=w4.setCell ⟨w3.heap.size,1,none⟩ (.int .i64 kv):=⟨_,rfl⟩
    rw[<-hw4];have m4:=HM1.out.set 1 (.int .i64 kv);rw[<-hw4]at m4;simp only[List.setIfInBounds_toArray,List.set_cons_succ,List.set_cons_zero]at m4;have HM2:=ag m4;clear m4 hw4 ck fk HM0 HM1;refine(qt rb dv data s3 _ HM2.out.rd).mono ?_;rintro e w6 ⟨md,s4,hp,rfl,h1,h2⟩;have HP3:=ag hp;have HM3:=ag (HM2.out.call h1 h2);have ck:=HM3.out.cell 2;have fk:=HM3.out.free 2;simp only[aP]at ck
    clear hp h1 h2;go_wp2_with fail;obtain⟨mv,hkv⟩: ∃ix:Int,ix=wrap64 (md:Int):=⟨_,rfl⟩;rw[<-hkv];have Hmv:=ag hkv;clear hkv;obtain⟨w7,hw4⟩: ∃wx:World,wx=w6.setCell ⟨w3.heap.size,2,none⟩ (.int .i64 mv):=⟨_,rfl⟩;rw[<-hw4];have m4:=HM3.out.set 2 (.int .i64 mv);rw[<-hw4]at m4;simp only[List.setIfInBounds_toArray,List.set_cons_succ,List.set_cons_zero]at m4;have HM4:=ag m4
    clear m4 hw4 ck fk HM2 HM3;refine(qt rb dv data s4 _ HM4.out.rd).mono ?_;rintro e w8 ⟨td,s5,hp,rfl,h1,h2⟩;have HP4:=ag hp;have HM5:=ag (HM4.out.call h1 h2);have ck:=HM5.out.cell 3;have fk:=HM5.out.free 3;simp only[aP]at ck;clear hp h1 h2
    go_upto_region 11 with(fail)
    obtain⟨tv,hkv⟩: ∃ix:Int,ix=wrap64 (td:Int):=⟨_,rfl⟩;rw[<-hkv];have Htv:=ag hkv;clear hkv;obtain⟨w9,hw4⟩: ∃wx:World,wx=w8.setCell ⟨w3.heap.size,3,none⟩ (.int .i64 tv):=⟨_,rfl⟩;rw[<-hw4];have m4:=HM5.out.set 3 (.int .i64 tv);rw[<-hw4]at m4;simp only[List.setIfInBounds_toArray,List.set_cons_succ,List.set_cons_zero]at m4;have HM6:=ag m4;clear m4 hw4 ck fk HM4 HM5
    have ck:=HM6.out.cell 1;simp only[aP]at ck;have HH:=ag (xp HP1.out HP2.out HP3.out HP4.out);have hnms:nm.length<=64:=by have:=tV data 64 s; rw[HP1.out]at this; exact this
    by_cases hk1:kv=1
    ·have e1:(kv == 1)=true:=by simp[hk1]
     have HK1:=ag (show eS kd=1 from Hkv.out.symm.trans hk1);clear hk1;go_wp2_with fail;refine(yB rb dv data s5 963 _ HM6.out.rd (by omega)).mono ?_;rintro e wa ⟨n2,s6,hp,rfl,h1,h2⟩;have HP5:=ag hp;have hn2:n2<=963:=by have:=oV data 963 s5; rw[hp]at this; exact this
     have HM7:=ag (HM6.out.call h1 h2);clear hp h1 h2 ck HM6;go_wp2_with fail;obtain⟨wo,hwo⟩: ∃wo:World,wo=wr:=⟨_,rfl⟩;subst hwo
     go_loopw [39] (fun i wq=> ∃(j:Nat) (ch:List aN) (s7:RS) (cv:Value),j<=n2/\i= .int .i64 j/\ch.length=j/\dq data s6 j=(ch,s7)/\dZ rb w3.heap.size wo wq dv data s7 #[.string ⟨nm.toArray⟩, .int .i64 kv, .int .i64 mv, .int .i64 tv, .int .i64 0, .string ⟨#[]⟩,cv, .string ⟨#[]⟩, .int .i64 0, .int .i64 0]/\wq.ownsRow (w3.heap.size+1) 26 3 cv ch.length (ch.flatMap dx)) (fun i _=>n2-(intOf i).toNat)
     case atStart=>exact⟨0,[],s6, .slice none 0 0,Nat.zero_le _,rfl,rfl,rfl,HM7.out,World.ownsRow_nil _ _ _ _⟩
     case round=>
      obtain⟨j,ch,s7,cv,hj,rfl,hlj,hch,hmid,how⟩:=hrel;have HLJ:=ag hlj;have HCH:=ag hch;have HMQ:=ag hmid;have HOQ:=ag how;obtain⟨a6,c6,hv6,hvn6,hvm6⟩:=am how;subst hv6;clear hlj hch hmid how
      by_cases hlt2:j<n2
      ·have ck:=HMQ.out.cell 6;have fk:=HMQ.out.free 6;simp only[aP]at ck;go_wp2_with fail;refine bU (fun w'=>w'.cell? ⟨w3.heap.size,6,none⟩=some (.slice a6 ch.length c6)) (by kernel_rfl) (by kernel_rfl) ?_;simp only[List.dropLast_cons_cons,List.dropLast_singleton,List.length_cons,List.length_nil,Nat.reduceAdd,Nat.reduceSub];have HMD:=ag (HMQ.out.below ((Below.refl _ _).drew))
       refine ah 0 rfl (by kernel_rfl) (by kernel_rfl) (by kernel_rfl) (fun _ _ _ h=>h) rfl (by go_simp) (by intro w' hw'; go_simp; rfl) ?_;simp only[Act.put,aE,aF,aG];refine ah 1 rfl (by kernel_rfl) (by kernel_rfl) (by kernel_rfl) (fun _ _ _ h=>h) rfl (by go_simp) (by intro w' hw'; go_simp; rfl) ?_;simp only[Act.put,aE,aF,aG];refine ah 2 rfl (by kernel_rfl) (by kernel_rfl) (by kernel_rfl) (fun _ _ _ h=>h) rfl (by go_simp) (by intro w' hw'; go_simp; rfl) ?_
       simp only[Act.put,aE,aF,aG];refine ay 3 rfl (by kernel_rfl) rfl (fun K hK=> ?_);go_wp2_with (go_at_call 62; refine(nJ rb dv data s7 _ HMD.out.rd).mono ?_; rintro e wb ⟨r,s8,hp,rfl,h1,h2,hrok⟩; unfold bu);have HP6:=ag hp;have HRO:=ag hrok;have HMB:=ag (HMD.out.call h1 h2);have HOB:=ag (HOQ.out.kept (an (b:=wr.drew) ⟨rfl,rfl,rfl,Nat.le_refl _,fun _ _ _=>rfl⟩ h2) (.inr (by
        intro e;have:=(HOQ.out.lt _ e).1;have:=aQ.lt HRD1.out;have:=HINV.out.grown.size;have:=HMQ.out.ge
        omega)))
       have ck2:=HMB.out.cell 6;have HMC:=ag (HMB.out.below ((Below.refl _ _).alloc (Nat.le_refl _) (.cells #[.string r.name, .int .i64 r.gen, .int .i64 r.size] 26)));have ck3:=HMC.out.cell 6;have fk2:=HMB.out.free 6;have hbz2:w3.heap.size+1<=wb.heap.size:=(Array.getElem?_eq_some_iff.1 HMB.out.box).1;simp only[aP]at ck2 ck3;clear hp h1 h2 hrok ck fk HMQ HMD;refine⟨ck2, ?_⟩;refine ay 4 rfl (by kernel_rfl) rfl (fun K hK=> ?_)
       go_wp2_with fail
       (first | (refine⟨ck3, ?_⟩) | skip)
       refine ay 5 rfl (by kernel_rfl) rfl (fun K hK=> ?_);go_wp2_with (at_builtin; go_must (refine aJ Tryz.appRefs rfl _ _ rfl (w3.heap.size+1) (.slice a6 ch.length c6) ch.length (ch.flatMap dx) rfl wb [.string r.name, .int .i64 r.gen, .int .i64 r.size] _ rfl rfl (jY (r:=r)) HOB.out (by have:=HLJ.out; omega) hbz2 ?_); intro v' wc hown' hgrow' _ hpl; obtain⟨ae,ce,rfl,-,-⟩:=am hown')
       have HMW:=ag (HMB.out.app hgrow' (fun k hk=>by have:=(HOB.out.lt k hk).1; omega));have HOW:=ag (show wc.ownsRow (w3.heap.size+1) 26 3 (.slice ae (ch.length+1) ce) (ch++[r]).length ((ch++[r]).flatMap dx) by rw[List.length_append,List.flatMap_append]; simpa [dx]using hown');have ck4:=HMW.out.cell 6;have fk4:=HMW.out.free 6;simp only[aP]at ck4;clear hown' hgrow' hpl ck2 ck3 fk2 HMC HMB HOB HOQ
       refine⟨ck4, ?_⟩;refine ah 6 rfl (by kernel_rfl) (by kernel_rfl) (by kernel_rfl) (fun _ _ _ h=>h) rfl (by go_simp) (by intro w' hw'; go_simp; rfl) ?_;simp only[Act.put,aE,aF,aG];refine aV (by kernel_rfl) ?_;refine cj rfl rfl (fun K hK=> ?_);go_wp2_with fail
       go_roundw
       case rel=>
        have m4:=HMW.out.set 6 (.slice ae (ch.length+1) ce);simp only[List.setIfInBounds_toArray,List.set_cons_succ,List.set_cons_zero]at m4;refine⟨j+1,ch++[r],s8, .slice ae (ch.length+1) ce,by omega,by go_num,by simp[HLJ.out],uu HCH.out HP6.out,m4,HOW.out.kept (aH _ _ _ _) (.inr (by
         intro e;have:=(HOW.out.lt _ e).1
         omega))⟩
       case measure=>simp[intOf]; omega
      ·obtain rfl:j=n2:=by omega
       have hchok: ∀r∈ch,bo r:=by
        have:=ro data s6 j;rw[HCH.out]at this; exact this
       have HRF:=ag (fz HOQ.out hchok);have ck:=HMQ.out.cell 6;simp only[aP]at ck;clear hchok;go_wp2_with fail;refine(mT _ _ ch _ HRF.out).mono ?_;rintro e wb ⟨rfl,hbt⟩;have HMB:=ag (HMQ.out.below hbt);have HRB:=ag (show aW (fun k=>w3.heap.size<k) wb (.slice a6 ch.length c6) ch from aW.same (aS.below HRF.out (by omega) hbt (fun _ _ _ h=>h)) (fun k hk hS=>⟨by have:=hS.1; omega,rfl⟩))
       have ck4:=HMB.out.cell 4;have fk4:=HMB.out.free 4;simp only[aP]at ck4;obtain⟨tw,htw⟩: ∃tw:Int,tw=du ch:=⟨_,rfl⟩;rw[<-htw];have HTW:=ag htw;clear hbt ck htw HRF
       go_upto_region 23 with(fail)
       obtain⟨wd,hwd⟩: ∃wx:World,wx=wb.setCell ⟨w3.heap.size,4,none⟩ (.int .i64 tw):=⟨_,rfl⟩;rw[<-hwd];have m4:=HMB.out.set 4 (.int .i64 tw);rw[<-hwd]at m4;simp only[List.setIfInBounds_toArray,List.set_cons_succ,List.set_cons_zero]at m4;have HM8:=ag m4;have HIP:=ag (show dM data s=some (⟨⟨nm.toArray⟩,eS kd,eS md,eS td,tw,⟨#[]⟩,ch,bg⟩,s7) by rw[HH.out,xi HK1.out HP5.out HCH.out,HTW.out])
       have HOK:=ag (show cw ⟨⟨nm.toArray⟩,kv,mv,tv,tw,⟨#[]⟩,ch,bg⟩from⟨by show ByteArray.size ⟨_⟩<=_; unfold maxLen; simp[ByteArray.size]; omega,by show ByteArray.size ⟨_⟩<=_; unfold maxLen; simp[ByteArray.size],gF⟩);have HCV:=ag (show aW (wo.heap.size<= ·) wd (.slice a6 ch.length c6) ch from aW.same HRB.out (fun k hk hS=>⟨by have:=HMQ.out.ge; show wo.heap.size<=k; omega,by rw[hwd]; exact Below.heap_setCell _ _ _ _ (by show k≠w3.heap.size; omega)⟩))
       clear m4 hwd ck4 fk4 HMB HMQ HRB;have d0:=HM8.out.cell 0;have d1:=HM8.out.cell 1;have d2:=HM8.out.cell 2;have d3:=HM8.out.cell 3;have d4:=HM8.out.cell 4;have d5:=HM8.out.cell 5;have d6:=HM8.out.cell 6;have d7:=HM8.out.cell 7;have d8:=HM8.out.cell 8;have d9:=HM8.out.cell 9;simp only[aP]at d0 d1 d2 d3 d4 d5 d6 d7 d8 d9;have HOC:=ag (HOWN.out.kept HM8.out.grown (.inr (by
        intro e;have:=(HOWN.out.lt _ e).1;have:=aQ.lt HRD1.out
        omega)))
       have hbz:w1.heap.size<=wd.heap.size:=Nat.le_trans HINV.out.grown.size HM8.out.grown.size;have HXI:=ag (show dM data s=some (⟨⟨nm.toArray⟩,kv,mv,tv,tw,⟨#[]⟩,ch,bg⟩,s7) by rw[HIP.out,Hkv.out,Hmv.out,Htv.out]; rfl);have hlen:l.length<4096:=by have:=HLK.out; omega
       go_wp2_with (at_builtin; go_must (refine aJ Tryz.appItems rfl _ _ rfl w1.heap.size (.slice av l.length cv0) l.length cells rfl wd [.string ⟨nm.toArray⟩, .int .i64 kv, .int .i64 mv, .int .i64 tv, .int .i64 (tw), .string ⟨#[]⟩, .slice a6 ch.length c6, .string ⟨#[]⟩, .int .i64 0, .int .i64 0] _ rfl rfl (dU (it:=⟨⟨nm.toArray⟩,kv,mv,tv,tw,⟨#[]⟩,ch,bg⟩)) HOC.out (by omega) hbz ?_); intro v' we hown' hgrow' _ hpl; have HIE:=ag (HINV.out.added (it:=⟨⟨nm.toArray⟩,kv,mv,tv,tw,⟨#[]⟩,ch,bg⟩) HM8.out HCV.out HOK.out HROW.out HOWN.out hown' hgrow' hpl); obtain⟨ae,ce,rfl,-,-⟩:=am hown'; clear hown' hgrow' hpl)
       go_roundw
       case rel=>exact⟨k+1,l++[⟨⟨nm.toArray⟩,kv,mv,tv,tw,⟨#[]⟩,ch,bg⟩],s7,by omega,by go_num,by simp[HLK.out],ij HIT.out HXI.out,HIE.out⟩
       case measure=>simp[intOf]; omega
    ·have e1:(kv == 1)=false:=by simp[hk1]
     by_cases hk2:kv=2
     ·have e2:(kv == 2)=true:=by simp[hk2]
      have HK2:=ag (show eS kd=2 from Hkv.out.symm.trans hk2);clear hk1 hk2;go_wp2_with fail;refine(nJ rb dv data s5 _ HM6.out.rd).mono ?_;rintro e wa ⟨r,s6,hp,rfl,h1,h2,hrok⟩;have HP5:=ag hp;have HRO:=ag hrok;have HM7:=ag (HM6.out.call h1 h2);have c7:=HM7.out.cell 7;have c8:=HM7.out.cell 8;have c9:=HM7.out.cell 9;have f7:=HM7.out.free 7;have f8:=HM7.out.free 8
      have f9:=HM7.out.free 9;simp only[aP]at c7 c8 c9;unfold bu;clear hp h1 h2 hrok ck
      go_upto_region 23 with(fail)
      obtain⟨wb,hwb⟩: ∃wx:World,wx=((wa.setCell ⟨w3.heap.size,7,none⟩ (.string r.name)).setCell ⟨w3.heap.size,8,none⟩ (.int .i64 r.gen)).setCell ⟨w3.heap.size,9,none⟩ (.int .i64 r.size):=⟨_,rfl⟩;rw[<-hwb];have m4:=((HM7.out.set 7 (.string r.name)).set 8 (.int .i64 r.gen)).set 9 (.int .i64 r.size);rw[<-hwb]at m4;simp only[List.setIfInBounds_toArray,List.set_cons_succ,List.set_cons_zero]at m4
      have HM8:=ag m4;have HIP:=ag (HH.out.trans (zL HK2.out HP5.out));have HOK:=ag (show cw ⟨⟨nm.toArray⟩,kv,mv,tv,0,⟨#[]⟩,[],r⟩from⟨by show ByteArray.size ⟨_⟩<=_; unfold maxLen; simp[ByteArray.size]; omega,by show ByteArray.size ⟨_⟩<=_; unfold maxLen; simp[ByteArray.size],HRO.out⟩);have HCV:=ag (show aW (wr.heap.size<= ·) wb (.slice none 0 0) []from aS.nil)
      clear m4 hwb c7 c8 c9 f7 f8 f9 HM7 HM6;have d0:=HM8.out.cell 0;have d1:=HM8.out.cell 1;have d2:=HM8.out.cell 2;have d3:=HM8.out.cell 3;have d4:=HM8.out.cell 4;have d5:=HM8.out.cell 5;have d6:=HM8.out.cell 6;have d7:=HM8.out.cell 7;have d8:=HM8.out.cell 8;have d9:=HM8.out.cell 9;simp only[aP]at d0 d1 d2 d3 d4 d5 d6 d7 d8 d9;have HOC:=ag (HOWN.out.kept HM8.out.grown (.inr (by
       intro e;have:=(HOWN.out.lt _ e).1;have:=aQ.lt HRD1.out
       omega)))
      have hbz:w1.heap.size<=wb.heap.size:=Nat.le_trans HINV.out.grown.size HM8.out.grown.size;have HXI:=ag (show dM data s=some (⟨⟨nm.toArray⟩,kv,mv,tv,0,⟨#[]⟩,[],r⟩,s6) by rw[HIP.out,Hkv.out,Hmv.out,Htv.out]; rfl);have hlen:l.length<4096:=by have:=HLK.out; omega
      go_wp2_with (at_builtin; go_must (refine aJ Tryz.appItems rfl _ _ rfl w1.heap.size (.slice av l.length cv0) l.length cells rfl wb [.string ⟨nm.toArray⟩, .int .i64 kv, .int .i64 mv, .int .i64 tv, .int .i64 (0), .string ⟨#[]⟩, .slice none 0 0, .string r.name, .int .i64 r.gen, .int .i64 r.size] _ rfl rfl (dU (it:=⟨⟨nm.toArray⟩,kv,mv,tv,0,⟨#[]⟩,[],r⟩)) HOC.out (by omega) hbz ?_); intro v' we hown' hgrow' _ hpl; have HIE:=ag (HINV.out.added (it:=⟨⟨nm.toArray⟩,kv,mv,tv,0,⟨#[]⟩,[],r⟩) HM8.out HCV.out HOK.out HROW.out HOWN.out hown' hgrow' hpl); obtain⟨ae,ce,rfl,-,-⟩:=am hown'; clear hown' hgrow' hpl)
      go_roundw
      case rel=>exact⟨k+1,l++[⟨⟨nm.toArray⟩,kv,mv,tv,0,⟨#[]⟩,[],r⟩],s6,by omega,by go_num,by simp[HLK.out],ij HIT.out HXI.out,HIE.out⟩
      case measure=>simp[intOf]; omega
     ·have e2:(kv == 2)=false:=by simp[hk2]
      by_cases hk3:kv=3
      ·have e3:(kv == 3)=true:=by simp[hk3]
       have HK3:=ag (show eS kd=3 from Hkv.out.symm.trans hk3);clear hk1 hk2 hk3;go_wp2_with fail;refine(Du rb dv data s5 512 _ HM6.out.rd (by omega)).mono ?_;rintro e wa ⟨lk,s6,hp,rfl,h1,h2⟩;have HP5:=ag hp;have hlks:lk.length<=512:=by have:=tV data 512 s5; rw[hp]at this; exact this
       have HM7:=ag (HM6.out.call h1 h2);have c7:=HM7.out.cell 5;have f7:=HM7.out.free 5;simp only[aP]at c7;clear hp h1 h2 ck
       go_upto_region 23 with(fail)
       obtain⟨wb,hwb⟩: ∃wx:World,wx=wa.setCell ⟨w3.heap.size,5,none⟩ (.string ⟨lk.toArray⟩):=⟨_,rfl⟩;rw[<-hwb];have m4:=HM7.out.set 5 (.string ⟨lk.toArray⟩);rw[<-hwb]at m4;simp only[List.setIfInBounds_toArray,List.set_cons_succ,List.set_cons_zero]at m4;have HM8:=ag m4;have HIP:=ag (HH.out.trans (xk HK3.out HP5.out));have HOK:=ag (show cw ⟨⟨nm.toArray⟩,kv,mv,tv,0,⟨lk.toArray⟩,[],bg⟩from⟨by show ByteArray.size ⟨_⟩<=_; unfold maxLen; simp[ByteArray.size]; omega,by show ByteArray.size ⟨_⟩<=_; unfold maxLen; simp[ByteArray.size]; omega,gF⟩)
       have HCV:=ag (show aW (wr.heap.size<= ·) wb (.slice none 0 0) []from aS.nil);clear m4 hwb c7 f7 HM7 HM6;have d0:=HM8.out.cell 0;have d1:=HM8.out.cell 1;have d2:=HM8.out.cell 2;have d3:=HM8.out.cell 3;have d4:=HM8.out.cell 4;have d5:=HM8.out.cell 5;have d6:=HM8.out.cell 6;have d7:=HM8.out.cell 7;have d8:=HM8.out.cell 8;have d9:=HM8.out.cell 9;simp only[aP]at d0 d1 d2 d3 d4 d5 d6 d7 d8 d9
       have HOC:=ag (HOWN.out.kept HM8.out.grown (.inr (by
        intro e;have:=(HOWN.out.lt _ e).1;have:=aQ.lt HRD1.out
        omega)))
       have hbz:w1.heap.size<=wb.heap.size:=Nat.le_trans HINV.out.grown.size HM8.out.grown.size;have HXI:=ag (show dM data s=some (⟨⟨nm.toArray⟩,kv,mv,tv,0,⟨lk.toArray⟩,[],bg⟩,s6) by rw[HIP.out,Hkv.out,Hmv.out,Htv.out]; rfl);have hlen:l.length<4096:=by have:=HLK.out; omega
       go_wp2_with (at_builtin; go_must (refine aJ Tryz.appItems rfl _ _ rfl w1.heap.size (.slice av l.length cv0) l.length cells rfl wb [.string ⟨nm.toArray⟩, .int .i64 kv, .int .i64 mv, .int .i64 tv, .int .i64 (0), .string ⟨lk.toArray⟩, .slice none 0 0, .string ⟨#[]⟩, .int .i64 0, .int .i64 0] _ rfl rfl (dU (it:=⟨⟨nm.toArray⟩,kv,mv,tv,0,⟨lk.toArray⟩,[],bg⟩)) HOC.out (by omega) hbz ?_); intro v' we hown' hgrow' _ hpl; have HIE:=ag (HINV.out.added (it:=⟨⟨nm.toArray⟩,kv,mv,tv,0,⟨lk.toArray⟩,[],bg⟩) HM8.out HCV.out HOK.out HROW.out HOWN.out hown' hgrow' hpl); obtain⟨ae,ce,rfl,-,-⟩:=am hown'; clear hown' hgrow' hpl)
       go_roundw
       case rel=>exact⟨k+1,l++[⟨⟨nm.toArray⟩,kv,mv,tv,0,⟨lk.toArray⟩,[],bg⟩],s6,by omega,by go_num,by simp[HLK.out],ij HIT.out HXI.out,HIE.out⟩
       case measure=>simp[intOf]; omega
      ·have e3:(kv == 3)=false:=by simp[hk3]
       have HIN:=ag (ny HBIG.out HCN.out (ve (nw HIT.out (HH.out.trans (xm (fun e=>hk1 (Hkv.out.trans e)) (fun e=>hk2 (Hkv.out.trans e)) (fun e=>hk3 (Hkv.out.trans e))))) n (by omega)));clear hk1 hk2 hk3;go_wp2_with fail
       go_ret2
       have hfb:Below w.heap.size w w9:=HB1.out.trans ((bW.of_grown (S:=fun k=>k=rb) (an HINV.out.grown HM6.out.grown) (fun k hk=>by cases hk; rfl)).below HB1.out.size (fun k hk=>by subst hk; exact hge));exact⟨hfb,by rw[HIN.out]; rfl⟩
   ·obtain rfl:k=n:=by omega
    have HIS:=ag (nz HBIG.out HCN.out HIT.out);have HIA:=ag (show ba (w.heap.size<= ·) wr (.slice av l.length cv0) l from by
     have hww:=HB1.out.size;refine⟨cells,(bi HOWN.out).weak (fun k hk=>by have:=hk.1; omega),HROW.out.mono (fun c x _ hx=>hx.same (fun k hk hS=>⟨by have:=hS.1; omega,rfl⟩))⟩)
    have HFB:=ag (show Below w.heap.size w wr from HB1.out.trans ((bW.of_grown (S:=fun k=>k=rb) HINV.out.grown (fun k hk=>by cases hk; rfl)).below HB1.out.size (fun k hk=>by subst hk; exact hge)));go_wp2_with fail;refine(Er rb dv data s _ HRD.out).mono ?_;rintro e we ⟨rfl,nd,rfl⟩;obtain⟨ev,hev⟩: ∃ev:Int,ev=fi data s:=⟨_,rfl⟩;rw[<-hev];have HEV:=ag hev;clear hev
    by_cases h0:ev=0
    ·subst h0;have HIA2:=ag (show ba (w.heap.size<= ·) (wr.drewN nd) (.slice av l.length cv0) l from ba.below HIA.out (bq (Below.refl _ _) nd));have HE2:=ag (HE.out.below (bq HFB.out nd))
     cases hvn2:cr l
     ·have HIN:=ag (show bB data=none by rw[HIS.out,hvn2]; simp);have HVN:=ag hvn2;clear hvn2;go_wp2_with fail;refine(gq _ l _ false _ HIA2.out HE2.out HVN.out).mono ?_;rintro e wf ⟨rfl,hbf⟩;have HBF:=ag (ai (bq HFB.out nd) hbf);clear hbf;go_wp2_with fail
      go_ret2
      exact⟨HBF.out,by rw[HIN.out]; rfl⟩
     ·have HIN:=ag (show bB data=some l by rw[HIS.out,hvn2]; simp[HEV.out.symm]);have HVN:=ag hvn2;clear hvn2;go_wp2_with fail;refine(gq _ l _ true _ HIA2.out HE2.out HVN.out).mono ?_;rintro e wf ⟨rfl,hbf⟩;have HBF:=ag (ai (bq HFB.out nd) hbf);have HIF:=ag (ba.below HIA2.out hbf);clear hbf;go_wp2_with fail
      go_ret2
      exact⟨HBF.out,by rw[HIN.out]; exact⟨_,rfl,HIF.out⟩⟩
    ·have HIN:=ag (show bB data=none by rw[HIS.out,if_neg (fun h=>h0 (HEV.out.trans h.1))]);have e6:(ev != 0)=true:=by simp[h0]
     clear h0;go_wp2_with fail
     go_ret2
     exact⟨bq HFB.out nd,by rw[HIN.out]; rfl⟩
end Go.Proofs.YtpffpjbkbaleiaaGreatDoor
namespace Go.Proofs.YtpffpjbkbaleiaaGreatDoor
open Go Go.RowKit
def eq (l:List aB) (k:Nat):List UInt8:=aO l.length++(l.take k).flatMap dF
theorem tu {l:List aB} {k:Nat} {it:aB} (h:l[k]? =some it):eq l (k+1)=eq l k++dF it:=by
 unfold eq;rw[List.take_add_one,h,List.flatMap_append,<-List.append_assoc]; simp
theorem uI (l:List aB):eq l l.length=dP l:=by unfold eq dP; rw[List.take_length]
theorem pg (l:List aB) (k:Nat):(eq l k).length<=(dP l).length:=by
 have:(l.flatMap dF).length=((l.take k).flatMap dF).length+((l.drop k).flatMap dF).length:=by
  rw[<-List.length_append,<-List.flatMap_append,List.take_append_drop]
 unfold eq dP;rw[List.length_append,List.length_append];omega
def oA (l:List aB) (w:World) (e:Ending) (w':World):Prop:=Below w.heap.size w w'/\
 if cr l=true then(if(dP l).length<=32768 then ∃v,e= .returned (.tuple #[v, .int .i64 0])/\gO w' w.heap.size v (dP l)else e= .returned (.tuple #[.slice none 0 0, .int .i64 2]))
 else e= .returned (.tuple #[.slice none 0 0, .int .i64 1])
theorem vB (S:Nat->Prop) (l:List aB) (v:Value) (w:World) (hv:ba S w v l) (henv:gN w) (hsm:(dP l).length<1000000000000) (htm: ∀it∈l,it.time<9223372036854775808):Calls Tryz.prog 15 #[v] w (oA l w):=by
 obtain⟨a,cap,rfl,hc,hm,-⟩:=aS.shape hv dX.len;unfold maxLen at hm;obtain⟨n,hn⟩: ∃n,n=l.length:=⟨_,rfl⟩;rw[<-hn]at hv hc ⊢;have HV:=ag hv;have HE:=ag henv;have HN:=ag hn;have HSM:=ag hsm;have HTM:=ag htm;clear hv henv hn hsm htm
 by_cases hval:cr l=true
 ·have HVN:=ag hval;have HALL:=ag (kF hval);clear hval;have hn4:n<=4096:=by rw[HN.out]; exact HALL.out.1
  go_enter Tryz.func15,Tryz.ntmps15
  go_wp2_with fail;refine(gq S l _ true w HV.out HE.out HVN.out).mono ?_;rintro e w1 ⟨rfl,hb1⟩;have HB1:=ag hb1;clear hb1;go_wp2_with fail;refine(qM w1).mono ?_;rintro e w2 ⟨rfl,hw2,hb2⟩;obtain⟨wb,hwb⟩: ∃wb,wb=w1.heap.size:=⟨_,rfl⟩;rw[<-hwb]at hw2 ⊢;have HB2:=ag (ai HB1.out hb2);have HW2:=ag hw2;have HWB:=ag (show w.heap.size<=wb by rw[hwb]; exact HB1.out.size)
  clear hw2 hb2 hwb;go_wp2_with fail;refine(qw wb n [] w2 HW2.out (by simp) (by omega)).mono ?_;rintro e w3 ⟨rfl,hw3,hk3⟩;rw[List.nil_append]at hw3;have HW3:=ag hw3;have HB3:=ag (HB2.out.trans (hk3.1.mono HWB.out));clear hw3 hk3;go_wp2_with fail
  go_loopw [21] (fun i wr=> ∃k:Nat,k<=n/\i= .int .i64 (k:Int)/\lB wr wb (eq l k)/\Below w.heap.size w wr) (fun i _=>n-(intOf i).toNat)
  case atStart=>exact⟨0,Nat.zero_le _,rfl,by have:=HW3.out; rw[HN.out]at this; simpa [eq]using this,HB3.out⟩
  case round=>
   obtain⟨k,hk,rfl,hw,hb⟩:=hrel;have HW:=ag hw;have HB:=ag hb;clear hw hb
   by_cases hlt:k<n
   ·obtain⟨it,hr⟩: ∃it,l[k]? =some it:=⟨l[k]'(by rw[<-HN.out]; exact hlt),by simp⟩;obtain⟨b,o,ca,cc,rfl,hok,hrf,hbl,-,hcl0⟩:=ei HV.out (Below.refl _ _) hr;have hcl: ∀j,j<10->wr.cell? ⟨b,o+k*10+j,none⟩=(cV (.slice ca it.chunks.length cc) it)[j]? :=fun j hj=>(HB.out.cell (p:=⟨b,o+k*10+j,none⟩) hbl).trans (hcl0 j hj)
    have HR:=ag hr;have HO:=ag hok;have HRF:=ag hrf;have HVI:=ag (HALL.out.2 it (List.mem_of_getElem? hr));have q0:=hcl 0 (by omega);have q1:=hcl 1 (by omega);have q2:=hcl 2 (by omega);have q3:=hcl 3 (by omega);have q4:=hcl 4 (by omega);have q5:=hcl 5 (by omega);have q6:=hcl 6 (by omega);have q7:=hcl 7 (by omega);have q8:=hcl 8 (by omega);have q9:=hcl 9 (by omega);simp only[cV,Ci,Nat.add_zero]at q0 q1 q2 q3 q4 q5 q6 q7 q8 q9
    have hvi:=HVI.out;unfold bF at hvi;rw[Bool.and_eq_true]at hvi;have hh:=lS.1 hvi.1;have HBK:=ag (mF hvi.2);have HVB:=ag hvi.2;have htm:=HTM.out it (List.mem_of_getElem? hr);obtain⟨kd,hkd⟩: ∃kd,kd=it.kind.toNat:=⟨_,rfl⟩;obtain⟨md,hmd⟩: ∃md,md=it.mode.toNat:=⟨_,rfl⟩;obtain⟨td,htd⟩: ∃td,td=it.time.toNat:=⟨_,rfl⟩;have hk0:=hh.md0;have hm0:=hh.md1
    have ht0:=hh.tm0;have hnm:=oW hh.val hh.nos;have hki:it.kind=(kd:Int):=by rcases HBK.out with h | h | h<;> omega
    have hmi:it.mode=(md:Int):=by omega
    have hti:it.time=(td:Int):=by omega
    have hkd3:kd<=3:=by rcases HBK.out with h | h | h<;> omega
    have hmd9:md<=511:=by omega
    have htd9:td<9223372036854775808:=by omega
    have HIN:=ag (And.intro hkd (And.intro hmd htd));have hns:it.name.size=(bl it.name).length:=az _;have hwk:IntKind.u64.wrap (kd:Int)=(kd:Int):=by rw[IntKind.wrap_u64]; omega
    have hwm:IntKind.u64.wrap (md:Int)=(md:Int):=by rw[IntKind.wrap_u64]; omega
    have hwt:IntKind.u64.wrap (td:Int)=(td:Int):=by rw[IntKind.wrap_u64]; omega
    rw[hki]at q1;rw[hmi]at q2;rw[hti]at q3;have HBKk:=ag (show kd=1\/kd=2\/kd=3 by rcases HBK.out with h | h | h<;> omega);have HKI:=ag hki;clear hr hok hrf hcl hcl0 hvi hh htm hkd hmd htd hk0 hm0 ht0 hki hmi hti;have l1:=pg l k;have l2:=HSM.out;have l3:=dG (n:=it.name.size) (by omega);have l4:=dG (n:=kd) (by omega);have l5:=dG (n:=md) (by omega)
    have l6:=dG (n:=td) (by omega);have HLN:=ag (show(eq l k).length<1000000000000/\(aO it.name.size).length<=10/\(aO kd).length<=10/\(aO md).length<=10/\(aO td).length<=10/\(bl it.name).length<=64/\it.name.size<=64 from⟨by omega,l3,l4,l5,l6,hnm,by omega⟩);clear l1 l2 l3 l4 l5 l6 hnm hns;have hwbl:wb<wr.heap.size:=by obtain⟨_,h,_⟩:=HW.out; exact lt_of_block h
    have HA:=ag ((Below.refl wr.heap.size wr).alloc (Nat.le_refl _) (.cells #[.string it.name, .int .i64 (kd:Int), .int .i64 (md:Int), .int .i64 (td:Int), .int .i64 it.size, .string it.link, .slice ca it.chunks.length cc, .string it.node.name, .int .i64 it.node.gen, .int .i64 it.node.size] 28));have HX4:=ag (bS wr (.cells #[.string it.name, .int .i64 (kd:Int), .int .i64 (md:Int), .int .i64 (td:Int), .int .i64 it.size, .string it.link, .slice ca it.chunks.length cc, .string it.node.name, .int .i64 it.node.gen, .int .i64 it.node.size] 28))
    have HW4:=ag (HW.out.below HA.out);have HB4:=ag (HB.out.trans (HA.out.mono HB.out.size));go_wp2_with fail;clear q0 q1 q2 q3 q4 q5 q6 q7 q8 q9;refine(sK wb it.name _ _ HW4.out (by have:=HLN.out; omega) (by have:=HLN.out; omega)).mono ?_;rintro e wx ⟨rfl,hw5,hk5⟩;have HX5:=ag ((hk5.2 _ (by decide) (by decide) _ _ HX4.out).trans HX4.out);have HW5:=ag hw5;have HB5:=ag (HB4.out.trans (hk5.1.mono HWB.out))
    clear hw5 hk5 HX4 HW4 HB4;have HX4:=HX5;have HW4:=HW5;have HB4:=HB5;clear HX5 HW5 HB5;have c0:=af (k:=0) HX4.out;have c1:=af (k:=1) HX4.out;have c2:=af (k:=2) HX4.out;have c3:=af (k:=3) HX4.out;have c5:=af (k:=5) HX4.out;have c6:=af (k:=6) HX4.out;have c7:=af (k:=7) HX4.out;have c8:=af (k:=8) HX4.out;have c9:=af (k:=9) HX4.out
    simp only[aP]at c0 c1 c2 c3 c5 c6 c7 c8 c9;go_wp2_with fail;clear c0 c1 c2 c3 c5 c6 c7 c8 c9;refine(fd wb kd _ _ HW4.out (by have:=HLN.out; simp only[List.length_append]; omega) (by omega)).mono ?_;rintro e wx ⟨rfl,hw5,hk5⟩;have HX5:=ag ((hk5.2 _ (by decide) (by decide) _ _ HX4.out).trans HX4.out);have HW5:=ag hw5;have HB5:=ag (HB4.out.trans (hk5.1.mono HWB.out));clear hw5 hk5 HX4 HW4 HB4
    have HX4:=HX5;have HW4:=HW5;have HB4:=HB5;clear HX5 HW5 HB5;have c0:=af (k:=0) HX4.out;have c1:=af (k:=1) HX4.out;have c2:=af (k:=2) HX4.out;have c3:=af (k:=3) HX4.out;have c5:=af (k:=5) HX4.out;have c6:=af (k:=6) HX4.out;have c7:=af (k:=7) HX4.out;have c8:=af (k:=8) HX4.out;have c9:=af (k:=9) HX4.out;simp only[aP]at c0 c1 c2 c3 c5 c6 c7 c8 c9
    go_wp2_with fail;clear c0 c1 c2 c3 c5 c6 c7 c8 c9;refine(fd wb md _ _ HW4.out (by have:=HLN.out; simp only[List.length_append]; omega) (by omega)).mono ?_;rintro e wx ⟨rfl,hw5,hk5⟩;have HX5:=ag ((hk5.2 _ (by decide) (by decide) _ _ HX4.out).trans HX4.out);have HW5:=ag hw5;have HB5:=ag (HB4.out.trans (hk5.1.mono HWB.out));clear hw5 hk5 HX4 HW4 HB4;have HX4:=HX5;have HW4:=HW5
    have HB4:=HB5;clear HX5 HW5 HB5;have c0:=af (k:=0) HX4.out;have c1:=af (k:=1) HX4.out;have c2:=af (k:=2) HX4.out;have c3:=af (k:=3) HX4.out;have c5:=af (k:=5) HX4.out;have c6:=af (k:=6) HX4.out;have c7:=af (k:=7) HX4.out;have c8:=af (k:=8) HX4.out;have c9:=af (k:=9) HX4.out;simp only[aP]at c0 c1 c2 c3 c5 c6 c7 c8 c9;go_wp2_with fail
    clear c0 c1 c2 c3 c5 c6 c7 c8 c9;have HNX:=ag (tu HR.out);have HLX:=ag (show(eq l (k+1)).length<1000000000000 by have h1:=pg l (k+1); have h2:=HSM.out; omega)
    rcases HBKk.out with h | h | h
    ·subst h;have hbf:=iN (by rw[HKI.out]; rfl) HVB.out;have HBF:=ag hbf.2.2.1;obtain⟨_,_,heq,hcn,hcm,-⟩:=aS.shape HRF.out jB.len;simp only[Value.slice.injEq]at heq;obtain⟨rfl,-,rfl⟩:=heq;obtain⟨n2,hn2⟩: ∃n2,n2=it.chunks.length:=⟨_,rfl⟩;have HN2:=ag hn2;unfold maxLen at hcm;rw[<-hn2]at HX4 HRF hcn;have hn2b:n2<9223372036854775808:=by omega
     have HTL:=ag (show dF it=aO it.name.size++(bl it.name++(aO 1++(aO md++(aO td++(aO n2++it.chunks.flatMap dH))))) by
      unfold dF lQ;rw[if_pos (by rw[HKI.out]; rfl),<-HIN.out.1,<-HIN.out.2.1,<-HIN.out.2.2,<-hn2])
     clear hn2 hbf;refine(fd wb td _ _ HW4.out (by have:=HLN.out; simp only[List.length_append]; omega) (by omega)).mono ?_;rintro e wx ⟨rfl,hw5,hk5⟩;have HX5:=ag ((hk5.2 _ (by decide) (by decide) _ _ HX4.out).trans HX4.out);have HW5:=ag hw5;have HB5:=ag (HB4.out.trans (hk5.1.mono HWB.out));clear hw5 hk5 HX4 HW4 HB4;have HX4:=HX5;have HW4:=HW5;have HB4:=HB5;clear HX5 HW5 HB5
     have c0:=af (k:=0) HX4.out;have c1:=af (k:=1) HX4.out;have c2:=af (k:=2) HX4.out;have c3:=af (k:=3) HX4.out;have c5:=af (k:=5) HX4.out;have c6:=af (k:=6) HX4.out;have c7:=af (k:=7) HX4.out;have c8:=af (k:=8) HX4.out;have c9:=af (k:=9) HX4.out;simp only[aP]at c0 c1 c2 c3 c5 c6 c7 c8 c9;go_wp2_with fail;clear c0 c1 c2 c3 c5 c6 c7 c8 c9
     refine(qw wb n2 _ _ HW4.out (by have:=HLN.out; simp only[List.length_append]; omega) hn2b).mono ?_;rintro e wx ⟨rfl,hw5,hk5⟩;have HX5:=ag ((hk5.2 _ (by decide) (by decide) _ _ HX4.out).trans HX4.out);have HW5:=ag hw5;have HB5:=ag (HB4.out.trans (hk5.1.mono HWB.out));clear hw5 hk5 HX4 HW4 HB4;have HX4:=HX5;have HW4:=HW5;have HB4:=HB5;clear HX5 HW5 HB5;have c0:=af (k:=0) HX4.out
     have c1:=af (k:=1) HX4.out;have c2:=af (k:=2) HX4.out;have c3:=af (k:=3) HX4.out;have c5:=af (k:=5) HX4.out;have c6:=af (k:=6) HX4.out;have c7:=af (k:=7) HX4.out;have c8:=af (k:=8) HX4.out;have c9:=af (k:=9) HX4.out;simp only[aP]at c0 c1 c2 c3 c5 c6 c7 c8 c9;go_wp2_with fail;clear c0 c1 c2 c3 c5 c6 c7 c8 c9;obtain⟨D,hDw,hDe⟩: ∃D,lB wx wb D/\D++it.chunks.flatMap dH=eq l (k+1):=⟨_,HW4.out,by rw[HNX.out,HTL.out]; simp[List.append_assoc]⟩
     have HDW:=ag hDw;have HDE:=ag hDe;clear hDw hDe
     go_loopw [56] (fun j w6=> ∃m:Nat,m<=n2/\j= .int .i64 (m:Int)/\lB w6 wb (D++(it.chunks.take m).flatMap dH)/\Below w.heap.size w w6) (fun j _=>n2-(intOf j).toNat)
     case atStart=>exact⟨0,Nat.zero_le _,rfl,by simpa using HDW.out,HB4.out⟩
     case round=>
      obtain⟨m,hmn,rfl,hw6,hb6⟩:=hrel;have HW6:=ag hw6;have HB6:=ag hb6;clear hw6 hb6
      by_cases hlm:m<n2
      ·obtain⟨r,hr2⟩: ∃r,it.chunks[m]? =some r:=⟨it.chunks[m]'(by rw[<-HN2.out]; exact hlm),by simp⟩;have HR2:=ag hr2;have HVR:=ag ((HBF.out r (List.mem_of_getElem? hr2)).1);obtain⟨b2,o2,rfl,-,p0,p1,p2⟩:=go HRF.out HB6.out hr2;have HLD:=ag (show(D++(it.chunks.take m).flatMap dH).length<1098000000000 by
        have h1:=congrArg List.length HDE.out;have h2:=HLX.out;have h3:(it.chunks.flatMap dH).length=((it.chunks.take m).flatMap dH).length+((it.chunks.drop m).flatMap dH).length:=by
         rw[<-List.length_append,<-List.flatMap_append,List.take_append_drop]
        rw[List.length_append]at h1 ⊢
        omega)
       clear hr2;have HA6:=ag ((Below.refl wr.heap.size wr).alloc (Nat.le_refl _) (.cells #[.string r.name, .int .i64 r.gen, .int .i64 r.size] 26));have HTK:=ag (show(it.chunks.take (m+1)).flatMap dH=(it.chunks.take m).flatMap dH++dH r by
        rw[List.take_add_one,HR2.out,List.flatMap_append]; simp)
       have HR6:=ag (mD wb r _ _ (HW6.out.below HA6.out) HLD.out HVR.out);have HB7:=ag (HB6.out.trans (HA6.out.mono HB6.out.size));go_wp2_with fail;refine HR6.out.mono ?_;rintro e w8 ⟨rfl,hw8,hk8⟩;have HW8:=ag hw8;have HB8:=ag (HB7.out.trans (hk8.1.mono HWB.out));clear hw8 hk8 p0 p1 p2;go_wp2_with fail
       go_roundw
       case rel=>
        refine⟨m+1,by omega,by go_num, ?_,HB8.out⟩;rw[HTK.out,<-List.append_assoc];exact HW8.out
       case measure=>simp[intOf]; omega
      ·have hm2:m=n2:=by omega
       subst hm2;have HWE:=ag (show lB _ wb (eq l (k+1)) by have:=HW6.out; rw[HN2.out,List.take_length,HDE.out]at this; exact this);go_wp2_with fail
       go_roundw
       case rel=>exact⟨k+1,by omega,by go_num,HWE.out,HB6.out⟩
       case measure=>simp[intOf]; omega
    ·subst h;have hbf:=un (by rw[HKI.out]; rfl) HVB.out;have HBF:=ag hbf.2.2.2;have HTL:=ag (show dF it=aO it.name.size++(bl it.name++(aO 2++(aO md++(aO td++dH it.node)))) by
      unfold dF lQ;rw[if_neg (by rw[HKI.out]; decide),if_pos (by rw[HKI.out]; rfl),<-HIN.out.1,<-HIN.out.2.1,<-HIN.out.2.2])
     clear hbf;refine(fd wb td _ _ HW4.out (by have:=HLN.out; simp only[List.length_append]; omega) (by omega)).mono ?_;rintro e wx ⟨rfl,hw5,hk5⟩;have HX5:=ag ((hk5.2 _ (by decide) (by decide) _ _ HX4.out).trans HX4.out);have HW5:=ag hw5;have HB5:=ag (HB4.out.trans (hk5.1.mono HWB.out));clear hw5 hk5 HX4 HW4 HB4;have HX4:=HX5;have HW4:=HW5;have HB4:=HB5;clear HX5 HW5 HB5
     have c0:=af (k:=0) HX4.out;have c1:=af (k:=1) HX4.out;have c2:=af (k:=2) HX4.out;have c3:=af (k:=3) HX4.out;have c5:=af (k:=5) HX4.out;have c6:=af (k:=6) HX4.out;have c7:=af (k:=7) HX4.out;have c8:=af (k:=8) HX4.out;have c9:=af (k:=9) HX4.out;simp only[aP]at c0 c1 c2 c3 c5 c6 c7 c8 c9;go_wp2_with fail;clear c0 c1 c2 c3 c5 c6 c7 c8 c9
     refine(mD wb it.node _ _ HW4.out (by have:=HLN.out; simp only[List.length_append]; omega) HBF.out).mono ?_;rintro e wx ⟨rfl,hw5,hk5⟩;have HX5:=ag ((hk5.2 _ (by decide) (by decide) _ _ HX4.out).trans HX4.out);have HW5:=ag hw5;have HB5:=ag (HB4.out.trans (hk5.1.mono HWB.out));clear hw5 hk5 HX4 HW4 HB4;have HX4:=HX5;have HW4:=HW5;have HB4:=HB5;clear HX5 HW5 HB5;have c0:=af (k:=0) HX4.out
     have c1:=af (k:=1) HX4.out;have c2:=af (k:=2) HX4.out;have c3:=af (k:=3) HX4.out;have c5:=af (k:=5) HX4.out;have c6:=af (k:=6) HX4.out;have c7:=af (k:=7) HX4.out;have c8:=af (k:=8) HX4.out;have c9:=af (k:=9) HX4.out;simp only[aP]at c0 c1 c2 c3 c5 c6 c7 c8 c9;go_wp2_with fail;clear c0 c1 c2 c3 c5 c6 c7 c8 c9
     go_roundw
     case rel=>
      refine⟨k+1,by omega,by go_num, ?_,HB4.out⟩;rw[HNX.out,HTL.out]
      simpa [List.append_assoc]using HW4.out
     case measure=>simp[intOf]; omega
    ·subst h;have hbf:=ri (by rw[HKI.out]; rfl) HVB.out;have HBF:=ag hbf.2.2.2.2.1;have HTL:=ag (show dF it=aO it.name.size++(bl it.name++(aO 3++(aO md++(aO td++(aO it.link.size++bl it.link))))) by
      unfold dF lQ;rw[if_neg (by rw[HKI.out]; decide),if_neg (by rw[HKI.out]; decide),<-HIN.out.1,<-HIN.out.2.1,<-HIN.out.2.2])
     clear hbf;refine(fd wb td _ _ HW4.out (by have:=HLN.out; simp only[List.length_append]; omega) (by omega)).mono ?_;rintro e wx ⟨rfl,hw5,hk5⟩;have HX5:=ag ((hk5.2 _ (by decide) (by decide) _ _ HX4.out).trans HX4.out);have HW5:=ag hw5;have HB5:=ag (HB4.out.trans (hk5.1.mono HWB.out));clear hw5 hk5 HX4 HW4 HB4;have HX4:=HX5;have HW4:=HW5;have HB4:=HB5;clear HX5 HW5 HB5
     have c0:=af (k:=0) HX4.out;have c1:=af (k:=1) HX4.out;have c2:=af (k:=2) HX4.out;have c3:=af (k:=3) HX4.out;have c5:=af (k:=5) HX4.out;have c6:=af (k:=6) HX4.out;have c7:=af (k:=7) HX4.out;have c8:=af (k:=8) HX4.out;have c9:=af (k:=9) HX4.out;simp only[aP]at c0 c1 c2 c3 c5 c6 c7 c8 c9;go_wp2_with fail;clear c0 c1 c2 c3 c5 c6 c7 c8 c9
     refine(sK wb it.link _ _ HW4.out (by have:=HLN.out; simp only[List.length_append]; omega) (by have:=HBF.out; omega)).mono ?_;rintro e wx ⟨rfl,hw5,hk5⟩;have HX5:=ag ((hk5.2 _ (by decide) (by decide) _ _ HX4.out).trans HX4.out);have HW5:=ag hw5;have HB5:=ag (HB4.out.trans (hk5.1.mono HWB.out));clear hw5 hk5 HX4 HW4 HB4;have HX4:=HX5;have HW4:=HW5;have HB4:=HB5;clear HX5 HW5 HB5
     have c0:=af (k:=0) HX4.out;have c1:=af (k:=1) HX4.out;have c2:=af (k:=2) HX4.out;have c3:=af (k:=3) HX4.out;have c5:=af (k:=5) HX4.out;have c6:=af (k:=6) HX4.out;have c7:=af (k:=7) HX4.out;have c8:=af (k:=8) HX4.out;have c9:=af (k:=9) HX4.out;simp only[aP]at c0 c1 c2 c3 c5 c6 c7 c8 c9;go_wp2_with fail;clear c0 c1 c2 c3 c5 c6 c7 c8 c9
     go_roundw
     case rel=>
      refine⟨k+1,by omega,by go_num, ?_,HB4.out⟩;rw[HNX.out,HTL.out]
      simpa [List.append_assoc]using HW4.out
     case measure=>simp[intOf]; omega
   ·have hk2:k=n:=by omega
    subst hk2;have HWE:=ag (show lB wr wb (dP l) by have:=HW.out; rw[HN.out,uI]at this; exact this);go_wp2_with fail;refine(Bh wb (dP l) wr HWE.out (by have:=HSM.out; omega)).mono ?_;rintro e w9 ⟨hb9,hif⟩;obtain⟨m,hm0⟩: ∃m,m=(dP l).length:=⟨_,rfl⟩;rw[<-hm0]at hif;have HM0:=ag hm0;have HB9:=ag (HB.out.trans (hb9.mono HB.out.size));have hbs:=HB.out.size
    by_cases hbig:m<=1048576
    ·rw[if_pos hbig]at hif;obtain⟨v9,rfl,ho9⟩:=hif;obtain⟨a9,c9,hv9,-,-⟩:=am ho9;rw[<-hm0]at hv9;subst hv9;have HO9:=ag (ci ho9 hbs);clear hm0 ho9 hb9
     by_cases hsmall:m<=32768
     ·have hmi:(m:Int)<=32768:=by omega
      go_wp2_with fail
      go_ret2
      refine⟨HB9.out, ?_⟩;rw[if_pos HVN.out,<-HM0.out,if_pos hsmall];exact⟨_,rfl,HO9.out⟩
     ·have hmi:(32768:Int)<(m:Int):=by omega
      have HSB:=ag hsmall;clear hsmall;go_wp2_with fail
      go_ret2
      refine⟨HB9.out, ?_⟩;rw[if_pos HVN.out,<-HM0.out,if_neg HSB.out]
      rfl
    ·rw[if_neg hbig]at hif;subst hif;have HSB:=ag (show ¬m<=32768 by omega);clear hm0 hb9 hbig;go_wp2_with fail
     go_ret2
     refine⟨HB9.out, ?_⟩;rw[if_pos HVN.out,<-HM0.out,if_neg HSB.out]
     rfl
 ·have HVN:=ag (show cr l=false by simpa using hval);clear hval
  go_enter Tryz.func15,Tryz.ntmps15
  go_wp2_with fail;refine(gq S l _ false w HV.out HE.out HVN.out).mono ?_;rintro e w1 ⟨rfl,hb1⟩;have HB1:=ag hb1;clear hb1;go_wp2_with fail
  go_ret2
  refine⟨HB1.out, ?_⟩;rw[HVN.out]
  rfl
end Go.Proofs.YtpffpjbkbaleiaaGreatDoor
namespace Go.Proofs.YtpffpjbkbaleiaaGreatDoor
open Go.RowKit Go.Maps
def bz (S:Nat->Prop) (w:World):List (Value×Value)->List (ByteArray×List UInt8)->Prop
 | [],[]=>True
 | (k,v)::m,(n,bs)::cs=>k= .string n/\aD S w v bs/\bz S w m cs
 | _,_=>False
theorem bz.mono {S:Nat->Prop} {w w':World} : ∀ {m:List (Value×Value)} {cs:List (ByteArray×List UInt8)},bz S w m cs->(∀v bs,aD S w v bs->aD S w' v bs)->bz S w' m cs
 | [],[],_,_=>trivial
 | [],_::_,h,_=>h
 | _::_,[],h,_=>h
 | (_,_)::_,(_,_)::_,h,hm=>⟨h.1,hm _ _ h.2.1,bz.mono h.2.2 hm⟩
def dg :List (ByteArray×List UInt8)->ByteArray->Option (List UInt8)
 | [],_=>none
 | (k,bs)::cs,n=>if k=n then some bs else dg cs n
theorem bz.hit {S:Nat->Prop} {w:World} {n:ByteArray} {bs:List UInt8} : ∀ {m:List (Value×Value)} {cs:List (ByteArray×List UInt8)},bz S w m cs->dg cs n=some bs-> ∃v,(Value.string n,v)∈m/\aD S w v bs
 | [],[],_,hf=>by simp[dg]at hf
 | [],_::_,h,_=>False.elim h
 | _::_,[],h,_=>False.elim h
 | (k,v)::m,(n',bs')::cs,h,hf=>by
  simp only[dg]at hf
  split at hf
  ·rename_i e;simp only[Option.some.injEq]at hf;subst hf e;exact⟨v,by rw[h.1]; simp,h.2.1⟩
  ·obtain⟨v',h1,h2⟩:=bz.hit h.2.2 hf;exact⟨v',by simp[h1],h2⟩
theorem bz.miss {S:Nat->Prop} {w:World} {n:ByteArray} : ∀ {m:List (Value×Value)} {cs:List (ByteArray×List UInt8)},bz S w m cs->dg cs n=none-> ∀p∈m,p.1≠Value.string n
 | [],[],_,_,_,hp=>by simp at hp
 | [],_::_,h,_,_,_=>False.elim h
 | _::_,[],h,_,_,_=>False.elim h
 | (k,v)::m,(n',bs')::cs,h,hf,p,hp=>by
  simp only[dg]at hf
  split at hf
  ·simp at hf
  ·rename_i e
   rcases List.mem_cons.1 hp with rfl | hp
   ·intro e2;have:=h.1.symm.trans e2;simp only[Value.string.injEq]at this;exact e this
   ·exact bz.miss h.2.2 hf p hp
def bE (S:Nat->Prop) (w:World) (cv:Value) (cs:List (ByteArray×List UInt8)):Prop:=
 (cv= .map none/\cs=[])\/ ∃b m,cv= .map (some b)/\S b/\dB Tryz.prog 9 w b m/\bz S w m cs
theorem bE.below {S:Nat->Prop} {w w':World} {cv:Value} {cs:List (ByteArray×List UInt8)} (h:bE S w cv cs) (hb:Below w.heap.size w w'):bE S w' cv cs:=by
 rcases h with h | ⟨b,m,h1,h0,h2,h3⟩
 ·exact .inl h
 ·exact .inr ⟨b,m,h1,h0,h2.same (hb.block b h2.lt),h3.mono (fun v bs hv=>aT.below hv (by omega) hb)⟩
theorem jQ :Keyed Tryz.prog 9:=string_keyed Tryz.underlying9
theorem mL {n:ByteArray} (h:n.size<=maxLen): ∃l,keyOf Tryz.prog 9 (.string n)=some l:=⟨.string n.data.toList,by simp[keyOf,mapKey,Tryz.underlying9,h]⟩
theorem bE.hitL {S:Nat->Prop} {w:World} {cv:Value} {cs:List (ByteArray×List UInt8)} (h:bE S w cv cs) {n:ByteArray} {bs:List UInt8} (hn:n.size<=maxLen) (hf:dg cs n=some bs):
  ∃v,(Instr.lookup 133 cv (.string n) true).run Tryz.prog w= .ok (.tuple #[v, .bool true]) w/\aD S w v bs:=by
 rcases h with⟨_,rfl⟩ | ⟨b,m,rfl,_,h2,h3⟩
 ·simp[dg]at hf
 ·obtain⟨v,hv,hb⟩:=h3.hit hf;exact⟨v,h2.hit jQ (t:=133) (e:=29) (by kernel_rfl) (mL hn) hv true,hb⟩
theorem bE.missL {S:Nat->Prop} {w:World} {cv:Value} {cs:List (ByteArray×List UInt8)} (h:bE S w cv cs) {n:ByteArray} (hn:n.size<=maxLen) (hf:dg cs n=none):
  (Instr.lookup 133 cv (.string n) true).run Tryz.prog w= .ok (.tuple #[.slice none 0 0, .bool false]) w:=by
 obtain⟨l,hl⟩:=mL hn
 rcases h with⟨rfl,_⟩ | ⟨b,m,rfl,_,h2,h3⟩
 ·exact Maps.look_nil true jQ (t:=133) (e:=29) (by kernel_rfl) (by kernel_rfl) hl
 ·exact h2.miss jQ (t:=133) (e:=29) (by kernel_rfl) (by kernel_rfl) (mL hn) (h3.miss hf) true
def cy (cs:List (ByteArray×List UInt8)) (r:aN):Except Int (List UInt8):=match dg cs r.name with
 | none=> .error 10
 | some bs=>if(bs.length:Int)=r.size then .ok bs else .error 9
def cI (cs:List (ByteArray×List UInt8)) (r:aN):Except Int (List aB):=match cy cs r with
 | .error e=> .error e
 | .ok bs=>match bB bs with
  | none=> .error 9
  | some l=> .ok l
def lC (cs:List (ByteArray×List UInt8)) (r:aN) (S:Nat->Prop) (w:World) (e:Ending) (w':World):Prop:=Below w.heap.size w w'/\match cy cs r with
 | .error x=>e= .returned (.tuple #[.slice none 0 0, .int .i64 x])/\x≠0
 | .ok bs=> ∃v,e= .returned (.tuple #[v, .int .i64 0])/\aD S w' v bs
theorem rp (S:Nat->Prop) (cv:Value) (cs:List (ByteArray×List UInt8)) (r:aN) (w:World) (hc:bE S w cv cs) (hr:bo r):Calls Tryz.prog 129 #[cv,bu r] w (lC cs r S w):=by
 have hnm:=hr.nm;have HC:=ag (hc.below ((Below.refl _ _).alloc (Nat.le_refl _) (.cells #[.string r.name, .int .i64 r.gen, .int .i64 r.size] 26)));have HB:=ag ((Below.refl w.heap.size w).alloc (Nat.le_refl _) (.cells #[.string r.name, .int .i64 r.gen, .int .i64 r.size] 26));unfold bu;clear hc hr
 cases hf:dg cs r.name with
 | none=>
  have hlk:=HC.out.missL hnm hf;have HF:=ag (show cy cs r= .error 10 by unfold cy; rw[hf]);clear hf hnm
  go_enter Tryz.func129,Tryz.ntmps129
  go_wp2_with fail
  go_ret2
  exact⟨HB.out,by rw[HF.out]; exact⟨rfl,by decide⟩⟩
 | some bs=>
  obtain⟨v,hlk,hv⟩:=HC.out.hitL hnm hf;have HV:=ag hv;obtain⟨_,a,cap,rfl,hn,hm,-⟩:=hv;unfold maxLen at hm
  by_cases hl:(bs.length:Int)=r.size
  ·have HF:=ag (show cy cs r= .ok bs by unfold cy; rw[hf]; simp only[if_pos hl]);have e1:((bs.length:Int) != r.size)=false:=by simp[hl]
   clear hf hnm hl
   go_enter Tryz.func129,Tryz.ntmps129
   go_wp2_with fail
   go_ret2
   exact⟨HB.out,by rw[HF.out]; exact⟨_,rfl,HV.out⟩⟩
  ·have HF:=ag (show cy cs r= .error 9 by unfold cy; rw[hf]; simp only[if_neg hl]);have e1:((bs.length:Int) != r.size)=true:=by simp[hl]
   clear hf hnm hl
   go_enter Tryz.func129,Tryz.ntmps129
   go_wp2_with fail
   go_ret2
   exact⟨HB.out,by rw[HF.out]; exact⟨rfl,by decide⟩⟩
def lH (cs:List (ByteArray×List UInt8)) (r:aN) (w:World) (e:Ending) (w':World):Prop:=Below w.heap.size w w'/\match cI cs r with
 | .error x=>e= .returned (.tuple #[.slice none 0 0, .int .i64 x])/\x≠0
 | .ok l=> ∃v,e= .returned (.tuple #[v, .int .i64 0])/\ba (w.heap.size<= ·) w' v l
theorem mf (S:Nat->Prop) (cv:Value) (cs:List (ByteArray×List UInt8)) (r:aN) (w:World) (hc:bE S w cv cs) (hr:bo r) (henv:gN w):Calls Tryz.prog 83 #[cv,bu r] w (lH cs r w):=by
 have HB:=ag ((Below.refl w.heap.size w).alloc (Nat.le_refl _) (.cells #[.string r.name, .int .i64 r.gen, .int .i64 r.size] 26));have HC:=ag (hc.below HB.out);have HR:=ag hr;have HE:=ag (henv.below HB.out);unfold bu;clear hc hr henv
 go_enter Tryz.func83,Tryz.ntmps83
 go_wp2_with fail;refine(rp S cv cs r _ HC.out HR.out).mono ?_;rintro e w1 ⟨hb1,hres⟩;have HB1:=ag (ai HB.out hb1);have HE1:=ag (HE.out.below hb1);clear hb1
 cases hch:cy cs r with
 | error x=>
  rw[hch]at hres;obtain⟨rfl,hx⟩:=hres;have HN:=ag (show cI cs r= .error x by unfold cI; rw[hch]);have HX:=ag hx;have e1:(x != 0)=true:=by simp[hx]
  clear hch hx;go_wp2_with fail
  go_ret2
  exact⟨HB1.out,by rw[HN.out]; exact⟨rfl,HX.out⟩⟩
 | ok bs=>
  rw[hch]at hres;obtain⟨v,rfl,hv⟩:=hres;have HV:=ag hv;obtain⟨_,a,cap,rfl,hn,hm,-⟩:=hv;unfold maxLen at hm;have HCH:=ag hch;clear hch;go_wp2_with fail;refine(rT S bs _ w1 HV.out HE1.out).mono ?_;rintro e w2 ⟨hb2,hres⟩;have HB2:=ag (ai HB1.out hb2);clear hb2
  cases hit:bB bs with
  | none=>
   rw[hit]at hres;simp only at hres;subst hres;have HN:=ag (show cI cs r= .error 9 by unfold cI; rw[HCH.out]; simp only[hit]);clear hit;go_wp2_with fail
   go_ret2
   exact⟨HB2.out,by rw[HN.out]; exact⟨rfl,by decide⟩⟩
  | some l=>
   rw[hit]at hres;simp only at hres;obtain⟨v,rfl,hv⟩:=hres;have hwz:=HB1.out.size;have HV2:=ag (show ba (w.heap.size<= ·) w2 v l from by
    obtain⟨cells,h1,h2⟩:=hv;exact⟨cells,h1.weak (fun k hk=>Nat.le_trans hwz hk),h2.mono (fun c x _ hx=>hx.same (fun k _ hS=>⟨Nat.le_trans hwz hS,rfl⟩))⟩)
   obtain⟨a2,c2,rfl,-,-,-⟩:=aS.shape hv dX.len;have HN:=ag (show cI cs r= .ok l by unfold cI; rw[HCH.out]; simp only[hit]);clear hit hv;go_wp2_with fail
   go_ret2
   exact⟨HB2.out,by rw[HN.out]; exact⟨_,rfl,HV2.out⟩⟩
end Go.Proofs.YtpffpjbkbaleiaaGreatDoor
namespace Go.Proofs.YtpffpjbkbaleiaaGreatDoor
open Go Go.RowKit
def ef (cs:List (ByteArray×List UInt8)):List aN->List UInt8->Except Int (List UInt8)
 | [],acc=> .ok acc
 | r::rs,acc=>match cy cs r with
  | .error x=> .error x
  | .ok bs=>ef cs rs (acc++bs)
def sT (cs:List (ByteArray×List UInt8)) (rs:List aN) (w:World) (e:Ending) (w':World):Prop:=Below w.heap.size w w'/\match ef cs rs []with
 | .error x=>e= .returned (.tuple #[.slice none 0 0, .int .i64 x])/\x≠0
 | .ok bs=> ∃v,e= .returned (.tuple #[v, .int .i64 0])/\gO w' w.heap.size v bs
theorem Dw (S:Nat->Prop) (v:Value) (rs:List aN) (n:Nat) (w:World) (hv:aW S w v rs) (h:du rs=(n:Int)):Calls Tryz.prog 63 #[v] w fun e w'=>e= .returned (.int .i64 (n:Int))/\Below w.heap.size w w':=by
 rw[<-h]; exact mT S v rs w hv
theorem nC (S:Nat->Prop) (cv rv:Value) (cs:List (ByteArray×List UInt8)) (rs:List aN) (w:World) (hc:bE S w cv cs) (hv:aW S w rv rs) (ht0:0<=du rs) (ht1:du rs<=1048576) (hn6:rs.length<=1048576) (hrs: ∀r∈rs,dJ r=true):
  Calls Tryz.prog 97 #[cv,rv] w (sT cs rs w):=by
 obtain⟨a,cap,rfl,hcap,hcm,-⟩:=aS.shape hv jB.len;obtain⟨t,ht⟩: ∃t,t=(du rs).toNat:=⟨_,rfl⟩;have hti:du rs=(t:Int):=by omega
 have ht6:t<=1048576:=by omega
 obtain⟨n,hn⟩: ∃n,n=rs.length:=⟨_,rfl⟩;rw[<-hn]at hv hcap hn6 ⊢;unfold maxLen at hcm;have HC:=ag hc;have HV:=ag hv;have HN:=ag hn;have HTI:=ag hti;have HRS:=ag hrs;clear hrs;obtain⟨ht9,⟨i9,z9,h91,h92,h93,h94,h95⟩,-,-⟩:=Tryz.appBytes;have hb32:i9.bytes*t<=281474976710656:=by rw[h94]; omega
 have H9:=ag (And.intro h91 (And.intro h92 (And.intro h93 hb32)));clear hc hv hn ht0 ht1 ht hti h91 h92 h93 h94 h95 hb32
 go_enter Tryz.func97,Tryz.ntmps97
 have HT6:=ag (show t<=maxLen by unfold maxLen; omega);go_wp2_with fail;refine(Dw S _ rs t w HV.out HTI.out).mono ?_;rintro e w1 ⟨rfl,hb1⟩;have HB1:=ag hb1;clear hb1;go_wp2_with (first | ((refine wpList_make_own _ rfl _ _ 29 rfl w.heap.size 5 i9 z9 1 Tryz.underlying29 H9.out.1 H9.out.2.1 H9.out.2.2.1 .i64 .i64 (t:Int) t rfl rfl rfl H9.out.2.2.2 HT6.out HB1.out.size ?_); intro w4 hown4 hg4; have HO4:=ag hown4; have HG4:=ag hg4; clear hown4 hg4))
 have HB4:=ag ((eJ HG4.out).mono HB1.out.size |> HB1.out.trans)
 go_loopw [16,6] (fun i x wr=> ∃(k:Nat) (acc:List UInt8),k<=n/\i= .int .i64 (k:Int)/\ef cs rs []=ef cs (rs.drop k) acc/\acc.length<=k*32768/\gO wr w.heap.size x acc/\Below w.heap.size w wr) (fun i _ _=>n-(intOf i).toNat)
 case atStart=>exact⟨0,[],Nat.zero_le _,rfl,rfl,by simp,HO4.out,HB4.out⟩
 case round=>
  obtain⟨k,acc,hk,rfl,hf,hal,ho,hb⟩:=hrel;obtain⟨ax,cx,rfl,hx1,hx2⟩:=am ho;have HF:=ag hf;have HO:=ag ho;have HB:=ag hb;clear hf ho hb
  by_cases hlt:k<n
  ·obtain⟨r,hr⟩: ∃r,rs[k]? =some r:=⟨rs[k]'(by rw[<-HN.out]; exact hlt),by simp⟩;obtain⟨b,o,rfl,hok,p0,p1,p2⟩:=go HV.out HB.out hr;have HA:=ag ((Below.refl wr.heap.size wr).alloc (Nat.le_refl _) (.cells #[.string r.name, .int .i64 r.gen, .int .i64 r.size] 26));have hch:=rp S cv cs r _ ((HC.out.below HB.out).below HA.out) hok;have hsz:=(mB.1 (HRS.out r (List.mem_of_getElem? hr))).2.2.2
   have HBA:=ag (HB.out.trans (HA.out.mono HB.out.size));have HOA:=ag (aY HO.out HA.out);have HDR:=ag (show rs.drop k=r::rs.drop (k+1) by
    rw[List.drop_eq_getElem_cons (by rw[<-HN.out]; exact hlt)]
    congr 1
    exact(List.getElem?_eq_some_iff.1 hr).2)
   unfold lC at hch
   cases hcp:cy cs r with
   | error x=>
    rw[hcp]at hch;have HCH:=ag hch;have HFE:=ag (show ef cs rs []= .error x by rw[HF.out,HDR.out,ef,hcp]);clear hcp hch hr hok hsz;go_wp2_with fail;refine HCH.out.mono ?_;rintro e w5 ⟨hb5,rfl,hx⟩;have HB5:=ag (HBA.out.trans (hb5.mono HBA.out.size));clear hb5;go_wp2_with fail
    go_ret2
    refine⟨HB5.out, ?_⟩;rw[HFE.out];exact⟨rfl,hx⟩
   | ok bs=>
    rw[hcp]at hch;have HCH:=ag hch;have HFE:=ag (show ef cs rs []=ef cs (rs.drop (k+1)) (acc++bs) by rw[HF.out,HDR.out,ef,hcp]);have hbl:bs.length<=32768:=by
     unfold cy at hcp
     cases hf:dg cs r.name with
     | none=>rw[hf]at hcp; cases hcp
     | some y=>
      rw[hf]at hcp;simp only at hcp
      split at hcp
      ·cases hcp; omega
      ·cases hcp
    clear hcp hch hr hok hsz;go_wp2_with fail;refine HCH.out.mono ?_;rintro e w5 ⟨hb5,v5,rfl,hby⟩;obtain⟨_,a5,c5,rfl,-,-,-⟩:=id hby
    obtain⟨m,hm⟩: ∃m,m=bs.length:=⟨_,rfl⟩;have HM:=ag hm;have HB5:=ag (HBA.out.trans (hb5.mono HBA.out.size));have HO5:=ag (aY HOA.out hb5);have HBY:=ag (show aT S w5 1 (.slice a5 m c5) m (bs.map aw) by rw[hm]; exact hby);rw[<-hm]at hbl ⊢;have HON:=ag (show ∀u∈bs.map aw,u.oneCell'=true from dT bs);have HLE:=ag (show acc.length+m<1099511627775 by omega)
    clear hb5 hby hm p0 p1 p2;go_wp2_with (at_builtin; go_must (refine em Tryz.appBytes rfl _ _ rfl w.heap.size (.slice ax acc.length cx) acc.length (acc.map aw) rfl HO5.out _ m (bs.map aw) rfl HBY.out HON.out HLE.out HB5.out.size ?_); intro v6 wz hown6 hgrow6; have HO6:=ag hown6; have HG6:=ag hgrow6; clear hown6 hgrow6)
    go_roundw
    case rel=>
     refine⟨k+1,acc++bs,by omega,by go_num,HFE.out, ?_, ?_,HB5.out.grown HG6.out HB5.out.size (fun k e=>(fT HO5.out e).1)⟩
     ·rw[List.length_append,<-HM.out]; omega
     ·unfold gO;rw[List.length_append,List.map_append,<-HM.out];exact HO6.out
    case measure=>simp[intOf]; omega
  ·have hk2:k=n:=by omega
   subst hk2;go_wp2_with fail
   go_ret2
   refine⟨HB.out, ?_⟩;rw[HF.out,HN.out,List.drop_length];exact⟨_,rfl,HO.out⟩
end Go.Proofs.YtpffpjbkbaleiaaGreatDoor
namespace Go.Proofs.YtpffpjbkbaleiaaGreatDoor
open Go Go.RowKit
theorem qr {l:List aN} (hl:l.length<=1048576) (h: ∀r∈l,dJ r=true): ∀k,k<=l.length->0<=du (l.take k)/\du (l.take k)<=(k:Int)*32768
 | 0,_=>by simp[du]
 | k+1,hk=>by
  have ih:=qr hl h k (by omega);have hr:l[k]? =some (l[k]'(by omega)):=by simp
  have hz:=(mB.1 (h _ (List.getElem_mem (by omega:k<l.length)))).2.2.2;rw[bZ hr,kE];unfold wrap64;omega
def kS (cs:List (ByteArray×List UInt8)) (it:aB) (w:World) (e:Ending) (w':World):Prop:=
 Below w.heap.size w w'/\if it.kind=1/\bF it=true then(match ef cs it.chunks []with
  | .error x=>e= .returned (.tuple #[.slice none 0 0, .int .i64 x])/\x≠0
  | .ok bs=> ∃v,e= .returned (.tuple #[v, .int .i64 0])/\gO w' w.heap.size v bs)
 else e= .returned (.tuple #[.slice none 0 0, .int .i64 1])
end Go.Proofs.YtpffpjbkbaleiaaGreatDoor
namespace Go.Proofs.YtpffpjbkbaleiaaGreatDoor
open Go.RowKit
def cK (dir name:ByteArray):ByteArray:=if dir.size=0 then name else dir++⟨#[47]⟩++name
def eX (cs:List (ByteArray×List UInt8)) (it:aB):List UInt8×Int:=
 if it.kind=1 then(match ef cs it.chunks []with | .error x=>([],x) | .ok bs=>(bs,0))else([],0)
def cA (cs:List (ByteArray×List UInt8)) (rec:ByteArray->aN->List bp->Int×List bp) (dir:ByteArray):List aB->List bp->Int×List bp
 | [],acc=>(0,acc)
 | it::r,acc=>
  if be (bl (cK dir it.name))=true/\acc.length<4096 then
   let acc1:=acc++[⟨cK dir it.name,it.kind,it.mode,it.time,(eX cs it).1,it.link⟩]
   let p:=if it.kind=2 then rec (cK dir it.name) it.node acc1 else((eX cs it).2,acc1)
   if p.1=0 then cA cs rec dir r p.2 else p
  else(2,acc)
def bD (cs:List (ByteArray×List UInt8)):Nat->ByteArray->aN->List bp->Int×List bp
 | 0,_,_,acc=>(0,acc)
 | f+1,dir,ref,acc=>match cI cs ref with
  | .error x=>(x,acc)
  | .ok l=>cA cs (bD cs f) dir l acc
def fp (cs:List (ByteArray×List UInt8)) (root:aN):Except Int (List bp):=
 if dJ root=true then(if(bD cs 514 ⟨#[]⟩ root []).1=0 then .ok (bD cs 514 ⟨#[]⟩ root []).2 else .error (bD cs 514 ⟨#[]⟩ root []).1)else .error 1
end Go.Proofs.YtpffpjbkbaleiaaGreatDoor
namespace Go.Proofs.YtpffpjbkbaleiaaGreatDoor
open Go.RowKit
def Bw (xs:List ByteArray) (w:World) (e:Ending) (w':World):Prop:=
 ∃a cap,e= .returned (.tuple #[.slice a xs.length cap, .int .i64 0])/\xs.length<=cap/\cap<=maxLen/\jf (w.heap.size<= ·) w' (.slice a xs.length cap) xs/\Below w.heap.size w w'
theorem oH : ∀ {xs ys:List ByteArray},xs.map bl=ys.map bl->xs=ys
 | [],[],_=>rfl
 | [],_::_,h=>by simp at h
 | _::_,[],h=>by simp at h
 | x::xs,y::ys,h=>by
  simp only[List.map_cons,List.cons.injEq]at h;rw[fg h.1,oH h.2]
def jr (l:List UInt8):List ByteArray:=(aR 47 l).map fun p=>⟨p.toArray⟩
theorem Ai (l:List UInt8):(jr l).map bl=aR 47 l:=by
 unfold jr;rw[List.map_map];have:(bl ∘ fun p:List UInt8=>(⟨p.toArray⟩:ByteArray))=id:=by funext p; exact eK p
 rw[this,List.map_id]
theorem wn (s:ByteArray) (w:World) (he:gN w) (hv:be (bl s)=true):Calls Tryz.prog 82 #[.string s] w (Bw (jr (bl s)) w):=by
 refine(kh s w he).mono ?_;rintro e w' (⟨_,v,xs,rfl,hx,hs,hb⟩ | ⟨hf,_⟩)
 ·have:xs=jr (bl s):=oH (hx.trans (Ai _).symm);subst this;obtain⟨a,cap,rfl,h1,h2,_⟩:=hs.shape;exact⟨a,cap,rfl,h1,h2,hs,hb⟩
 ·rw[hv]at hf; cases hf
theorem AZ (s:ByteArray) (w:World) (he:gN w) (hv:be (bl s)=false):Calls Tryz.prog 82 #[.string s] w fun e w'=>e= .returned (.tuple #[.slice none 0 0, .int .i64 1])/\Below w.heap.size w w':=by
 refine(kh s w he).mono ?_;rintro e w' (⟨ht,_⟩ | ⟨_,rfl,hb⟩)
 ·rw[hv]at ht; cases ht
 ·exact⟨rfl,hb⟩
end Go.Proofs.YtpffpjbkbaleiaaGreatDoor
namespace Go.Proofs.YtpffpjbkbaleiaaGreatDoor
open Go.RowKit
def iT (cs:List (ByteArray×List UInt8)):List ByteArray->aB->Except Int aB
 | [],it=> .ok it
 | c::r,it=>if it.kind=2 then(match cI cs it.node with
  | .error x=> .error x
  | .ok l=>match l.find? (fun y=>decide (y.name=c))with
   | none=> .error 4
   | some y=>iT cs r y)else .error 4
def gj (root:aN):aB:=⟨⟨#[]⟩,2,0,0,0,⟨#[]⟩,[],root⟩
def eN (cs:List (ByteArray×List UInt8)) (root:aN) (path:ByteArray):Except Int aB:=
 if be (bl path)=true/\dJ root=true then iT cs (jr (bl path)) (gj root)else .error 1
end Go.Proofs.YtpffpjbkbaleiaaGreatDoor
namespace Go.Proofs.YtpffpjbkbaleiaaGreatDoor
open Go.RowKit
structure fZ (w : World) (base wb eb sb : Nat) (fv v : Value) (ex rs : List aN) : Prop where
 box:w.heap[wb]? =some (.cells #[fv, .map (some eb), .map (some sb),v] 191 (0,0))
 exs:dC w eb ex
 see:dC w sb rs
 row:w.ownsRow base 26 3 v rs.length (rs.flatMap dx)
 ne:eb≠sb
def iM (wb eb sb:Nat) (v:Value) (k:Nat):Prop:=k=wb\/k=eb\/k=sb\/v.ownBlock=some k
section
variable {w w' : World} {base wb eb sb : Nat} {fv v : Value} {ex rs : List aN}
theorem dC.cells {b:Nat} {l:List aN} (h:dC w b l) {cs:Array Value} {t:TypeId} {z:Nat×Nat} :w.heap[b]? ≠some (.cells cs t z):=fun e=>by
 obtain⟨es,clock,hb,_⟩:=h.map;rw[hb]at e; cases e
theorem fZ.wne (h:fZ w base wb eb sb fv v ex rs):wb≠eb/\wb≠sb:=⟨fun e=>h.exs.cells (e▸h.box),fun e=>h.see.cells (e▸h.box)⟩
theorem aA {e:TypeId} {sz:Nat} {n:Nat} {xs:List Value} {k:Nat} (h:w.ownsRow base e sz v n xs) (hk:v.ownBlock=some k): ∃cs,w.heap[k]? =some (.cells cs e (0,0)):=by
 obtain⟨_,h2⟩:=h
 rcases h2 with⟨rfl,rfl⟩ | ⟨g,cap,cur,rfl,_,hh,_⟩
 ·cases hk
 ·have:g=k:=by simpa [Value.ownBlock]using hk
  subst this;exact⟨cur,hh⟩
theorem fZ.own (h:fZ w base wb eb sb fv v ex rs) {k:Nat} (hk:v.ownBlock=some k):k≠wb/\k≠eb/\k≠sb:=by
 obtain⟨cs,hc⟩:=aA h.row hk;refine⟨fun e=> ?_,fun e=> ?_,fun e=> ?_⟩
 ·subst e;have:=hc.symm.trans h.box;simp at this
 ·subst e; exact h.exs.cells hc
 ·subst e; exact h.see.cells hc
theorem fZ.keep (h:fZ w base wb eb sb fv v ex rs) (hs: ∀k,k<w.heap.size->iM wb eb sb v k->w'.heap[k]? =w.heap[k]?):fZ w' base wb eb sb fv v ex rs:=by
 refine⟨(hs wb (lt_of_block h.box) (.inl rfl)).trans h.box,h.exs.same (hs eb h.exs.map.lt (.inr (.inl rfl))),h.see.same (hs sb h.see.map.lt (.inr (.inr (.inl rfl)))), ?_,h.ne⟩;obtain⟨hl,h2⟩:=h.row;refine⟨hl, ?_⟩
 rcases h2 with h2 | ⟨g,cap,cur,rfl,hg,hh,h3⟩
 ·exact .inl h2
 ·exact .inr ⟨g,cap,cur,rfl,hg,(hs g (lt_of_block hh) (.inr (.inr (.inr rfl)))).trans hh,h3⟩
theorem fZ.below (h:fZ w base wb eb sb fv v ex rs) (hb:Below w.heap.size w w'):fZ w' base wb eb sb fv v ex rs:=h.keep (fun k hk _=>hb.block k hk)
theorem fZ.ok (h:fZ w base wb eb sb fv v ex rs): ∀r∈rs,bo r:=h.see.ok
theorem fZ.shape (h:fZ w base wb eb sb fv v ex rs): ∃a cap,v= .slice a rs.length cap:=by
 obtain⟨a,cap,h1,_⟩:=am h.row;exact⟨a,cap,h1⟩
end
def bm (r:aN) (rs:List aN):List aN:=if r∈rs then rs else rs++[r]
def BD (base wb eb sb:Nat) (fv v:Value) (ex rs:List aN) (w w':World):Prop:=
 ∃v',fZ w' base wb eb sb fv v' ex rs/\bW (iM wb eb sb v) w w'/\ ∀k,v'.ownBlock=some k->v.ownBlock=some k\/w.heap.size<=k
theorem nF (base wb eb sb:Nat) (fv v:Value) (ex rs:List aN) (r:aN) (w:World) (h:fZ w base wb eb sb fv v ex rs) (hr:bo r) (hl:rs.length<1099511627775) (hbase:base<=w.heap.size):
  Calls Tryz.prog 161 #[.pointer (some ⟨wb,0,none⟩),bu r] w fun e w'=>e= .returned (.tuple #[])/\BD base wb eb sb fv v ex (bm r rs) w w':=by
 obtain⟨av,cv,rfl⟩:=h.shape;obtain⟨W,hW⟩: ∃W:World,W=(w.alloc (.cells #[.string r.name, .int .i64 r.gen, .int .i64 r.size] 26)).drew:=⟨_,rfl⟩;have hbW:Below w.heap.size w W:=by rw[hW]; exact((Below.refl _ _).alloc (Nat.le_refl _) _).drew
 have HBW:=ag hbW;have HK:=ag (h.below hbW);have bx:W.heap[w.heap.size]? =some (.cells #[.string r.name, .int .i64 r.gen, .int .i64 r.size] 26 (0,0)):=by rw[hW]; exact heap_alloc_new w _
 have HBX:=ag bx;have HR:=ag hr;have HW:=ag hW;have q0:=ak (k:=0) bx;have q1:=ak (k:=1) bx;have q2:=ak (k:=2) bx;have c2:=ak (k:=2) HK.out.box;have hlk:=HK.out.see.look hr;simp only[aP]at q0 q1 q2 c2;have hwb:wb<w.heap.size:=lt_of_block h.box;have H0:=ag h;unfold bu at hlk ⊢;clear h hr bx hbW
 by_cases hm:r∈rs
 ·have e1:decide (r∈rs)=true:=by simp[hm]
  have HM:=ag (show bm r rs=rs by unfold bm; rw[if_pos hm]);rw[e1]at hlk;clear e1 hm
  go_enter Tryz.func161,Tryz.ntmps161
  go_wp2_with fail;refine au [some 7] (by kernel_rfl) (by kernel_rfl) (by kernel_rfl) ?_;simp only[bn,List.take_succ_cons,List.take_zero];rw[<-HW.out];clear hW
  repeat (first | (refine aI rfl ?_; simp only[Act.put,aE,aF,aG]) | (refine aM rfl (fun K hK=> ?_); go_simp; refine hK _ ?_; clear hK K))
  refine aL ?_;go_wp2_with fail
  go_end0
  exact⟨rfl, .slice av rs.length cv,by rw[HM.out]; exact HK.out,bW.of_below HBW.out,fun k hk=> .inl hk⟩
 ·have e1:decide (r∈rs)=false:=by simp[hm]
  have HM:=ag (show bm r rs=rs++[r] by unfold bm; rw[if_neg hm]);have HNM:=ag hm;rw[e1]at hlk;clear e1 hm
  go_enter Tryz.func161,Tryz.ntmps161
  go_wp2_with fail;refine au [some 7] (by kernel_rfl) (by kernel_rfl) (by kernel_rfl) ?_;simp only[bn,List.take_succ_cons,List.take_zero];rw[<-HW.out];clear hW
  repeat (first | (refine aI rfl ?_; simp only[Act.put,aE,aF,aG]) | (refine aM rfl (fun K hK=> ?_); go_simp; refine hK _ ?_; clear hK K))
  refine aL ?_;go_wp2_with fail;refine au [some 5,none] (by kernel_rfl) (by kernel_rfl) (by kernel_rfl) ?_;simp only[bn,List.take_succ_cons,List.take_zero,List.drop_succ_cons,List.drop_zero];have HK1:=ag (HK.out.below ((Below.refl _ W).drew))
  repeat (first | (refine aI rfl ?_; simp only[Act.put,aE,aF,aG]) | (refine aM rfl (fun K hK=> ?_); go_simp; refine hK _ ?_; clear hK K))
  refine aL ?_;refine bC rfl (fun K hK=> ?_);go_wp2_with (at_mapUpdate; go_must (refine fE rfl _ _ _ rfl sb rs HK1.out.see rfl r HR.out rfl rfl HNM.out ?_); intro w2 hset hg2);have hsb:sb<w.heap.size:=H0.out.see.map.lt;have heb:eb<w.heap.size:=H0.out.exs.map.lt;have hbs:=HBW.out.size;obtain⟨W3,hW3⟩: ∃W3:World,W3=w2.drew:=⟨_,rfl⟩;have hg3:W.grownBy W3 (some sb):=by rw[hW3]; exact an (b:=W.drew) ⟨rfl,rfl,rfl,Nat.le_refl _,fun _ _ _=>rfl⟩ (an hg2 ⟨rfl,rfl,rfl,Nat.le_refl _,fun _ _ _=>rfl⟩)
  have hz3:=hg3.size;have HSET:=ag (show dC W3 sb (rs++[r]) by rw[hW3]; exact hset.same rfl);have HEX:=ag (HK.out.exs.same (w':=W3) (hg3.block eb HK.out.exs.map.lt (by simp; exact HK.out.ne)));have HROW:=ag (HK.out.row.kept hg3 (.inr (fun e=>(HK.out.own e).2.2 rfl)));have HWB:=ag (eZ hg3 HK.out.box HK.out.wne.2);have HRB:=ag (eZ hg3 HBX.out (by omega));have HG3:=ag hg3
  have c3:=ak (k:=3) HWB.out;have f3:=aj (k:=3) HWB.out;have r0:=ak (k:=0) HRB.out;have r1:=ak (k:=1) HRB.out;have r2:=ak (k:=2) HRB.out;simp only[aP]at c3 r0 r1 r2;clear q0 q1 q2 c2 hlk hset hg2 hg3;refine bU (fun w'=>w'.cell? ⟨wb,3,none⟩=some (.slice av rs.length cv)/\w'.cell? ⟨w.heap.size,0,none⟩=some (.string r.name)/\w'.cell? ⟨w.heap.size,1,none⟩=some (.int .i64 r.gen)/\w'.cell? ⟨w.heap.size,2,none⟩=some (.int .i64 r.size)) (by kernel_rfl) (by kernel_rfl) ?_
  simp only[List.dropLast_cons_cons,List.dropLast_singleton,List.length_cons,List.length_nil,Nat.reduceAdd,Nat.reduceSub];rw[<-hW3];clear hW3;refine ah 0 rfl (by kernel_rfl) (by kernel_rfl) (by kernel_rfl) (fun _ _ _ h=>h) rfl (by go_simp) (by rintro w' ⟨hw1,hw2,hw3,hw4⟩; go_simp; rfl) ?_;simp only[Act.put,aE,aF,aG];refine ah 1 rfl (by kernel_rfl) (by kernel_rfl) (by kernel_rfl) (fun _ _ _ h=>h) rfl (by go_simp) (by rintro w' ⟨hw1,hw2,hw3,hw4⟩; go_simp; rfl) ?_
  simp only[Act.put,aE,aF,aG];refine ah 2 rfl (by kernel_rfl) (by kernel_rfl) (by kernel_rfl) (fun _ _ _ h=>h) rfl (by go_simp) (by rintro w' ⟨hw1,hw2,hw3,hw4⟩; go_simp; rfl) ?_;simp only[Act.put,aE,aF,aG];refine ah 3 rfl (by kernel_rfl) (by kernel_rfl) (by kernel_rfl) (fun _ _ _ h=>h) rfl (by go_simp) (by rintro w' ⟨hw1,hw2,hw3,hw4⟩; go_simp; rfl) ?_;simp only[Act.put,aE,aF,aG]
  refine ah 4 rfl (by kernel_rfl) (by kernel_rfl) (by kernel_rfl) (fun _ _ _ h=>h) rfl (by go_simp) (by rintro w' ⟨hw1,hw2,hw3,hw4⟩; go_simp; rfl) ?_;simp only[Act.put,aE,aF,aG];refine ah 5 rfl (by kernel_rfl) (by kernel_rfl) (by kernel_rfl) (fun _ _ _ h=>h) rfl (by go_simp) (by rintro w' ⟨hw1,hw2,hw3,hw4⟩; go_simp; rfl) ?_;simp only[Act.put,aE,aF,aG];have hltw:wb<W3.heap.size:=lt_of_block HWB.out
  have hltr:w.heap.size<W3.heap.size:=lt_of_block HRB.out;have HAL:=ag ((Below.refl W3.heap.size W3).alloc (Nat.le_refl _) (.cells #[.string r.name, .int .i64 r.gen, .int .i64 r.size] 26));have hS2:=And.intro ((HAL.out.cell (p:=⟨wb,3,none⟩) hltw).trans c3) (And.intro ((HAL.out.cell (p:=⟨w.heap.size,0,none⟩) hltr).trans r0) (And.intro ((HAL.out.cell (p:=⟨w.heap.size,1,none⟩) hltr).trans r1) ((HAL.out.cell (p:=⟨w.heap.size,2,none⟩) hltr).trans r2)))
  have HS2:=ag hS2;clear hS2;refine ay 6 rfl (by kernel_rfl) rfl (fun K hK=> ?_);go_wp2_with fail
  (first | (refine⟨HS2.out, ?_⟩) | skip)
  refine ay 7 rfl (by kernel_rfl) rfl (fun K hK=> ?_);go_wp2_with (at_builtin; go_must (refine aJ Tryz.appRefs rfl _ _ rfl base (.slice av rs.length cv) rs.length (rs.flatMap dx) rfl W3 [.string r.name, .int .i64 r.gen, .int .i64 r.size] _ rfl rfl (jY (r:=r)) HROW.out (by omega) (by omega) ?_); intro v' wc hown' hgrow' _ hpl; obtain⟨ae,ce,rfl,-,-⟩:=am hown')
  have hne: ∀k,(Value.slice av rs.length cv).ownBlock=some k->k≠wb/\k≠eb/\k≠sb:=fun k hk=>H0.out.own hk
  have hner:(Value.slice av rs.length cv).ownBlock≠some w.heap.size:=fun e=>by have:=(H0.out.row.lt _ e).2; omega
  have HWB2:=ag ((hgrow'.block wb hltw (fun e=>(hne wb e.symm).1 rfl)).trans HWB.out);have HRB2:=ag ((hgrow'.block w.heap.size hltr (fun e=>hner e.symm)).trans HRB.out);have HEX2:=ag (HEX.out.same (hgrow'.block eb HEX.out.map.lt (fun e=>(hne eb e.symm).2.1 rfl)));have HSET2:=ag (HSET.out.same (hgrow'.block sb HSET.out.map.lt (fun e=>(hne sb e.symm).2.2 rfl)));have HGR:=ag hgrow'
  have HPL:=ag hpl;have HOW:=ag (show wc.ownsRow base 26 3 (.slice ae (rs.length+1) ce) (rs++[r]).length ((rs++[r]).flatMap dx) by rw[List.length_append,List.flatMap_append]; simpa [dx]using hown');have c4:=ak (k:=3) HWB2.out;have f4:=aj (k:=3) HWB2.out;have s0:=ak (k:=0) HRB2.out;have s1:=ak (k:=1) HRB2.out;have s2:=ak (k:=2) HRB2.out;simp only[aP]at c4 s0 s1 s2
  clear hown' hgrow' hpl c3 f3 r0 r1 r2 hne hner;refine⟨⟨c4,s0,s1,s2⟩, ?_⟩;refine ah 8 rfl (by kernel_rfl) (by kernel_rfl) (by kernel_rfl) (fun _ _ _ h=>h) rfl (by go_simp) (by rintro w' ⟨hw1,hw2,hw3,hw4⟩; go_simp; rfl) ?_;simp only[Act.put,aE,aF,aG];refine ah 9 rfl (by kernel_rfl) (by kernel_rfl) (by kernel_rfl) (fun _ _ _ h=>h) rfl (by go_simp) (by rintro w' ⟨hw1,hw2,hw3,hw4⟩; go_simp; rfl) ?_
  simp only[Act.put,aE,aF,aG];refine aV (by kernel_rfl) ?_;refine cj rfl rfl (fun K hK=> ?_);go_wp2_with fail
  go_end0
  refine⟨rfl, .slice ae (rs.length+1) ce, ?_, ?_, ?_⟩
  ·rw[HM.out];have hws:=H0.out.wne;have hx:=cO (k:=3) HWB2.out (.slice ae (rs.length+1) ce);simp only[List.setIfInBounds_toArray,List.set_cons_succ,List.set_cons_zero]at hx;refine⟨hx,HEX2.out.same (Below.heap_setCell _ _ _ _ (Ne.symm hws.1)),HSET2.out.same (Below.heap_setCell _ _ _ _ (Ne.symm hws.2)),HOW.out.kept (aH _ _ _ _) (.inr (fun e=> ?_)),H0.out.ne⟩
   rcases HPL.out wb e with h1 | h1
   ·exact(H0.out.own h1).1 rfl
   ·omega
  ·refine bW.trans (bW.of_below HBW.out) (bW.trans (S:=iM wb eb sb (.slice av rs.length cv)) (bW.of_grown HG3.out (fun k hk=>by cases hk; exact .inr (.inr (.inl rfl)))) (bW.trans (S:=iM wb eb sb (.slice av rs.length cv)) (bW.of_grown HGR.out (fun k hk=> .inr (.inr (.inr hk)))) (bW.of_grown (S:=iM wb eb sb (.slice av rs.length cv)) (aH wc wb 3 _) (fun k hk=>by cases hk; exact .inl rfl)) (fun i _ h=>h)) (fun i _ h=>h)) (fun i _ h=>h)
  ·intro k hk
   rcases HPL.out k hk with h1 | h1
   ·exact .inl h1
   ·exact .inr (by omega)
end Go.Proofs.YtpffpjbkbaleiaaGreatDoor
namespace Go.Proofs.YtpffpjbkbaleiaaGreatDoor
open Go.RowKit
def cN (cs rs:List aN):List aN:=cs.foldl (fun rs r=>bm r rs) rs
def fL (f:aN->List aN×List aN->Option (Int×(List aN×List aN))):List aB->List aN×List aN->Option (Int×(List aN×List aN))
 | [],st=>some (0,st)
 | it::l,st=>if it.kind≠2 then fL f l (st.1,cN it.chunks st.2)else
  (f it.node (st.1,cN it.chunks st.2)).bind fun p=>if p.1≠0 then some p else fL f l p.2
def eC (visit:aN->Except Int (List aB)):Nat->aN->List aN×List aN->Option (Int×(List aN×List aN))
 | 0,_,_=>none
 | n+1,r,st=>if r∈st.1 then some (0,(st.1,bm r st.2))else match visit r with
  | .error x=>some (x,(st.1++[r],bm r st.2))
  | .ok l=>fL (eC visit n) l (st.1++[r],bm r st.2)
theorem jR (r:aN) (rs:List aN):rs.length<=(bm r rs).length:=by
 unfold bm
 split
 ·exact Nat.le_refl _
 ·simp
theorem kx : ∀(cs rs:List aN),rs.length<=(cN cs rs).length
 | [],_=>Nat.le_refl _
 | c::cs,rs=>Nat.le_trans (jR c rs) (kx cs (bm c rs))
theorem vC (cs:List aN) (c:aN) (rs:List aN):cN (cs++[c]) rs=bm c (cN cs rs):=by
 unfold cN; rw[List.foldl_append]; rfl
theorem pO (cs rs:List aN) (j:Nat):(cN (cs.take j) rs).length<=(cN cs rs).length:=by
 have:cN cs rs=cN (cs.drop j) (cN (cs.take j) rs):=by
  unfold cN;rw[<-List.foldl_append,List.take_append_drop]
 rw[this];exact kx _ _
theorem gG {f:aN->List aN×List aN->Option (Int×(List aN×List aN))} (hf: ∀r st x st',f r st=some (x,st')->st.2.length<=st'.2.length):
  ∀(l:List aB) (st:List aN×List aN) (x:Int) (st':List aN×List aN),fL f l st=some (x,st')->st.2.length<=st'.2.length
 | [],st,x,st',h=>by
  simp only[fL,Option.some.injEq,Prod.mk.injEq]at h;obtain⟨_,rfl⟩:=h;exact Nat.le_refl _
 | it::l,st,x,st',h=>by
  rw[fL]at h
  split at h
  ·exact Nat.le_trans (kx it.chunks st.2) (gG hf l _ x st' h)
  ·rw[Option.bind_eq_some_iff]at h;obtain⟨⟨y,st2⟩,h1,h2⟩:=h;have h3:=hf _ _ _ _ h1;have h4:=kx it.chunks st.2;simp only at h2 h3
   split at h2
   ·simp only[Option.some.injEq,Prod.mk.injEq]at h2;obtain⟨_,rfl⟩:=h2;exact Nat.le_trans h4 h3
   ·exact Nat.le_trans (Nat.le_trans h4 h3) (gG hf l _ x st' h2)
theorem ja (visit:aN->Except Int (List aB)): ∀(n:Nat) (r:aN) (st:List aN×List aN) (x:Int) (st':List aN×List aN),eC visit n r st=some (x,st')->st.2.length<=st'.2.length
 | 0,_,_,_,_,h=>by simp[eC]at h
 | n+1,r,st,x,st',h=>by
  have hm:=jR r st.2;rw[eC]at h
  split at h
  ·simp only[Option.some.injEq,Prod.mk.injEq]at h;obtain⟨_,rfl⟩:=h;exact hm
  ·split at h
   ·simp only[Option.some.injEq,Prod.mk.injEq]at h;obtain⟨_,rfl⟩:=h;exact hm
   ·exact Nat.le_trans hm (gG (ja visit n) _ _ x st' h)
def Fv (res:Except Int (List aB)) (w:World) (e:Ending) (w':World):Prop:=Below w.heap.size w w'/\match res with
 | .error x=>e= .returned (.tuple #[.slice none 0 0, .int .i64 x])/\x≠0
 | .ok l=> ∃v,e= .returned (.tuple #[v, .int .i64 0])/\ba (w.heap.size<= ·) w' v l
theorem fZ.notown {w:World} {base wb eb sb:Nat} {fv v:Value} {ex rs:List aN} (h:fZ w base wb eb sb fv v ex rs) {k:Nat} {cs:Array Value} {t:TypeId} {z:Nat×Nat} (hb:w.heap[k]? =some (.cells cs t z)) (h1:t≠191) (h2:t≠26): ¬iM wb eb sb v k:=by
 rintro(e | e | e | e)
 ·subst e;have:=hb.symm.trans h.box;simp at this;exact h1 this.2.1
 ·subst e; exact h.exs.cells hb
 ·subst e; exact h.see.cells hb
 ·obtain⟨cs',hc⟩:=aA h.row e;have:=hb.symm.trans hc;simp at this;exact h2 this.2.1
structure oD (w : World) (B h5 h6 base wb eb sb : Nat) (fv v itv : Value) (l : List aB) (wr : World) (v2 : Value) (ex rs : List aN) : Prop where
 at':fZ wr base wb eb sb fv v2 ex rs
 gr:bW (iM wb eb sb v) w wr
 own: ∀k,v2.ownBlock=some k->v.ownBlock=some k\/w.heap.size<=k
 apart: ∀k,v2.ownBlock=some k->k<h5\/h6<=k
 lo:wb<h5/\eb<h5/\sb<h5
 ord:w.heap.size<=h5/\h5<=h6/\h6<=wr.heap.size
 its:ba (fun k=>h5<=k/\k<h6) wr itv l
theorem ba.same {S:Nat->Prop} {w w':World} {v:Value} {l:List aB} (h:ba S w v l) (hs: ∀k,k<w.heap.size->S k->w'.heap[k]? =w.heap[k]?):ba S w' v l:=by
 obtain⟨cells,hr,hin⟩:=h;have h2:=hr.mono (T:=fun k=>k<w.heap.size/\S k) (fun k hk hS=>⟨hk,hS⟩) (by omega);have h3:=h2.same (w':=w') (fun k hk=>hs k hk.1 hk.2);exact⟨cells,h3.weak (fun k hk=>hk.2),hin.mono (fun c x _ hx=>hx.same (fun k hk hS=>⟨hS,hs k hk hS⟩))⟩
section
variable {w wr w' : World} {B h5 h6 base wb eb sb : Nat} {fv v itv v2 v3 : Value} {l : List aB} {ex rs ex3 rs3 : List aN}
theorem oD.below (h:oD w B h5 h6 base wb eb sb fv v itv l wr v2 ex rs) (hb:Below wr.heap.size wr w'):oD w B h5 h6 base wb eb sb fv v itv l w' v2 ex rs:=
 ⟨h.at'.below hb,h.gr.trans (bW.of_below hb (S:=fun _=>False)) (fun _ _ h=>False.elim h),h.own,h.apart,h.lo,⟨h.ord.1,h.ord.2.1,Nat.le_trans h.ord.2.2 hb.size⟩,h.its.below hb⟩
theorem oD.notown (h:oD w B h5 h6 base wb eb sb fv v itv l wr v2 ex rs) {k:Nat} (hk:h5<=k/\k<h6): ¬iM wb eb sb v2 k:=by
 have:=h.lo;rintro(e | e | e | e)
 ·omega
 ·omega
 ·omega
 ·have:=h.apart k e; omega
theorem oD.step (h:oD w B h5 h6 base wb eb sb fv v itv l wr v2 ex rs) (hr:BD base wb eb sb fv v2 ex3 rs3 wr w'): ∃v3,oD w B h5 h6 base wb eb sb fv v itv l w' v3 ex3 rs3/\bW (iM wb eb sb v2) wr w':=by
 obtain⟨v3,h1,h2,h3⟩:=hr;have hz:=h.gr.size;refine⟨v3,⟨h1,h.gr.trans h2 (fun i hi ho=> ?_),fun k hk=> ?_,fun k hk=> ?_,h.lo,⟨h.ord.1,h.ord.2.1,Nat.le_trans h.ord.2.2 h2.size⟩,h.its.same (fun k hk hS=>h2.block k hk (h.notown hS))⟩,h2⟩
 ·rcases ho with e | e | e | e
  ·exact .inl e
  ·exact .inr (.inl e)
  ·exact .inr (.inr (.inl e))
  ·rcases h.own i e with e | e
   ·exact .inr (.inr (.inr e))
   ·omega
 ·rcases h3 k hk with e | e
  ·exact h.own k e
  ·exact .inr (by omega)
 ·rcases h3 k hk with e | e
  ·exact h.apart k e
  ·have:=h.ord; exact .inr (by omega)
end
end Go.Proofs.YtpffpjbkbaleiaaGreatDoor
namespace Go.Proofs.YtpffpjbkbaleiaaGreatDoor
open Go.RowKit
def BC (visit:aN->Except Int (List aB)) (F:Nat) (cv:Value) (I:World->Prop) (B n:Nat):Prop:= ∀(r:aN) (st:List aN×List aN) (x:Int) (st':List aN×List aN) (base wb eb sb:Nat) (v:Value) (w:World),eC visit n r st=some (x,st')->st'.2.length<1099511627775->
 fZ w base wb eb sb (.func (.func F) #[cv] #[]) v st.1 st.2->bo r->I w->(B<=base/\B<=wb/\B<=eb/\B<=sb)->base<=w.heap.size->
 Calls Tryz.prog 133 #[.pointer (some ⟨wb,0,none⟩),bu r] w fun e w'=>e= .returned (.int .i64 x)/\BD base wb eb sb (.func (.func F) #[cv] #[]) v st'.1 st'.2 w w'
def BB (visit:aN->Except Int (List aB)) (F:Nat) (cv:Value) (I:World->Prop):Prop:= ∀(W:World) (r:aN),I W->bo r->Calls Tryz.prog F #[cv,bu r] W (Fv (visit r) W)
def yj (I:World->Prop) (B:Nat):Prop:= ∀w w':World,I w->bW (B<= ·) w w'->I w'
theorem xE {B base wb eb sb:Nat} {w:World} {fv v:Value} {ex rs:List aN} (h:fZ w base wb eb sb fv v ex rs) (hB:B<=base/\B<=wb/\B<=eb/\B<=sb) {k:Nat} (hk:iM wb eb sb v k):B<=k:=by
 rcases hk with e | e | e | e
 ·omega
 ·omega
 ·omega
 ·have:=(h.row.lt k e).1; omega
theorem pw {S T:Nat->Prop} {w w':World} (h:bW S w w') (hs: ∀k,S k->T k):bW T w w':=⟨h.os,h.tape,h.output,h.size,fun k hk hn=>h.block k hk (fun hS=>hn (hs k hS))⟩
theorem ba.lt {S:Nat->Prop} {w:World} {v:Value} {l:List aB} (h:ba S w v l):ba (fun k=>S k/\k<w.heap.size) w v l:=by
 obtain⟨cells,hr,hin⟩:=h;exact⟨cells,hr.mono (fun k hk hS=>⟨hS,hk⟩) (by omega),hin.mono (fun c x _ hx=>hx.same (fun k hk hS=>⟨⟨hS,hk⟩,rfl⟩))⟩
theorem pR {f:aN->List aN×List aN->Option (Int×(List aN×List aN))} {it:aB} {l:List aB} {ex rs:List aN} {q:Int×(List aN×List aN)} (h:fL f (it::l) (ex,rs)=some q):
  (it.kind≠2/\fL f l (ex,cN it.chunks rs)=some q)\/(it.kind=2/\ ∃y st2,f it.node (ex,cN it.chunks rs)=some (y,st2)/\((y≠0/\q=(y,st2))\/(y=0/\fL f l st2=some q))):=by
 rw[fL]at h
 split at h
 ·rename_i hk;exact .inl ⟨hk,h⟩
 ·rename_i hk;rw[Option.bind_eq_some_iff]at h;obtain⟨⟨y,st2⟩,h1,h2⟩:=h;refine .inr ⟨Decidable.not_not.1 hk,y,st2,h1, ?_⟩;simp only at h2
  split at h2
  ·rename_i hy;exact .inl ⟨hy,(Option.some.inj h2).symm⟩
  ·rename_i hy;exact .inr ⟨Decidable.not_not.1 hy,h2⟩
theorem Ag {visit:aN->Except Int (List aB)} {n:Nat} {it:aB} {l:List aB} {ex rs:List aN} {x:Int} {st':List aN×List aN} (h:fL (eC visit n) (it::l) (ex,rs)=some (x,st')):(cN it.chunks rs).length<=st'.2.length:=by
 rcases pR h with⟨_,h2⟩ | ⟨_,y,st2,h1,h2⟩
 ·exact gG (ja visit n) l _ x st' h2
 ·have h3:=ja visit n _ _ _ _ h1
  rcases h2 with⟨_,h2⟩ | ⟨_,h2⟩
  ·obtain⟨_,rfl⟩:=Prod.mk.inj h2;exact h3
  ·exact Nat.le_trans h3 (gG (ja visit n) l _ x st' h2)
end Go.Proofs.YtpffpjbkbaleiaaGreatDoor
namespace Go.Proofs.YtpffpjbkbaleiaaGreatDoor
open Go.RowKit
def me (visit:aN->Except Int (List aB)) (n:Nat) (root:aN):Option (Except Int (List aN)):=
 if dJ root=true then(eC visit n root ([],[])).map fun p=>if p.1=0 then .ok p.2.2 else .error p.1 else some (.error 1)
def sX (res:Except Int (List aN)) (w:World) (e:Ending) (w':World):Prop:=Below w.heap.size w w'/\match res with
 | .error x=>e= .returned (.tuple #[.slice none 0 0, .int .i64 x])/\x≠0
 | .ok rs=> ∃v,e= .returned (.tuple #[v, .int .i64 0])/\aW (w.heap.size<= ·) w' v rs
theorem DH {w:World} {B:Nat} {fv:Value} :fZ (((w.alloc (.map #[] 0)).alloc (.map #[] 0)).alloc (.cells #[fv, .map (some w.heap.size), .map (some (w.heap.size+1)), .slice none 0 0] 191)) B (w.heap.size+1+1) w.heap.size (w.heap.size+1) fv (.slice none 0 0) [] []:=by
 have e1:(w.alloc (.map #[] 0)).heap.size=w.heap.size+1:=by simp
 have e2:((w.alloc (.map #[] 0)).alloc (.map #[] 0)).heap.size=w.heap.size+1+1:=by simp
 have h1:=dC.made w;have h2:=dC.made (w.alloc (.map #[] 0));rw[e1]at h2;have h3:=heap_alloc_new ((w.alloc (.map #[] 0)).alloc (.map #[] 0)) (.cells #[fv, .map (some w.heap.size), .map (some (w.heap.size+1)), .slice none 0 0] 191);rw[e2]at h3;refine⟨h3, ?_,h2.same (Below.heap_alloc _ _ _ (by rw[e2]; omega)),World.ownsRow_nil _ _ _ _,by omega⟩;exact h1.same ((Below.heap_alloc _ _ _ (by rw[e2]; omega)).trans (Below.heap_alloc _ _ _ (by rw[e1]; omega)))
structure eI (B : Nat) (cv : Value) (cs : List (ByteArray × List UInt8)) (w : World) : Prop where
 cont:bE (· <B) w cv cs
 env:gN w
 lt:1<B/\3<B/\4<B
 size:B<=w.heap.size
theorem aT.lt' {S:Nat->Prop} {w:World} {sz:Nat} {v:Value} {n:Nat} {cells:List Value} (h:aT S w sz v n cells) (hs:0<sz):aT (· <w.heap.size) w sz v n cells:=h.mono (fun _ hk _=>hk) hs
theorem bE.lt {S:Nat->Prop} {w:World} {cv:Value} {cs:List (ByteArray×List UInt8)} (h:bE S w cv cs):bE (· <w.heap.size) w cv cs:=by
 rcases h with h | ⟨b,m,h1,h0,h2,h3⟩
 ·exact .inl h
 ·refine .inr ⟨b,m,h1,h2.lt,h2, ?_⟩;clear h1 h2 h0
  induction m generalizing cs with
  | nil=>cases cs with
   | nil=>trivial
   | cons=>exact h3
  | cons p m ih=>cases cs with
   | nil=>exact h3
   | cons q cs=>exact⟨h3.1,aT.lt' h3.2.1 (by omega),ih h3.2.2⟩
theorem eI.keep {B:Nat} {cv:Value} {cs:List (ByteArray×List UInt8)} :yj (eI B cv cs) B:=by
 intro w w' h hg;have hb:Below B w w':=hg.below h.size (fun k hk=>hk);refine⟨?_,h.env.belowB hb h.lt.1 h.lt.2.1 h.lt.2.2,h.lt,Nat.le_trans h.size hg.size⟩
 rcases h.cont with h1 | ⟨b,m,h1,h0,h2,h3⟩
 ·exact .inl h1
 ·exact .inr ⟨b,m,h1,h0,h2.same (hb.block b h0),h3.mono (fun v bs hv=>aT.same hv (fun k hk=>hb.block k hk))⟩
theorem eI.visit {B:Nat} {cv:Value} {cs:List (ByteArray×List UInt8)} :BB (cI cs) 83 cv (eI B cv cs):=fun W r hI hr=>(mf (· <B) cv cs r W hI.cont hr hI.env).mono fun _ _ h=>h
theorem eI.start {S:Nat->Prop} {w:World} {cv:Value} {cs:List (ByteArray×List UInt8)} (h:bE S w cv cs) (he:gN w):eI w.heap.size cv cs w:=⟨h.lt,he,he.lt,Nat.le_refl _⟩
end Go.Proofs.YtpffpjbkbaleiaaGreatDoor
namespace Go.Proofs.YtpffpjbkbaleiaaGreatDoor
open Go.RowKit
theorem mg : ∀ {l U:List aN},l.Nodup->(∀x∈l,x∈U)->l.length<=U.length
 | [],_,_,_=>Nat.zero_le _
 | a::l,U,hn,hs=>by
  obtain⟨h1,h2⟩:=List.nodup_cons.1 hn;have ha:a∈U:=hs a (by simp);have h3:=mg (l:=l) (U:=U.erase a) h2 (fun x hx=>(List.mem_erase_of_ne (fun e=>by subst e; exact h1 hx)).2 (hs x (by simp[hx])));have h4:=List.length_erase_of_mem ha;have h5:0<U.length:=List.length_pos_of_mem ha;simp only[List.length_cons];omega
def jN (it:aB):List aN:=it.chunks++[it.node]
def FM (l:List aB):List aN:=l.flatMap jN
def kZ (cs:List (ByteArray×List UInt8)):List aN:=cs.flatMap fun p=>match bB p.2 with
 | some l=>FM l
 | none=>[]
theorem zG {cs:List (ByteArray×List UInt8)} {n:ByteArray} {bs:List UInt8} (h:dg cs n=some bs): ∃k,(k,bs)∈cs:=by
 induction cs with
 | nil=>simp[dg]at h
 | cons p cs ih=>
  obtain⟨k,b⟩:=p;simp only[dg]at h
  split at h
  ·simp only[Option.some.injEq]at h; subst h; exact⟨k,by simp⟩
  ·obtain⟨k',hk⟩:=ih h;exact⟨k',by simp[hk]⟩
theorem mN {cs:List (ByteArray×List UInt8)} {r:aN} {l:List aB} (h:cI cs r= .ok l): ∃k bs,(k,bs)∈cs/\bB bs=some l:=by
 unfold cI at h
 cases hc:cy cs r with
 | error x=>rw[hc]at h; simp at h
 | ok bs=>
  rw[hc]at h;simp only at h
  cases hi:bB bs with
  | none=>rw[hi]at h; simp at h
  | some l'=>
   rw[hi]at h;simp only[Except.ok.injEq]at h;subst h;unfold cy at hc
   cases hf:dg cs r.name with
   | none=>rw[hf]at hc; simp at hc
   | some b=>
    rw[hf]at hc;simp only at hc
    split at hc
    ·simp only[Except.ok.injEq]at hc; subst hc;obtain⟨k,hk⟩:=zG hf;exact⟨k,b,hk,hi⟩
    ·simp at hc
theorem xC {cs:List (ByteArray×List UInt8)} {r:aN} {l:List aB} (h:cI cs r= .ok l) {it:aB} (hit:it∈l): ∀c∈jN it,c∈kZ cs:=fun c hc=>by
 obtain⟨k,bs,h1,h2⟩:=mN h;refine List.mem_flatMap.2 ⟨(k,bs),h1, ?_⟩;simp only[h2];exact List.mem_flatMap.2 ⟨it,hit,hc⟩
structure qA (U : List aN) (st : List aN × List aN) : Prop where
 e1:st.1.Nodup
 e2: ∀x∈st.1,x∈U
 l1:st.2.Nodup
 l2: ∀x∈st.2,x∈U
theorem jS {r:aN} {rs:List aN} (h:rs.Nodup):(bm r rs).Nodup:=by
 unfold bm
 split
 ·exact h
 ·rename_i hm;exact List.nodup_append.2 ⟨h,by simp,fun a ha b hb e=>by simp only[List.mem_singleton]at hb; subst hb e; exact hm ha⟩
theorem lY {r x:aN} {rs:List aN} :x∈bm r rs<->x∈rs\/x=r:=by
 unfold bm
 split
 ·rename_i hm;exact⟨.inl,fun h=>by rcases h with h | rfl; exact h; exact hm⟩
 ·simp
theorem lX : ∀(cs:List aN) {rs:List aN},rs.Nodup->(cN cs rs).Nodup
 | [],_,h=>h
 | _c::cs,_,h=>lX cs (jS h)
theorem pN : ∀(cs:List aN) {rs:List aN} {x:aN},x∈cN cs rs<->x∈rs\/x∈cs
 | [],rs,x=>by simp[cN]
 | c::cs,rs,x=>by
  show x∈cN cs (bm c rs)<->_
  rw[pN cs,lY,List.mem_cons,or_assoc]
theorem qA.men {U:List aN} {st:List aN×List aN} (h:qA U st) {cs:List aN} (hc: ∀c∈cs,c∈U):qA U (st.1,cN cs st.2):=
 ⟨h.e1,h.e2,lX cs h.l1,fun x hx=>by
  rcases(pN cs).1 hx with hx | hx
  ·exact h.l2 x hx
  ·exact hc x hx⟩
def Ff (U:List aN) (f:aN->List aN×List aN->Option (Int×(List aN×List aN))) (n:Nat):Prop:= ∀r st,r∈U->qA U st->U.length<n+st.1.length-> ∃x st',f r st=some (x,st')/\qA U st'/\st.1.length<=st'.1.length
theorem lq {U:List aN} {f:aN->List aN×List aN->Option (Int×(List aN×List aN))} {n:Nat} (hf:Ff U f n):
  ∀(l:List aB) (st:List aN×List aN),(∀it∈l,∀c∈jN it,c∈U)->qA U st->U.length<n+st.1.length-> ∃x st',fL f l st=some (x,st')/\qA U st'/\st.1.length<=st'.1.length
 | [],st,_,hi,_=>⟨0,st,rfl,hi,Nat.le_refl _⟩
 | it::l,st,hl,hi,hn=>by
  have hi2:=hi.men (cs:=it.chunks) (fun c hc=>hl it (by simp) _ (by simp[jN,hc]));rw[fL]
  split
  ·exact lq hf l _ (fun x hx=>hl x (by simp[hx])) hi2 hn
  ·obtain⟨x,st2,h1,h2,h3⟩:=hf it.node _ (hl it (by simp) _ (by simp[jN])) hi2 hn;rw[h1,Option.bind_some];simp only at h3
   split
   ·exact⟨x,st2,rfl,h2,h3⟩
   ·obtain⟨y,st3,k1,k2,k3⟩:=lq hf l st2 (fun x hx=>hl x (by simp[hx])) h2 (by omega);exact⟨y,st3,k1,k2,Nat.le_trans h3 k3⟩
def no (cs:List (ByteArray×List UInt8)):Nat:=(kZ cs).length+2
theorem zB {data:List UInt8} {s s1:RS} {it:aB} (h:dM data s=some (it,s1)):it.chunks.length<=963:=by
 unfold dM eh at h
 split at h
 ·simp only[Option.some.injEq,Prod.mk.injEq]at h;obtain⟨rfl,_⟩:=h;simp only[oQ];exact oV _ _ _
 ·split at h
  ·simp only[Option.some.injEq,Prod.mk.injEq]at h;obtain⟨rfl,_⟩:=h;simp
  ·split at h
   ·simp only[Option.some.injEq,Prod.mk.injEq]at h;obtain⟨rfl,_⟩:=h;simp
   ·simp at h
theorem rQ {data:List UInt8} {s0:RS} : ∀ {k:Nat} {l:List aB} {s:RS},dr data s0 k=some (l,s)->l.length=k/\ ∀it∈l,it.chunks.length<=963
 | 0,l,s,h=>by
  simp only[dr,Option.some.injEq,Prod.mk.injEq]at h;obtain⟨rfl,_⟩:=h;exact⟨rfl,by simp⟩
 | k+1,l,s,h=>by
  rw[eY,Option.bind_eq_some_iff]at h;obtain⟨⟨l0,s1⟩,h1,h2⟩:=h;rw[Option.map_eq_some_iff]at h2;obtain⟨⟨it,s2⟩,h3,h4⟩:=h2;simp only[Prod.mk.injEq]at h4;obtain⟨rfl,_⟩:=h4;obtain⟨k1,k2⟩:=rQ h1;refine⟨by simp[k1],fun x hx=> ?_⟩
  rcases List.mem_append.1 hx with hx | hx
  ·exact k2 x hx
  ·simp only[List.mem_singleton]at hx; subst hx; exact zB h3
theorem rS {data:List UInt8} {l:List aB} (h:bB data=some l):l.length<=4096/\ ∀it∈l,it.chunks.length<=963:=by
 unfold bB at h
 split at h
 ·simp at h
 ·rw[Option.bind_eq_some_iff]at h;obtain⟨⟨l0,s1⟩,h1,h2⟩:=h
  split at h2
  ·simp only[Option.some.injEq]at h2;subst h2;obtain⟨k1,k2⟩:=rQ h1;exact⟨by rw[k1]; exact oV _ _ _,k2⟩
  ·simp at h2
theorem fI {α β:Type} (f:α->List β) (m:Nat): ∀(l:List α),(∀x∈l,(f x).length<=m)->(l.flatMap f).length<=l.length*m
 | [],_=>by simp
 | a::l,h=>by
  have h1:=fI f m l (fun x hx=>h x (by simp[hx]));have h2:=h a (by simp);rw[List.flatMap_cons,List.length_append,List.length_cons,Nat.succ_mul];omega
theorem zE {cs:List (ByteArray×List UInt8)} :(kZ cs).length<=cs.length*3948544:=fI _ _ cs (fun p _=>by
 cases h:bB p.2 with
 | none=>simp
 | some l=>
  obtain⟨h1,h2⟩:=rS h;simp only;have h3:=fI jN 964 l (fun it hit=>by have:=h2 it hit; simp[jN]; omega);exact Nat.le_trans h3 (Nat.le_trans (Nat.mul_le_mul_right 964 h1) (by decide)))
theorem jo {cs:List (ByteArray×List UInt8)} {r:aN} {l:List aB} (h:cI cs r= .ok l):l.length<=4096/\cr l=true/\ ∀it∈l,it.chunks.length<=963:=by
 obtain⟨k,bs,_,h2⟩:=mN h;have h3:=rS h2;refine⟨h3.1, ?_,h3.2⟩;unfold bB at h2
 split at h2
 ·simp at h2
 ·rw[Option.bind_eq_some_iff]at h2;obtain⟨⟨l0,s1⟩,_,h4⟩:=h2
  split at h4
  ·rename_i h5;simp only[Option.some.injEq]at h4;subst h4;exact h5.2
  ·simp at h4
end Go.Proofs.YtpffpjbkbaleiaaGreatDoor
namespace Go.Proofs.YtpffpjbkbaleiaaGreatDoor
open Go Go.RowKit
def eT (w:World) (base eb:Nat) (v:Value) (acc:List bp):Prop:=
 w.heap[eb]? =some (.cells #[v] 46 (0,0))/\ ∃ys:List gP,ys.map Prod.snd=acc/\w.ownsRow base 79 6 v ys.length (bY ys)/\ ∀y∈ys,w.ownsRow base 5 1 y.1 y.2.data.length (y.2.data.map aw)
structure kR (base eb : Nat) (v v' : Value) (w w' : World) : Prop where
 below:Below base w w'
 same: ∀k,k<w.heap.size->k≠eb->v.ownBlock≠some k->w'.heap[k]? =w.heap[k]?
 place: ∀k,v'.ownBlock=some k->v.ownBlock=some k\/w.heap.size<=k
theorem kR.refl (base eb:Nat) (v:Value) (w:World):kR base eb v v w w:=⟨Below.refl _ _,fun _ _ _ _=>rfl,fun _ h=> .inl h⟩
theorem kR.trans {base eb:Nat} {v v1 v2:Value} {A B C:World} (h:kR base eb v v1 A B) (k:kR base eb v1 v2 B C) (hs:A.heap.size<=B.heap.size):kR base eb v v2 A C:=
 ⟨h.below.trans k.below,fun i h1 h2 h3=>(k.same i (by omega) h2 (fun e=>by
  rcases h.place i e with e2 | e2
  ·exact h3 e2
  ·omega)).trans (h.same i h1 h2 h3),fun i e=>by
  rcases k.place i e with e2 | e2
  ·exact h.place i e2
  ·exact .inr (by omega)⟩
theorem kR.ofBelow {base eb:Nat} {v:Value} {w w':World} (h:Below w.heap.size w w') (hb:base<=w.heap.size):kR base eb v v w w':=⟨h.mono hb,fun k h1 _ _=>h.block k h1,fun _ e=> .inl e⟩
theorem eT.below {w w':World} {base eb:Nat} {v:Value} {acc:List bp} (h:eT w base eb v acc) (hb:Below w.heap.size w w'):eT w' base eb v acc:=by
 obtain⟨h1,ys,h2,h3,h4⟩:=h;exact⟨(hb.block _ (lt_of_block h1)).trans h1,ys,h2,aY h3 hb,fun y hy=>aY (h4 y hy) hb⟩
theorem aK {w:World} {k:Nat} {cs cs':Array Value} {t t':TypeId} {z z':Nat×Nat} (h:w.heap[k]? =some (.cells cs t z)) (h':w.heap[k]? =some (.cells cs' t' z')):t=t':=by
 have:=h.symm.trans h';simp at this;exact this.2.1
theorem cZ {w w':World} {base sz n:Nat} {e:TypeId} {v:Value} {xs:List Value} (h:w.ownsRow base e sz v n xs) (hs: ∀k,k<w.heap.size->v.ownBlock=some k->w'.heap[k]? =w.heap[k]?):w'.ownsRow base e sz v n xs:=by
 obtain⟨hl,h2⟩:=h;refine⟨hl, ?_⟩
 rcases h2 with h2 | ⟨g,cap,cur,rfl,hg,hh,h3⟩
 ·exact .inl h2
 ·exact .inr ⟨g,cap,cur,rfl,hg,(hs g (lt_of_block hh) rfl).trans hh,h3⟩
theorem eT.push {w w2:World} {base eb:Nat} {v v' dv:Value} {ys:List gP} {e:bp} (hx:w.heap[eb]? =some (.cells #[v] 46 (0,0))) (hr:w.ownsRow base 79 6 v ys.length (bY ys)) (hd: ∀y∈ys,w.ownsRow base 5 1 y.1 y.2.data.length (y.2.data.map aw)) (hn:w.ownsRow base 5 1 dv e.data.length (e.data.map aw))
  (hown:w2.ownsRow base 79 6 v' (ys.length+1) (bY ys++mI dv e)) (hg:w.grownBy w2 v.ownBlock) (hpl: ∀k,v'.ownBlock=some k->v.ownBlock=some k\/w.heap.size<=k) (hbe:base<=eb) (hbz:base<=w.heap.size):
  eT (w2.setCell ⟨eb,0,none⟩ v') base eb v' (ys.map Prod.snd++[e])/\kR base eb v v' w (w2.setCell ⟨eb,0,none⟩ v'):=by
 have hlt:=lt_of_block hx;have hne:v.ownBlock≠some eb:=fun h=>by
  obtain⟨cs,hc⟩:=aA hr h;exact absurd (aK hx hc) (by decide)
 have hne':v'.ownBlock≠some eb:=fun h=>by
  rcases hpl eb h with h | h
  ·exact hne h
  ·omega
 have hb2:=(hg.block eb hlt (fun h=>hne h.symm)).trans hx;have hdat: ∀(u:Value) (bs:List UInt8),w.ownsRow base 5 1 u bs.length (bs.map aw)->(w2.setCell ⟨eb,0,none⟩ v').ownsRow base 5 1 u bs.length (bs.map aw):=by
  intro u bs h;refine cZ h (fun k hk hu=> ?_);obtain⟨cs,hc⟩:=aA h hu;rw[Below.heap_setCell _ _ _ _ (show k≠eb from fun e=>absurd (aK (e▸hc) hx) (by decide))];refine hg.block k hk (fun e=> ?_);obtain⟨cs2,hc2⟩:=aA hr e.symm;exact absurd (aK hc hc2) (by decide)
 refine⟨⟨?_,ys++[(dv,e)],by simp, ?_,fun y hy=> ?_⟩,⟨?_,fun k hk h1 h2=> ?_,hpl⟩⟩
 ·have:=cO (k:=0) hb2 v'
  simpa using this
 ·rw[List.length_append,List.length_singleton,ld];exact hown.kept (aH _ _ _ _) (.inr (fun h=>hne' h))
 ·rcases List.mem_append.1 hy with hy | hy
  ·exact hdat _ _ (hd y hy)
  ·rw[List.mem_singleton]at hy;subst hy;exact hdat _ _ hn
 ·exact((Below.refl base w).grown hg hbz (fun k hk=>(hr.lt k hk).1)).grown (aH w2 eb 0 v') (Nat.le_trans hbz hg.size) (fun k hk=>by cases hk; exact hbe)
 ·rw[Below.heap_setCell _ _ _ _ (show k≠eb from h1)];exact hg.block k hk (fun e=>h2 e.symm)
structure nQ (w : World) (h5 h6 base eb : Nat) (v itv : Value) (l : List aB) (wr : World) (v2 : Value) (acc : List bp) : Prop where
 box:eT wr base eb v2 acc
 kp:kR base eb v v2 w wr
 apart: ∀k,v2.ownBlock=some k->k<h5\/h6<=k
 lo:eb<h5
 ord:w.heap.size<=h5/\h5<=h6/\h6<=wr.heap.size
 its:ba (fun k=>h5<=k/\k<h6) wr itv l
theorem nQ.step {w wr w':World} {h5 h6 base eb:Nat} {v itv v2 v3:Value} {l:List aB} {acc acc3:List bp} (h:nQ w h5 h6 base eb v itv l wr v2 acc) (h1:eT w' base eb v3 acc3) (h2:kR base eb v2 v3 wr w'):nQ w h5 h6 base eb v itv l w' v3 acc3:=by
 have ho:=h.ord;have hl:=h.lo;have hz:=h2.below.size;refine⟨h1,h.kp.trans h2 (by omega),fun k hk=> ?_,hl,⟨ho.1,ho.2.1,by omega⟩,h.its.same (fun k hk hS=>h2.same k hk (by omega) (fun e=> ?_))⟩
 ·rcases h2.place k hk with e | e
  ·exact h.apart k e
  ·exact .inr (by omega)
 ·have:=h.apart k e;omega
theorem nQ.below {w wr w':World} {h5 h6 base eb:Nat} {v itv v2:Value} {l:List aB} {acc:List bp} (h:nQ w h5 h6 base eb v itv l wr v2 acc) (hb:Below wr.heap.size wr w') (hbz:base<=wr.heap.size):nQ w h5 h6 base eb v itv l w' v2 acc:=
 h.step (h.box.below hb) (kR.ofBelow hb hbz)
end Go.Proofs.YtpffpjbkbaleiaaGreatDoor
namespace Go.Proofs.YtpffpjbkbaleiaaGreatDoor
open Go Go.RowKit
theorem Di {w:World} {b:Nat} {a0 a1 a2 x0 x1 x2:Value} {t:TypeId} (h:w.heap[b]? =some (.cells #[a0,a1,a2] t (0,0))):
  (((w.setCell ⟨b,0,none⟩ x0).setCell ⟨b,1,none⟩ x1).setCell ⟨b,2,none⟩ x2).heap[b]? =some (.cells #[x0,x1,x2] t (0,0)):=by
 have:=cO (k:=2) (cO (k:=1) (cO (k:=0) h x0) x1) x2
 simpa using this
theorem Dg {w:World} {b:Nat} {a0 a1 a2 a3 a4 a5 a6 a7 a8 a9 x0 x1 x2 x3 x4 x5 x6 x7 x8 x9:Value} {t:TypeId} (h:w.heap[b]? =some (.cells #[a0,a1,a2,a3,a4,a5,a6,a7,a8,a9] t (0,0))):
  ((((((((((w.setCell ⟨b,0,none⟩ x0).setCell ⟨b,1,none⟩ x1).setCell ⟨b,2,none⟩ x2).setCell ⟨b,3,none⟩ x3).setCell ⟨b,4,none⟩ x4).setCell ⟨b,5,none⟩ x5).setCell ⟨b,6,none⟩ x6).setCell ⟨b,7,none⟩ x7).setCell ⟨b,8,none⟩ x8).setCell ⟨b,9,none⟩ x9).heap[b]? =some (.cells #[x0,x1,x2,x3,x4,x5,x6,x7,x8,x9] t (0,0)):=by
 have:=cO (k:=9) (cO (k:=8) (cO (k:=7) (cO (k:=6) (cO (k:=5) (cO (k:=4) (cO (k:=3) (cO (k:=2) (cO (k:=1) (cO (k:=0) (h) x0) x1) x2) x3) x4) x5) x6) x7) x8) x9
 simpa using this
theorem dn {B b:Nat} {a w:World} {x0 x1 x2:Value} (h:Below B a w) (hb:B<=b):Below B a (((w.setCell ⟨b,0,none⟩ x0).setCell ⟨b,1,none⟩ x1).setCell ⟨b,2,none⟩ x2):=(Below.setCell (Below.setCell (Below.setCell h hb x0) hb x1) hb x2)
theorem dD {B b:Nat} {a w:World} {x0 x1 x2 x3 x4 x5 x6 x7 x8 x9:Value} (h:Below B a w) (hb:B<=b):Below B a ((((((((((w.setCell ⟨b,0,none⟩ x0).setCell ⟨b,1,none⟩ x1).setCell ⟨b,2,none⟩ x2).setCell ⟨b,3,none⟩ x3).setCell ⟨b,4,none⟩ x4).setCell ⟨b,5,none⟩ x5).setCell ⟨b,6,none⟩ x6).setCell ⟨b,7,none⟩ x7).setCell ⟨b,8,none⟩ x8).setCell ⟨b,9,none⟩ x9):=(Below.setCell (Below.setCell (Below.setCell (Below.setCell (Below.setCell (Below.setCell (Below.setCell (Below.setCell (Below.setCell (Below.setCell h hb x0) hb x1) hb x2) hb x3) hb x4) hb x5) hb x6) hb x7) hb x8) hb x9)
theorem bP {b k:Nat} {w:World} {x0 x1 x2:Value} (hk:k≠b):(((w.setCell ⟨b,0,none⟩ x0).setCell ⟨b,1,none⟩ x1).setCell ⟨b,2,none⟩ x2).heap[k]? =w.heap[k]? :=(Below.heap_setCell _ _ _ _ hk).trans ((Below.heap_setCell _ _ _ _ hk).trans (Below.heap_setCell _ _ _ _ hk))
theorem ll {b k:Nat} {w:World} {x0 x1 x2 x3 x4 x5 x6 x7 x8 x9:Value} (hk:k≠b):((((((((((w.setCell ⟨b,0,none⟩ x0).setCell ⟨b,1,none⟩ x1).setCell ⟨b,2,none⟩ x2).setCell ⟨b,3,none⟩ x3).setCell ⟨b,4,none⟩ x4).setCell ⟨b,5,none⟩ x5).setCell ⟨b,6,none⟩ x6).setCell ⟨b,7,none⟩ x7).setCell ⟨b,8,none⟩ x8).setCell ⟨b,9,none⟩ x9).heap[k]? =w.heap[k]? :=(Below.heap_setCell _ _ _ _ hk).trans ((Below.heap_setCell _ _ _ _ hk).trans ((Below.heap_setCell _ _ _ _ hk).trans ((Below.heap_setCell _ _ _ _ hk).trans ((Below.heap_setCell _ _ _ _ hk).trans ((Below.heap_setCell _ _ _ _ hk).trans ((Below.heap_setCell _ _ _ _ hk).trans ((Below.heap_setCell _ _ _ _ hk).trans ((Below.heap_setCell _ _ _ _ hk).trans (Below.heap_setCell _ _ _ _ hk)))))))))
def pA (c:ByteArray):List aB->Nat->Int
 | [],_=> -1
 | x::t,k=>if x.name=c then(k:Int)else pA c t (k+1)
theorem rN {c:ByteArray} {l:List aB} {k:Nat} {x:aB} (h:l[k]? =some x):pA c (l.drop k) k=if x.name=c then(k:Int)else pA c (l.drop (k+1)) (k+1):=by
 obtain⟨hk,rfl⟩:=List.getElem?_eq_some_iff.1 h;rw[List.drop_eq_getElem_cons hk,pA]
theorem rO (c:ByteArray): ∀(l:List aB) (k:Nat),(l.find? (fun y=>decide (y.name=c))=none/\pA c l k= -1)\/ ∃(j:Nat) (y:aB),l[j]? =some y/\l.find? (fun y=>decide (y.name=c))=some y/\pA c l k=((k+j:Nat):Int)
 | [],_=> .inl ⟨rfl,rfl⟩
 | x::t,k=>by
  by_cases h:x.name=c
  ·exact .inr ⟨0,x,rfl,by rw[List.find?_cons_of_pos (by simp[h])],by rw[pA,if_pos h]; rfl⟩
  ·rw[List.find?_cons_of_neg (by simp[h]),pA,if_neg h]
   rcases rO c t (k+1)with⟨h1,h2⟩ | ⟨j,y,h1,h2,h3⟩
   ·exact .inl ⟨h1,h2⟩
   ·exact .inr ⟨j+1,y,by simpa using h1,h2,by rw[h3]; congr 1; omega⟩
theorem rX (it:aB) (cv:Value) (c:ByteArray) (pb:Nat) (w:World) (hc:w.cell? ⟨pb,0,none⟩=some (.string c)):
  Calls Tryz.prog 85 #[fJ cv it, .pointer (some ⟨pb,0,none⟩)] w fun e w'=>e= .returned (.bool (decide (it.name=c)))/\Below w.heap.size w w':=by
 have hlt:=aC hc;simp only at hlt;have hne: ¬pb=w.heap.size:=by omega
 unfold fJ
 go_enter Tryz.func85,Tryz.ntmps85
 go_wp2_with fail;go_ret;refine⟨ar ?_,(Below.refl _ _).alloc (Nat.le_refl _) _⟩;rw[Bool.eq_iff_iff];simp only[bJ,beq_iff_eq,decide_eq_true_eq];exact⟨fun h=>fg h,fun h=>by rw[h]⟩
theorem qG (S:Nat->Prop) (l:List aB) (c:ByteArray) (pb:Nat) (v:Value) (w:World) (hv:ba S w v l) (hc:w.cell? ⟨pb,0,none⟩=some (.string c)):
  Calls Tryz.prog 84 #[v, .func (.func 85) #[] #[.pointer (some ⟨pb,0,none⟩)]] w fun e w'=>e= .returned (.int .i64 (pA c l 0))/\Below w.heap.size w w':=by
 obtain⟨a,cap,rfl,hcp,hm,-⟩:=aS.shape hv dX.len;unfold maxLen at hm;have HV:=ag hv;have HC:=ag hc;clear hv hc
 go_enter Tryz.func84,Tryz.ntmps84
 go_wp2_with fail
 go_loopw [8] (fun i wr=> ∃k:Nat,k<=l.length/\i= .int .i64 k/\Below w.heap.size w wr/\pA c l 0=pA c (l.drop k) k) (fun i _=>l.length-(intOf i).toNat)
 case atStart=>exact⟨0,Nat.zero_le _,rfl,Below.refl _ _,rfl⟩
 case round=>
  obtain⟨k,hk,rfl,hb,hd⟩:=hrel;have HB:=ag hb;have HD:=ag hd;clear hb hd
  by_cases hlt:k<l.length
  ·obtain⟨it,hr⟩: ∃it,l[k]? =some it:=⟨l[k],by simp[hlt]⟩;obtain⟨b,o,ca,cc,rfl,-,-,hbl,-,hcl⟩:=ei HV.out HB.out hr;have q0:=hcl 0 (by omega);have q1:=hcl 1 (by omega);have q2:=hcl 2 (by omega);have q3:=hcl 3 (by omega);have q4:=hcl 4 (by omega);have q5:=hcl 5 (by omega);have q6:=hcl 6 (by omega);have q7:=hcl 7 (by omega);have q8:=hcl 8 (by omega);have q9:=hcl 9 (by omega)
   simp only[cV,Ci,Nat.add_zero]at q0 q1 q2 q3 q4 q5 q6 q7 q8 q9;have HC2:=ag ((HB.out.cell (p:=⟨pb,0,none⟩) (aC HC.out)).trans HC.out);have HR:=ag hr;clear hcl hr
   by_cases hin:it.name=c
   ·have HIN:=ag hin;clear hin;go_wp2_with (go_at_call 85; refine(rX it (.slice ca it.chunks.length cc) c pb _ HC2.out).mono ?_; rintro e w1 ⟨rfl,hb1⟩; rw[decide_eq_true HIN.out]; have HB1:=ag hb1; clear hb1);go_ret;exact⟨cC (by rw[HD.out,rN HR.out,if_pos HIN.out]),ai HB.out HB1.out⟩
   ·have HIN:=ag hin;clear hin;go_wp2_with (go_at_call 85; refine(rX it (.slice ca it.chunks.length cc) c pb _ HC2.out).mono ?_; rintro e w1 ⟨rfl,hb1⟩; rw[decide_eq_false HIN.out]; have HB1:=ag hb1; clear hb1)
    go_roundw
    case rel=>exact⟨k+1,by omega,by go_num,ai HB.out HB1.out,by rw[HD.out,rN HR.out,if_neg HIN.out]⟩
    case measure=>simp[intOf]; omega
  ·go_wp2_with fail;go_ret;exact⟨cC (by rw[HD.out,List.drop_eq_nil_of_le (by omega)]; rfl),HB.out⟩
end Go.Proofs.YtpffpjbkbaleiaaGreatDoor
namespace Go.Proofs.YtpffpjbkbaleiaaGreatDoor
open Go.RowKit
theorem uD (a:Option Addr) (c:Nat) (w:World):(convert 29 9 (.slice a 0 c)).run Tryz.prog w= .ok (.string ⟨#[]⟩) w:=by cases a<;> kernel_rfl
theorem ry {S:Nat->Prop} {w:World} {v:Value} {bs:List UInt8} (hd:bw S w v bs):(convert 29 9 v).run Tryz.prog w= .ok (.string (strOfNums (bs.map fun b=>(b.toNat:Int)))) w:=by
 obtain⟨_,a,cap,rfl,hn,hm,h0⟩:=hd
 rcases h0 with h0 | ⟨b,o,rfl,_,hc⟩
 ·obtain rfl:=List.eq_nil_of_length_eq_zero h0;exact uD a cap w
 ·exact run_convert_bytes_arg (P:=Tryz.prog) w 29 5 Tryz.underlying29 Tryz.underlying5 b o bs.length cap (bs.map fun b=>(b.toNat:Int)) (by simp) (fun i hi=>by
   rw[hc i (u8V bs[i]) (by simp[hi])];simp[u8V,List.getD,hi]) 9 Tryz.underlying9
end Go.Proofs.YtpffpjbkbaleiaaGreatDoor
namespace Go.Proofs.YtpffpjbkbaleiaaGreatDoor
open Go.RowKit Go.Maps
theorem eP (p q:ByteArray) (w:World) (he:gN w) (hv:be (bl p)=true) (hq:q=⟨(aU (bl p)).toArray⟩):
  Calls Tryz.prog 72 #[.string p] w fun e w'=>e= .returned (.tuple #[.string q, .bool true])/\Below w.heap.size w w':=by
 rw[hq]; exact xF p w he hv
theorem om (q:ByteArray):q.toList.isEmpty=decide (bl q=[]):=by rw[bJ,Bool.eq_iff_iff]; simp
end Go.Proofs.YtpffpjbkbaleiaaGreatDoor
namespace Go.Proofs.YtpffpjbkbaleiaaGreatDoor
open Go.RowKit Go.Maps
theorem kG (S:Nat->Prop) (en:bp) (v:Value) (b:Bool) (w:World) (hd:bw S w v en.data) (hok:dL en) (henv:gN w) (h:iI en=b):Calls Tryz.prog 117 #[uL v en] w fun e w'=>e= .returned (.bool b)/\Below w.heap.size w w':=by
 rw[<-h]; exact xX S en v w hd hok henv
end Go.Proofs.YtpffpjbkbaleiaaGreatDoor
namespace Go.Proofs.YtpffpjbkbaleiaaGreatDoor
open Go.RowKit Go.Maps
theorem rm : ∀ {m pre:List bp} (r:List bp),Tr (pre++m)->iB pre (m++r)=iB (pre++m) r
 | [],pre,r,_=>by simp
 | e::m,pre,r,h=>by
  have h1:Tr (pre++[e]):=Tr.pre (M:=m) (by simpa using h);have h2:=(jF h1.pre e).2 h1;have h3:=rm (m:=m) (pre:=pre++[e]) r (by simpa using h);rw[List.cons_append,iB,if_pos h2,h3];simp
theorem ut {L:List bp} (hl:L.length<=4096) {k:Nat} (h:Tr (L.take k)):cX L=iB (L.take k) (L.drop k):=by
 have h1:=rm (m:=L.take k) (pre:=[]) (L.drop k) (by simpa using h);rw[List.take_append_drop,List.nil_append]at h1;unfold cX;rw[if_neg (by omega),h1]
theorem rC {α:Type} {L:List α} {k:Nat} {e:α} (h:L[k]? =some e):L.drop k=e::L.drop (k+1):=by
 obtain⟨h1,h2⟩:=List.getElem?_eq_some_iff.1 h;rw[List.drop_eq_getElem_cons h1,h2]
theorem fu {L:List bp} (hl:L.length<=4096) {k:Nat} (h:Tr (L.take k)) {e:bp} (he:L[k]? =some e) {x:Int} (hx:cR (L.take k) e=x) (h0:x≠0):cX L=x:=by
 rw[ut hl h,rC he,iB,hx,if_neg h0]
theorem jh {L:List bp} {k:Nat} (h:Tr (L.take k)) {e:bp} (he:L[k]? =some e) (hx:cR (L.take k) e=0):Tr (L.take (k+1)):=by
 rw[List.take_add_one,he];exact(jF h e).1 hx
theorem wM {L:List bp} (hl:L.length<=4096) (h:Tr (L.take L.length)):cX L=0:=by
 rw[ut hl h,List.drop_length]; rfl
theorem zA {L:List bp} (hl:4096<L.length):cX L=2:=by unfold cX; rw[if_pos hl]
def pJ (e:bp):Value×Value:=(.string e.path, .int .i64 e.kind)
theorem eO :Tryz.prog.underlying 47=some (.map 9 3):=Tryz.underlying47
theorem xA (w:World) (n:Nat) (hn:n<=4096):(Instr.makeMap 47 (some (.int .i64 (n:Int)))).run Tryz.prog w= .ok (.map (some w.heap.size)) (w.alloc (.map #[] 0)):=by
 have h1:IntKind.i64.wrap (n:Int)=n:=by rw[IntKind.wrap_i64]; omega
 simp[Instr.makeMap,asInt,asIntOf]
theorem kt {w:World} {mb:Nat} {M:List bp} (h:cT Tryz.prog 9 w mb (M.map pJ)) {p:ByteArray} (hp:p.size<=maxLen) {f:bp} (hf:ie M p=some f):
  (Instr.lookup 47 (.map (some mb)) (.string p) true).run Tryz.prog w= .ok (.tuple #[.int .i64 f.kind, .bool true]) w:=by
 obtain⟨h1,h2⟩:=lh hf;have h3:(Value.string p,Value.int .i64 f.kind)∈M.map pJ:=List.mem_map.2 ⟨f,h1,by rw[<-h2]; rfl⟩;have:=h.is.hit bR eO (cM hp) h3 true
 simpa only[if_true]using this
theorem pK {w:World} {mb:Nat} {M:List bp} (h:cT Tryz.prog 9 w mb (M.map pJ)) {p:ByteArray} (hp:p.size<=maxLen) (hf:ie M p=none):
  (Instr.lookup 47 (.map (some mb)) (.string p) true).run Tryz.prog w= .ok (.tuple #[.int .i64 0, .bool false]) w:=by
 have hz:(zeroValue 3).run Tryz.prog w= .ok (.int .i64 0) w:=by kernel_rfl
 have:=h.is.miss bR eO hz (cM hp) (fun q hq e=>by
  obtain⟨x,hx,rfl⟩:=List.mem_map.1 hq;simp only[pJ,Value.string.injEq]at e;exact pq hf x hx e) true
 simpa only[if_true]using this
theorem ku {M:List bp} {e:bp} (h:Tr (M++[e])): ∀q∈M.map pJ,q.1≠Value.string e.path:=by
 intro q hq hc;obtain⟨x,hx,rfl⟩:=List.mem_map.1 hq;simp only[pJ,Value.string.injEq]at hc;have hn:=h.ord.nodup;rw[List.map_append,List.nodup_append]at hn;exact hn.2.2 x.path (List.mem_map.2 ⟨x,hx,rfl⟩) e.path (by simp) hc
theorem rx (a b:ByteArray) (o:Int) (w:World) (ha:a.size<=maxLen) (h:cU (bl a) (bl b)=o):Calls Tryz.prog 118 #[.string a, .string b] w fun e w'=>e= .returned (.int .i64 o)/\Below w.heap.size w w':=by
 rw[<-h]; exact uA a b w (by unfold maxLen at ha; omega)
theorem BF {L:List bp} {k:Nat} {f e:bp} (hf:L[k]? =some f):jE (L.take (k+1)) e=decide (cU (bl f.path) (bl e.path)<0):=by
 have:(L.take (k+1)).getLast? =some f:=by rw[List.take_add_one,hf]; simp
 unfold jE;rw[this]; rfl
end Go.Proofs.YtpffpjbkbaleiaaGreatDoor
namespace Go.Proofs.YtpffpjbkbaleiaaGreatDoor
open Go.RowKit Go.Maps
def Fs (L:List bp) (mb:Nat) (w:World) (k:Nat) (wr:World):Prop:=Tr (L.take k)/\cT Tryz.prog 9 wr mb ((L.take k).map pJ)/\Below w.heap.size w wr
theorem zz (S:Nat->Prop) (L:List bp) (v:Value) (w:World) (hv:cD S w v L) (henv:gN w):Calls Tryz.prog 71 #[v] w fun e w'=>e= .returned (.int .i64 (cX L))/\Below w.heap.size w w':=by
 have HV:=ag hv;have HE:=ag henv;obtain⟨a,cap,rfl,hc,hm,-⟩:=aS.shape hv lD.len;unfold maxLen at hm;obtain⟨n,hn⟩: ∃n,n=L.length:=⟨_,rfl⟩;have HN:=ag hn;rw[<-hn]at hc HV ⊢;clear hv henv
 by_cases hbig:4096<n
 ·have hbi:(4096:Int)<(n:Int):=by omega
  have HC:=ag (zA (by rw[<-hn]; exact hbig));clear hbig hn
  go_enter Tryz.func71,Tryz.ntmps71
  go_wp2_with fail;go_ret;exact⟨cC (by rw[HC.out]),Below.refl _ _⟩
 ·have hbi:(n:Int)<=(4096:Int):=by omega
  have hmk:=xA w n (by omega);have HL4:=ag (show L.length<=4096 by omega);clear hbig hn
  go_enter Tryz.func71,Tryz.ntmps71
  go_wp2_with fail;obtain⟨W0,hW0⟩: ∃W0,W0=w.alloc (.map #[] 0):=⟨_,rfl⟩;rw[<-hW0];have HM0:=ag (show cT Tryz.prog 9 W0 w.heap.size [] by rw[hW0]; exact cT.made w);have HB0:=ag (show Below w.heap.size w W0 by rw[hW0]; exact(Below.refl _ _).alloc (Nat.le_refl _) _);clear hW0;clear hmk
  go_loopw [18] (fun i wr=> ∃k:Nat,k<=n/\i= .int .i64 k/\Fs L w.heap.size w k wr) (fun i _=>n-(intOf i).toNat)
  case atStart=>exact⟨0,Nat.zero_le _,rfl,⟨List.Pairwise.nil,by simp,by simp⟩,HM0.out,HB0.out⟩
  case round=>
   obtain⟨k,hk,rfl,htr,hkm,hbr⟩:=hrel;have HTR:=ag htr;have HKM:=ag hkm;have HBR:=ag hbr;clear htr hkm hbr
   by_cases hlt:k<n
   ·obtain⟨e,he⟩: ∃e,L[k]? =some e:=⟨L[k]'(by rw[<-HN.out]; exact hlt),by simp⟩;obtain⟨b,o,dv,rfl,-,hb,hd,hok,-,q0,q1,q2,q3,q4,q5⟩:=gZ (HV.out.below HBR.out) he;have HAT:=ag he;have HD:=ag hd;have HOK:=ag hok;obtain⟨a1,cap1,rfl,hd1,hd2⟩:=hd.slice;unfold maxLen at hd2;clear he hd hok
    cases hve:iI e
    ·have HVE:=ag hve;have HCA:=ag (show cR (L.take k) e=1 by unfold cR; rw[hve]; rfl);clear hve;go_wp2_with fail;obtain⟨W,hW⟩: ∃W,W=wr.alloc (.cells #[.string e.path, .int .i64 e.kind, .int .i64 e.mode, .int .i64 e.time, .slice a1 e.data.length cap1, .string e.link] 79):=⟨_,rfl⟩;rw[<-hW];have HX:=ag (show W.heap[wr.heap.size]? =some (.cells #[.string e.path, .int .i64 e.kind, .int .i64 e.mode, .int .i64 e.time, .slice a1 e.data.length cap1, .string e.link] 79 (0,0)) by rw[hW]; exact bS wr _)
     have HWL:=ag (show Below wr.heap.size wr W by rw[hW]; exact(Below.refl _ _).alloc (Nat.le_refl _) _);have HBW:=ag (ai HBR.out HWL.out);clear hW;refine(kG S e _ false _ (HD.out.below HWL.out) HOK.out (HE.out.below HBW.out) HVE.out).mono ?_;rintro e7 w7 ⟨rfl,hb7⟩;have HB9:=ag (ai HBW.out hb7);clear hb7;go_wp2_with fail;go_ret;exact⟨cC (by rw[fu HL4.out HTR.out HAT.out (x:=1) HCA.out (by decide)]),HB9.out⟩
    ·have HVE:=ag hve;obtain⟨q,hq⟩: ∃q:ByteArray,q=⟨(aU (bl e.path)).toArray⟩:=⟨_,rfl⟩;have HBQ:=ag (show bl q=aU (bl e.path) by rw[hq]; exact eK _);have HQ:=ag hq;have HQS:=ag (show q.size<=maxLen by
      have h1:=gH (bQ hve);have h2:=xY (bQ hve);rw[az,HBQ.out]; unfold maxLen; omega)
     clear hve hq
     rcases Nat.eq_zero_or_pos k with hk0 | hk0
     ·have e9:decide (0<k)=false:=by simp; omega
      have e8:(k:Int)<=0:=by omega
      have HCV:=ag (show(iI e && jE (L.take k) e)=true by rw[hk0,HVE.out]; rfl);clear hk0;go_wp2_with fail;obtain⟨W,hW⟩: ∃W,W=wr.alloc (.cells #[.string e.path, .int .i64 e.kind, .int .i64 e.mode, .int .i64 e.time, .slice a1 e.data.length cap1, .string e.link] 79):=⟨_,rfl⟩;rw[<-hW];have HX:=ag (show W.heap[wr.heap.size]? =some (.cells #[.string e.path, .int .i64 e.kind, .int .i64 e.mode, .int .i64 e.time, .slice a1 e.data.length cap1, .string e.link] 79 (0,0)) by rw[hW]; exact bS wr _)
      have HWL:=ag (show Below wr.heap.size wr W by rw[hW]; exact(Below.refl _ _).alloc (Nat.le_refl _) _);have HBW:=ag (ai HBR.out HWL.out);clear hW;refine(kG S e _ true _ (HD.out.below HWL.out) HOK.out (HE.out.below HBW.out) HVE.out).mono ?_;rintro e7 w7 ⟨rfl,hb7⟩;have HX7:=ag ((hb7.block wr.heap.size (nR HX.out)).trans HX.out);have HL7:=ag (HWL.out.trans (hb7.mono HWL.out.size))
      have c0:=af (k:=0) HX7.out;have c1:=af (k:=1) HX7.out;have c2:=af (k:=2) HX7.out;have c3:=af (k:=3) HX7.out;have c4:=af (k:=4) HX7.out;have c5:=af (k:=5) HX7.out;simp only[aP]at c0 c1 c2 c3 c4 c5;clear hb7;go_wp2_with fail;refine au [some 11,none,some 2] (by kernel_rfl) (by kernel_rfl) (by kernel_rfl) ?_;simp only[bn,List.take_succ_cons,List.take_zero,List.drop_succ_cons,List.drop_zero]
      obtain⟨wd,hwd⟩: ∃wd:World,wd=w7.drew:=⟨_,rfl⟩;rw[<-hwd];have HLD:=ag (show Below wr.heap.size wr wd by rw[hwd]; exact HL7.out.trans ((Below.refl w7.heap.size w7).drew.mono HL7.out.size));have HXD:=ag (show wd.heap[wr.heap.size]? =some (.cells #[.string e.path, .int .i64 e.kind, .int .i64 e.mode, .int .i64 e.time, .slice a1 e.data.length cap1, .string e.link] 79 (0,0)) by rw[hwd]; exact HX7.out)
      clear hwd c0 c1 c2 c3 c4 c5;have c0:=af (k:=0) HXD.out;have c1:=af (k:=1) HXD.out;have c2:=af (k:=2) HXD.out;have c3:=af (k:=3) HXD.out;have c4:=af (k:=4) HXD.out;have c5:=af (k:=5) HXD.out;simp only[aP]at c0 c1 c2 c3 c4 c5
      repeat (first | (refine aI rfl ?_; simp only[Act.put,aE,aF,aG]) | (refine aM rfl (fun K hK=> ?_); go_simp; refine hK _ ?_; clear hK K))
      refine aL ?_;refine BI rfl ?_;simp only[Act.put,aE,aF,aG]
      repeat (first | (refine aI rfl ?_; simp only[Act.put,aE,aF,aG]) | (refine aM rfl (fun K hK=> ?_); go_simp; refine hK _ ?_; clear hK K))
      refine aL ?_;clear c0 c1 c2 c3 c4 c5;have HL8:=ag HLD.out;have HX8:=ag HXD.out;have HB8:=ag (ai HBR.out HLD.out);have c0:=af (k:=0) HX8.out;have c1:=af (k:=1) HX8.out;have c2:=af (k:=2) HX8.out;have c3:=af (k:=3) HX8.out;have c4:=af (k:=4) HX8.out;have c5:=af (k:=5) HX8.out;simp only[aP]at c0 c1 c2 c3 c4 c5;go_wp2_with fail
      by_cases h0:aU (bl e.path)=[]
      ·have e1:q.toList.isEmpty=true:=by rw[om,HBQ.out,decide_eq_true h0]
       have HTN:=ag (jh HTR.out HAT.out (show cR (L.take k) e=0 by unfold cR; rw[if_pos HCV.out]; unfold lP; rw[if_pos h0]));clear h0;refine(eP e.path q _ (HE.out.below HB8.out) (bQ HVE.out) HQ.out).mono ?_;rintro e9 w9 ⟨rfl,hb9⟩;have HL9:=ag (HL8.out.trans (hb9.mono HL8.out.size));have HB9:=ag (ai HB8.out hb9);have HX9:=ag ((hb9.block wr.heap.size (nR HX8.out)).trans HX8.out)
       have HK9:=ag (HKM.out.same (HL9.out.block w.heap.size HKM.out.lt));clear hb9;have c0:=af (k:=0) HX9.out;have c1:=af (k:=1) HX9.out;have c2:=af (k:=2) HX9.out;have c3:=af (k:=3) HX9.out;have c4:=af (k:=4) HX9.out;have c5:=af (k:=5) HX9.out;simp only[aP]at c0 c1 c2 c3 c4 c5;go_wp2_with (at_mapUpdate; go_must (refine eo bR rfl _ _ _ _ rfl eO w.heap.size _ HK9.out rfl (.string e.path) (.int .i64 e.kind) rfl rfl (cM HOK.out.pth) (ku (by have h1:=HTN.out; rw[List.take_add_one,HAT.out]at h1; exact h1)) ?_); intro w10 hm10 hg10)
       have HM10:=ag hm10;have HG10:=ag hg10;clear hm10 hg10 c0 c1 c2 c3 c4 c5;go_wp2_with fail
       go_roundw
       case rel=>
        refine⟨k+1,by omega,by go_num,HTN.out, ?_, ?_⟩
        ·rw[List.take_add_one,HAT.out,List.map_append]; exact HM10.out
        ·exact HB9.out.grown HG10.out HB9.out.size (fun k e=>by cases e; exact Nat.le_refl _)
       case measure=>simp[intOf]; omega
      ·have e1:q.toList.isEmpty=false:=by rw[om,HBQ.out,decide_eq_false h0]
       have HDI:=ag (show ∀x,(match ie (L.take k) q with | none=>(4:Int) | some f=>if f.kind=2 then 0 else 13)=x->cR (L.take k) e=x from fun x hx=>by unfold cR; rw[if_pos HCV.out]; unfold lP; rw[if_neg h0,<-HQ.out]; exact hx);clear h0
       cases hf:ie (L.take k) q with
       | none=>
        have HF:=ag hf;have HCA:=ag (HDI.out 4 (by rw[hf]));clear hf;refine(eP e.path q _ (HE.out.below HB8.out) (bQ HVE.out) HQ.out).mono ?_;rintro e9 w9 ⟨rfl,hb9⟩;have HL9:=ag (HL8.out.trans (hb9.mono HL8.out.size));have HB9:=ag (ai HB8.out hb9);have HX9:=ag ((hb9.block wr.heap.size (nR HX8.out)).trans HX8.out);have HK9:=ag (HKM.out.same (HL9.out.block w.heap.size HKM.out.lt))
        clear hb9;have c0:=af (k:=0) HX9.out;have c1:=af (k:=1) HX9.out;have c2:=af (k:=2) HX9.out;have c3:=af (k:=3) HX9.out;have c4:=af (k:=4) HX9.out;have c5:=af (k:=5) HX9.out;simp only[aP]at c0 c1 c2 c3 c4 c5;have hlk:=pK HK9.out HQS.out HF.out;go_wp2_with fail;go_ret;exact⟨cC (by rw[fu HL4.out HTR.out HAT.out (x:=4) HCA.out (by decide)]),HB9.out⟩
       | some f=>
        have HF:=ag hf
        by_cases hk2:f.kind=2
        ·have e3:(f.kind != 2)=false:=by simp[hk2]
         have HTN:=ag (jh HTR.out HAT.out (HDI.out 0 (by rw[hf]; simp only[if_pos hk2])));clear hf hk2;refine(eP e.path q _ (HE.out.below HB8.out) (bQ HVE.out) HQ.out).mono ?_;rintro e9 w9 ⟨rfl,hb9⟩;have HL9:=ag (HL8.out.trans (hb9.mono HL8.out.size));have HB9:=ag (ai HB8.out hb9);have HX9:=ag ((hb9.block wr.heap.size (nR HX8.out)).trans HX8.out);have HK9:=ag (HKM.out.same (HL9.out.block w.heap.size HKM.out.lt))
         clear hb9;have c0:=af (k:=0) HX9.out;have c1:=af (k:=1) HX9.out;have c2:=af (k:=2) HX9.out;have c3:=af (k:=3) HX9.out;have c4:=af (k:=4) HX9.out;have c5:=af (k:=5) HX9.out;simp only[aP]at c0 c1 c2 c3 c4 c5;have hlk:=kt HK9.out HQS.out HF.out;go_wp2_with (at_mapUpdate; go_must (refine eo bR rfl _ _ _ _ rfl eO w.heap.size _ HK9.out rfl (.string e.path) (.int .i64 e.kind) rfl rfl (cM HOK.out.pth) (ku (by have h1:=HTN.out; rw[List.take_add_one,HAT.out]at h1; exact h1)) ?_); intro w10 hm10 hg10)
         have HM10:=ag hm10;have HG10:=ag hg10;clear hm10 hg10 c0 c1 c2 c3 c4 c5;go_wp2_with fail
         go_roundw
         case rel=>
          refine⟨k+1,by omega,by go_num,HTN.out, ?_, ?_⟩
          ·rw[List.take_add_one,HAT.out,List.map_append]; exact HM10.out
          ·exact HB9.out.grown HG10.out HB9.out.size (fun k e=>by cases e; exact Nat.le_refl _)
         case measure=>simp[intOf]; omega
        ·have e3:(f.kind != 2)=true:=by simp[hk2]
         have HCA:=ag (HDI.out 13 (by rw[hf]; simp only[if_neg hk2]));clear hf hk2;refine(eP e.path q _ (HE.out.below HB8.out) (bQ HVE.out) HQ.out).mono ?_;rintro e9 w9 ⟨rfl,hb9⟩;have HL9:=ag (HL8.out.trans (hb9.mono HL8.out.size));have HB9:=ag (ai HB8.out hb9);have HX9:=ag ((hb9.block wr.heap.size (nR HX8.out)).trans HX8.out);have HK9:=ag (HKM.out.same (HL9.out.block w.heap.size HKM.out.lt))
         clear hb9;have c0:=af (k:=0) HX9.out;have c1:=af (k:=1) HX9.out;have c2:=af (k:=2) HX9.out;have c3:=af (k:=3) HX9.out;have c4:=af (k:=4) HX9.out;have c5:=af (k:=5) HX9.out;simp only[aP]at c0 c1 c2 c3 c4 c5;have hlk:=kt HK9.out HQS.out HF.out;go_wp2_with fail;go_ret;exact⟨cC (by rw[fu HL4.out HTR.out HAT.out (x:=13) HCA.out (by decide)]),HB9.out⟩
     ·obtain⟨j,rfl⟩: ∃j,k=j+1:=⟨k-1,by omega⟩;obtain⟨f,hf⟩: ∃f,L[j]? =some f:=⟨L[j]'(by rw[<-HN.out]; omega),by simp⟩;obtain⟨b',o',dv',he',-,-,-,hokf,-,p0,-⟩:=gZ (HV.out.below HBR.out) hf;simp only[Option.some.injEq,Addr.mk.injEq,and_true]at he';obtain⟨rfl,rfl⟩:=he';have HPF:=ag hokf.pth;obtain⟨c,hc⟩: ∃c,cU (bl f.path) (bl e.path)=c:=⟨_,rfl⟩
      have HC:=ag hc;have e9:decide (0<j+1)=true:=by simp
      have hjn:j<n:=by omega
      have hjn2:(j:Int)<(n:Int):=by omega
      have hjn3:decide (j<n)=true:=by simp; omega
      have hwj:IntKind.i64.wrap (j:Int)=j:=by rw[IntKind.wrap_i64]; omega
      have HAF:=ag (show jE (L.take (j+1)) e=decide (c<0) by rw[BF hf,hc]);clear hf hokf hc hk0
      by_cases hneg:c<0
      ·have HCV:=ag (show(iI e && jE (L.take (j+1)) e)=true by rw[HVE.out,HAF.out,decide_eq_true hneg]; rfl);have e8:decide (0<=c)=false:=by simp; omega
       go_wp2_with fail;obtain⟨W,hW⟩: ∃W,W=wr.alloc (.cells #[.string e.path, .int .i64 e.kind, .int .i64 e.mode, .int .i64 e.time, .slice a1 e.data.length cap1, .string e.link] 79):=⟨_,rfl⟩;rw[<-hW];have HX:=ag (show W.heap[wr.heap.size]? =some (.cells #[.string e.path, .int .i64 e.kind, .int .i64 e.mode, .int .i64 e.time, .slice a1 e.data.length cap1, .string e.link] 79 (0,0)) by rw[hW]; exact bS wr _)
       have HWL:=ag (show Below wr.heap.size wr W by rw[hW]; exact(Below.refl _ _).alloc (Nat.le_refl _) _);have HBW:=ag (ai HBR.out HWL.out);clear hW;refine(kG S e _ true _ (HD.out.below HWL.out) HOK.out (HE.out.below HBW.out) HVE.out).mono ?_;rintro e7 w7 ⟨rfl,hb7⟩;have HX7:=ag ((hb7.block wr.heap.size (nR HX.out)).trans HX.out);have HL7:=ag (HWL.out.trans (hb7.mono HWL.out.size))
       have c0:=af (k:=0) HX7.out;have c1:=af (k:=1) HX7.out;have c2:=af (k:=2) HX7.out;have c3:=af (k:=3) HX7.out;have c4:=af (k:=4) HX7.out;have c5:=af (k:=5) HX7.out;simp only[aP]at c0 c1 c2 c3 c4 c5;clear hb7;go_wp2_with fail;refine au [some 11,none,some 2] (by kernel_rfl) (by kernel_rfl) (by kernel_rfl) ?_;simp only[bn,List.take_succ_cons,List.take_zero,List.drop_succ_cons,List.drop_zero]
       obtain⟨wd,hwd⟩: ∃wd:World,wd=w7.drew:=⟨_,rfl⟩;rw[<-hwd];have HLD:=ag (show Below wr.heap.size wr wd by rw[hwd]; exact HL7.out.trans ((Below.refl w7.heap.size w7).drew.mono HL7.out.size));have HXD:=ag (show wd.heap[wr.heap.size]? =some (.cells #[.string e.path, .int .i64 e.kind, .int .i64 e.mode, .int .i64 e.time, .slice a1 e.data.length cap1, .string e.link] 79 (0,0)) by rw[hwd]; exact HX7.out)
       clear hwd c0 c1 c2 c3 c4 c5;have c0:=af (k:=0) HXD.out;have c1:=af (k:=1) HXD.out;have c2:=af (k:=2) HXD.out;have c3:=af (k:=3) HXD.out;have c4:=af (k:=4) HXD.out;have c5:=af (k:=5) HXD.out;simp only[aP]at c0 c1 c2 c3 c4 c5;have y0:=(HLD.out.cell (aC p0)).trans p0
       repeat (first | (refine aI rfl ?_; simp only[Act.put,aE,aF,aG]) | (refine aM rfl (fun K hK=> ?_); go_simp; refine hK _ ?_; clear hK K))
       refine aL ?_;refine bC rfl (fun K hK=> ?_);go_wp2_with (go_at_call 118; refine(rx f.path e.path c _ HPF.out HC.out).mono ?_; rintro e8' w8 ⟨rfl,hb8⟩; have HL8:=ag (HLD.out.trans (hb8.mono HLD.out.size)); have HX8:=ag ((hb8.block wr.heap.size (nR HXD.out)).trans HXD.out); clear hb8 c0 c1 c2 c3 c4 c5 y0)
       repeat (first | (refine aI rfl ?_; simp only[Act.put,aE,aF,aG]) | (refine aM rfl (fun K hK=> ?_); go_simp; refine hK _ ?_; clear hK K))
       refine aL ?_;have HB8:=ag (ai HBR.out HL8.out);have c0:=af (k:=0) HX8.out;have c1:=af (k:=1) HX8.out;have c2:=af (k:=2) HX8.out;have c3:=af (k:=3) HX8.out;have c4:=af (k:=4) HX8.out;have c5:=af (k:=5) HX8.out;simp only[aP]at c0 c1 c2 c3 c4 c5;go_wp2_with fail
       by_cases h0:aU (bl e.path)=[]
       ·have e1:q.toList.isEmpty=true:=by rw[om,HBQ.out,decide_eq_true h0]
        have HTN:=ag (jh HTR.out HAT.out (show cR (L.take (j+1)) e=0 by unfold cR; rw[if_pos HCV.out]; unfold lP; rw[if_pos h0]));clear h0;refine(eP e.path q _ (HE.out.below HB8.out) (bQ HVE.out) HQ.out).mono ?_;rintro e9 w9 ⟨rfl,hb9⟩;have HL9:=ag (HL8.out.trans (hb9.mono HL8.out.size));have HB9:=ag (ai HB8.out hb9);have HX9:=ag ((hb9.block wr.heap.size (nR HX8.out)).trans HX8.out)
        have HK9:=ag (HKM.out.same (HL9.out.block w.heap.size HKM.out.lt));clear hb9;have c0:=af (k:=0) HX9.out;have c1:=af (k:=1) HX9.out;have c2:=af (k:=2) HX9.out;have c3:=af (k:=3) HX9.out;have c4:=af (k:=4) HX9.out;have c5:=af (k:=5) HX9.out;simp only[aP]at c0 c1 c2 c3 c4 c5;go_wp2_with (at_mapUpdate; go_must (refine eo bR rfl _ _ _ _ rfl eO w.heap.size _ HK9.out rfl (.string e.path) (.int .i64 e.kind) rfl rfl (cM HOK.out.pth) (ku (by have h1:=HTN.out; rw[List.take_add_one,HAT.out]at h1; exact h1)) ?_); intro w10 hm10 hg10)
        have HM10:=ag hm10;have HG10:=ag hg10;clear hm10 hg10 c0 c1 c2 c3 c4 c5;go_wp2_with fail
        go_roundw
        case rel=>
         refine⟨j+1+1,by omega,by go_num,HTN.out, ?_, ?_⟩
         ·rw[List.take_add_one,HAT.out,List.map_append]; exact HM10.out
         ·exact HB9.out.grown HG10.out HB9.out.size (fun k e=>by cases e; exact Nat.le_refl _)
        case measure=>simp[intOf]; omega
       ·have e1:q.toList.isEmpty=false:=by rw[om,HBQ.out,decide_eq_false h0]
        have HDI:=ag (show ∀x,(match ie (L.take (j+1)) q with | none=>(4:Int) | some g=>if g.kind=2 then 0 else 13)=x->cR (L.take (j+1)) e=x from fun x hx=>by unfold cR; rw[if_pos HCV.out]; unfold lP; rw[if_neg h0,<-HQ.out]; exact hx);clear h0
        cases hf:ie (L.take (j+1)) q with
        | none=>
         have HF:=ag hf;have HCA:=ag (HDI.out 4 (by rw[hf]));clear hf;refine(eP e.path q _ (HE.out.below HB8.out) (bQ HVE.out) HQ.out).mono ?_;rintro e9 w9 ⟨rfl,hb9⟩;have HL9:=ag (HL8.out.trans (hb9.mono HL8.out.size));have HB9:=ag (ai HB8.out hb9);have HX9:=ag ((hb9.block wr.heap.size (nR HX8.out)).trans HX8.out);have HK9:=ag (HKM.out.same (HL9.out.block w.heap.size HKM.out.lt))
         clear hb9;have c0:=af (k:=0) HX9.out;have c1:=af (k:=1) HX9.out;have c2:=af (k:=2) HX9.out;have c3:=af (k:=3) HX9.out;have c4:=af (k:=4) HX9.out;have c5:=af (k:=5) HX9.out;simp only[aP]at c0 c1 c2 c3 c4 c5;have hlk:=pK HK9.out HQS.out HF.out;go_wp2_with fail;go_ret;exact⟨cC (by rw[fu HL4.out HTR.out HAT.out (x:=4) HCA.out (by decide)]),HB9.out⟩
        | some g=>
         have HF:=ag hf
         by_cases hk2:g.kind=2
         ·have e3:(g.kind != 2)=false:=by simp[hk2]
          have HTN:=ag (jh HTR.out HAT.out (HDI.out 0 (by rw[hf]; simp only[if_pos hk2])));clear hf hk2;refine(eP e.path q _ (HE.out.below HB8.out) (bQ HVE.out) HQ.out).mono ?_;rintro e9 w9 ⟨rfl,hb9⟩;have HL9:=ag (HL8.out.trans (hb9.mono HL8.out.size));have HB9:=ag (ai HB8.out hb9);have HX9:=ag ((hb9.block wr.heap.size (nR HX8.out)).trans HX8.out);have HK9:=ag (HKM.out.same (HL9.out.block w.heap.size HKM.out.lt))
          clear hb9;have c0:=af (k:=0) HX9.out;have c1:=af (k:=1) HX9.out;have c2:=af (k:=2) HX9.out;have c3:=af (k:=3) HX9.out;have c4:=af (k:=4) HX9.out;have c5:=af (k:=5) HX9.out;simp only[aP]at c0 c1 c2 c3 c4 c5;have hlk:=kt HK9.out HQS.out HF.out;go_wp2_with (at_mapUpdate; go_must (refine eo bR rfl _ _ _ _ rfl eO w.heap.size _ HK9.out rfl (.string e.path) (.int .i64 e.kind) rfl rfl (cM HOK.out.pth) (ku (by have h1:=HTN.out; rw[List.take_add_one,HAT.out]at h1; exact h1)) ?_); intro w10 hm10 hg10)
          have HM10:=ag hm10;have HG10:=ag hg10;clear hm10 hg10 c0 c1 c2 c3 c4 c5;go_wp2_with fail
          go_roundw
          case rel=>
           refine⟨j+1+1,by omega,by go_num,HTN.out, ?_, ?_⟩
           ·rw[List.take_add_one,HAT.out,List.map_append]; exact HM10.out
           ·exact HB9.out.grown HG10.out HB9.out.size (fun k e=>by cases e; exact Nat.le_refl _)
          case measure=>simp[intOf]; omega
         ·have e3:(g.kind != 2)=true:=by simp[hk2]
          have HCA:=ag (HDI.out 13 (by rw[hf]; simp only[if_neg hk2]));clear hf hk2;refine(eP e.path q _ (HE.out.below HB8.out) (bQ HVE.out) HQ.out).mono ?_;rintro e9 w9 ⟨rfl,hb9⟩;have HL9:=ag (HL8.out.trans (hb9.mono HL8.out.size));have HB9:=ag (ai HB8.out hb9);have HX9:=ag ((hb9.block wr.heap.size (nR HX8.out)).trans HX8.out);have HK9:=ag (HKM.out.same (HL9.out.block w.heap.size HKM.out.lt))
          clear hb9;have c0:=af (k:=0) HX9.out;have c1:=af (k:=1) HX9.out;have c2:=af (k:=2) HX9.out;have c3:=af (k:=3) HX9.out;have c4:=af (k:=4) HX9.out;have c5:=af (k:=5) HX9.out;simp only[aP]at c0 c1 c2 c3 c4 c5;have hlk:=kt HK9.out HQS.out HF.out;go_wp2_with fail;go_ret;exact⟨cC (by rw[fu HL4.out HTR.out HAT.out (x:=13) HCA.out (by decide)]),HB9.out⟩
      ·have HCA:=ag (show cR (L.take (j+1)) e=1 by unfold cR; rw[HAF.out,decide_eq_false hneg]; simp);have e8:decide (0<=c)=true:=by simp; omega
       have e7:0<=c:=by omega
       go_wp2_with fail;obtain⟨W,hW⟩: ∃W,W=wr.alloc (.cells #[.string e.path, .int .i64 e.kind, .int .i64 e.mode, .int .i64 e.time, .slice a1 e.data.length cap1, .string e.link] 79):=⟨_,rfl⟩;rw[<-hW];have HX:=ag (show W.heap[wr.heap.size]? =some (.cells #[.string e.path, .int .i64 e.kind, .int .i64 e.mode, .int .i64 e.time, .slice a1 e.data.length cap1, .string e.link] 79 (0,0)) by rw[hW]; exact bS wr _)
       have HWL:=ag (show Below wr.heap.size wr W by rw[hW]; exact(Below.refl _ _).alloc (Nat.le_refl _) _);have HBW:=ag (ai HBR.out HWL.out);clear hW;refine(kG S e _ true _ (HD.out.below HWL.out) HOK.out (HE.out.below HBW.out) HVE.out).mono ?_;rintro e7 w7 ⟨rfl,hb7⟩;have HX7:=ag ((hb7.block wr.heap.size (nR HX.out)).trans HX.out);have HL7:=ag (HWL.out.trans (hb7.mono HWL.out.size))
       have c0:=af (k:=0) HX7.out;have c1:=af (k:=1) HX7.out;have c2:=af (k:=2) HX7.out;have c3:=af (k:=3) HX7.out;have c4:=af (k:=4) HX7.out;have c5:=af (k:=5) HX7.out;simp only[aP]at c0 c1 c2 c3 c4 c5;clear hb7;go_wp2_with fail;refine au [some 11,none,some 2] (by kernel_rfl) (by kernel_rfl) (by kernel_rfl) ?_;simp only[bn,List.take_succ_cons,List.take_zero,List.drop_succ_cons,List.drop_zero]
       obtain⟨wd,hwd⟩: ∃wd:World,wd=w7.drew:=⟨_,rfl⟩;rw[<-hwd];have HLD:=ag (show Below wr.heap.size wr wd by rw[hwd]; exact HL7.out.trans ((Below.refl w7.heap.size w7).drew.mono HL7.out.size));have HXD:=ag (show wd.heap[wr.heap.size]? =some (.cells #[.string e.path, .int .i64 e.kind, .int .i64 e.mode, .int .i64 e.time, .slice a1 e.data.length cap1, .string e.link] 79 (0,0)) by rw[hwd]; exact HX7.out)
       clear hwd c0 c1 c2 c3 c4 c5;have c0:=af (k:=0) HXD.out;have c1:=af (k:=1) HXD.out;have c2:=af (k:=2) HXD.out;have c3:=af (k:=3) HXD.out;have c4:=af (k:=4) HXD.out;have c5:=af (k:=5) HXD.out;simp only[aP]at c0 c1 c2 c3 c4 c5;have y0:=(HLD.out.cell (aC p0)).trans p0
       repeat (first | (refine aI rfl ?_; simp only[Act.put,aE,aF,aG]) | (refine aM rfl (fun K hK=> ?_); go_simp; refine hK _ ?_; clear hK K))
       refine aL ?_;refine bC rfl (fun K hK=> ?_);go_wp2_with (go_at_call 118; refine(rx f.path e.path c _ HPF.out HC.out).mono ?_; rintro e8' w8 ⟨rfl,hb8⟩; have HL8:=ag (HLD.out.trans (hb8.mono HLD.out.size)); clear hb8 c0 c1 c2 c3 c4 c5 y0)
       repeat (first | (refine aI rfl ?_; simp only[Act.put,aE,aF,aG]) | (refine aM rfl (fun K hK=> ?_); go_simp; refine hK _ ?_; clear hK K))
       refine aL ?_;have HB9:=ag (ai HBR.out HL8.out);go_wp2_with fail;go_ret;exact⟨cC (by rw[fu HL4.out HTR.out HAT.out (x:=1) HCA.out (by decide)]),HB9.out⟩
   ·have hk2:k=n:=by omega
    subst hk2;go_wp2_with fail;go_ret;exact⟨cC (by rw[wM HL4.out (by rw[<-HN.out]; exact HTR.out)]),HBR.out⟩
end Go.Proofs.YtpffpjbkbaleiaaGreatDoor
namespace Go.Proofs.YtpffpjbkbaleiaaGreatDoor
open Go Go.RowKit Go.Maps
def uO (p:ByteArray×Int):Value×Value:=(.string p.1, .int .i64 p.2)
def iw (S:Nat->Prop) (w:World) (gv:Value) (gs:List (ByteArray×Int)):Prop:=
 (gv= .map none/\gs=[])\/ ∃b,gv= .map (some b)/\S b/\cT Tryz.prog 9 w b (gs.map uO)
theorem iw.keep {S:Nat->Prop} {w w':World} {gv:Value} {gs:List (ByteArray×Int)} (h:iw S w gv gs) (hs: ∀k,S k->k<w.heap.size->w'.heap[k]? =w.heap[k]?):iw S w' gv gs:=by
 rcases h with h | ⟨b,h1,h0,h2⟩
 ·exact .inl h
 ·exact .inr ⟨b,h1,h0,h2.same (hs b h0 h2.lt)⟩
theorem Cc {S:Nat->Prop} {w:World} {gv:Value} {gs:List (ByteArray×Int)} (h:iw S w gv gs) {n:ByteArray} (hn:n.size<=maxLen):
  (Instr.lookup 47 gv (.string n) false).run Tryz.prog w= .ok (.int .i64 (jK gs n)) w:=by
 have hz:(zeroValue 3).run Tryz.prog w= .ok (.int .i64 0) w:=by kernel_rfl
 obtain⟨l,hl⟩:=cM hn
 rcases h with⟨rfl,rfl⟩ | ⟨b,rfl,_,h2⟩
 ·have:=Maps.look_nil false bR (t:=47) (e:=3) eO hz hl
  simpa [jK]using this
 ·unfold jK
  cases hf:gs.find? (fun p=>decide (p.1=n))with
  | none=>
   have:=h2.is.miss bR eO hz ⟨l,hl⟩ (fun q hq e=>by
    obtain⟨x,hx,rfl⟩:=List.mem_map.1 hq;simp only[uO,Value.string.injEq]at e;have:=List.find?_eq_none.1 hf x hx;simp[e]at this) false
   simpa using this
  | some p=>
   have h3:=List.mem_of_find?_eq_some hf;have h4:=List.find?_some hf;simp only[decide_eq_true_eq]at h4;have:=h2.is.hit bR eO ⟨l,hl⟩ (val:= .int .i64 p.2) (List.mem_map.2 ⟨p,h3,by rw[<-h4]; rfl⟩) false
   simpa using this
def jx (v:Value) (b:bN):List Value:=[.string b.ref.name, .int .i64 b.ref.gen, .int .i64 b.ref.size,v]
abbrev iL :=Value×bN
def eF (zs:List iL):List Value:=zs.flatMap fun z=>jx z.1 z.2
theorem uk (zs:List iL) (z:iL):eF (zs++[z])=eF zs++jx z.1 z.2:=by simp[eF]
theorem rg {a:Option Addr} {n c:Nat} {b:bN} : ∀u∈jx (.slice a n c) b,u.oneCell'=true:=by
 intro u hu;simp only[jx,List.mem_cons,List.not_mem_nil,or_false]at hu
 rcases hu with rfl | rfl | rfl | rfl<;> rfl
theorem Tryz.appBlobs :eW Tryz.prog 49 53 4 56:=eW.mk' (z:= .agg #[.string ⟨#[]⟩, .int .i64 0, .int .i64 0, .slice none 0 0]) Tryz.underlying49 (by kernel_rfl) rfl (by decide) (by decide)
structure dY (w : World) (base : Nat) (v : Value) (zs : List iL) : Prop where
 row:w.ownsRow base 53 4 v zs.length (eF zs)
 dat: ∀z∈zs,w.ownsRow base 5 1 z.1 z.2.con.length (z.2.con.map aw)
def gg (k:bH) (c:dK) (gv:Value) (im kb:Nat) (v:Value):List Value:=di k++dA c++[gv, .map (some im),v, .map (some kb)]
structure ep (w : World) (base bb : Nat) (k : bH) (c : dK) (gv : Value) (im kb : Nat) (v : Value) (bs : List bN) : Prop where
 box:w.heap[bb]? =some (.cells (gg k c gv im kb v).toArray 122 (0,0))
 own: ∃zs:List iL,zs.map Prod.snd=bs/\dY w base v zs
 known:dC w kb (bs.map bN.ref)
structure dd (base bb kb : Nat) (v v' : Value) (w w' : World) : Prop where
 below:Below base w w'
 same: ∀k,k<w.heap.size->k≠bb->k≠kb->v.ownBlock≠some k->w'.heap[k]? =w.heap[k]?
 place: ∀k,v'.ownBlock=some k->v.ownBlock=some k\/w.heap.size<=k
theorem dd.refl (base bb kb:Nat) (v:Value) (w:World):dd base bb kb v v w w:=⟨Below.refl _ _,fun _ _ _ _ _=>rfl,fun _ h=> .inl h⟩
theorem dd.trans {base bb kb:Nat} {v v1 v2:Value} {A B C:World} (h:dd base bb kb v v1 A B) (k:dd base bb kb v1 v2 B C):dd base bb kb v v2 A C:=by
 have hs:=h.below.size;refine⟨h.below.trans k.below,fun i h1 h2 h2' h3=>(k.same i (by omega) h2 h2' (fun e=> ?_)).trans (h.same i h1 h2 h2' h3),fun i e=> ?_⟩
 ·rcases h.place i e with e2 | e2
  ·exact h3 e2
  ·omega
 ·rcases k.place i e with e2 | e2
  ·exact h.place i e2
  ·exact .inr (by omega)
theorem dd.ofBelow {base bb kb:Nat} {v:Value} {w w':World} (h:Below w.heap.size w w') (hb:base<=w.heap.size):dd base bb kb v v w w':=⟨h.mono hb,fun k h1 _ _ _=>h.block k h1,fun _ e=> .inl e⟩
theorem dY.below {w w':World} {base:Nat} {v:Value} {zs:List iL} (h:dY w base v zs) (hb:Below w.heap.size w w'):dY w' base v zs:=⟨aY h.row hb,fun z hz=>aY (h.dat z hz) hb⟩
theorem ep.below {w w':World} {base bb im kb:Nat} {k:bH} {c:dK} {gv v:Value} {bs:List bN} (h:ep w base bb k c gv im kb v bs) (hb:Below w.heap.size w w'):ep w' base bb k c gv im kb v bs:=by
 obtain⟨zs,h1,h2⟩:=h.own;exact⟨(hb.block _ (lt_of_block h.box)).trans h.box,⟨zs,h1,h2.below hb⟩,h.known.same (hb.block _ h.known.map.lt)⟩
theorem ep.push {w w1 w2:World} {base bb im kb:Nat} {k:bH} {c:dK} {gv v v' dv:Value} {bs:List bN} {zs:List iL} {b:bN} (hz:zs.map Prod.snd=bs) (h:dY w base v zs) (hx:w.heap[bb]? =some (.cells (gg k c gv im kb v).toArray 122 (0,0))) (hs:dC w kb ((bs++[b]).map bN.ref))
  (hb:Below w.heap.size w w1) (hn:w1.ownsRow base 5 1 dv b.con.length (b.con.map aw)) (hown:w2.ownsRow base 53 4 v' (zs.length+1) (eF zs++jx dv b)) (hg:w1.grownBy w2 v.ownBlock) (hpl: ∀k,v'.ownBlock=some k->v.ownBlock=some k\/w1.heap.size<=k) (hbe:base<=bb) (hbz:base<=w.heap.size):
  ep (w2.setCell ⟨bb,12,none⟩ v') base bb k c gv im kb v' (bs++[b])/\dd base bb kb v v' w (w2.setCell ⟨bb,12,none⟩ v'):=by
 have h1:=h.below hb;have hx1:=(hb.block bb (lt_of_block hx)).trans hx;have hlt:=lt_of_block hx1;have hz1:=hb.size;have hne:v.ownBlock≠some bb:=fun e=>by
  obtain⟨cs,hc⟩:=aA h1.row e;exact absurd (aK hx1 hc) (by decide)
 have hne':v'.ownBlock≠some bb:=fun e=>by
  rcases hpl bb e with e | e
  ·exact hne e
  ·omega
 have hb2:=(hg.block bb hlt (fun e=>hne e.symm)).trans hx1;have hdat: ∀(u:Value) (ds:List UInt8),w1.ownsRow base 5 1 u ds.length (ds.map aw)->(w2.setCell ⟨bb,12,none⟩ v').ownsRow base 5 1 u ds.length (ds.map aw):=by
  intro u ds hd;refine cZ hd (fun i hi hu=> ?_);obtain⟨cs,hc⟩:=aA hd hu;rw[Below.heap_setCell _ _ _ _ (show i≠bb from fun e=>absurd (aK (e▸hc) hx1) (by decide))];refine hg.block i hi (fun e=> ?_);obtain⟨cs2,hc2⟩:=aA h1.row e.symm;exact absurd (aK hc hc2) (by decide)
 have hkb:kb<w1.heap.size:=Nat.lt_of_lt_of_le hs.map.lt hz1;have hks:(w2.setCell ⟨bb,12,none⟩ v').heap[kb]? =w.heap[kb]? :=by
  rw[Below.heap_setCell _ _ _ _ (show kb≠bb from fun e=>hs.cells (by rw[e]; exact hx))];refine(hg.block kb hkb (fun e=> ?_)).trans (hb.block kb hs.map.lt);obtain⟨cs,hc⟩:=aA h.row e.symm;exact hs.cells hc
 refine⟨⟨?_,⟨zs++[(dv,b)],by simp[hz], ?_,fun z hz=> ?_⟩,hs.same hks⟩,⟨?_,fun i hi e1 e2 e3=> ?_,fun i e=> ?_⟩⟩
 ·have:=cO (k:=12) hb2 v'
  simpa [gg,di,dA]using this
 ·rw[List.length_append,List.length_singleton,uk];exact hown.kept (aH _ _ _ _) (.inr (fun e=>hne' e))
 ·rcases List.mem_append.1 hz with hz | hz
  ·exact hdat _ _ (h1.dat z hz)
  ·rw[List.mem_singleton]at hz;subst hz;exact hdat _ _ hn
 ·exact((hb.mono hbz).grown hg (Nat.le_trans hbz hz1) (fun i hi=>(h.row.lt i hi).1)).grown (aH w2 bb 12 v') (Nat.le_trans hbz (Nat.le_trans hz1 hg.size)) (fun i hi=>by cases hi; exact hbe)
 ·rw[Below.heap_setCell _ _ _ _ (show i≠bb from e1)];exact(hg.block i (by omega) (fun e=>e3 e.symm)).trans (hb.block i hi)
 ·rcases hpl i e with e | e
  ·exact .inl e
  ·exact .inr (by omega)
end Go.Proofs.YtpffpjbkbaleiaaGreatDoor
