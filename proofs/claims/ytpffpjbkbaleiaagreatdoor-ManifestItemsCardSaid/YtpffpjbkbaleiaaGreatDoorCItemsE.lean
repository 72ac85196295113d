/- Texts of this proof, one after the other: ItemF, NodA, Lib, FileA, FileB, LoadP, PartB, LookP, WalkA, WalkB, WalkC, Needs, NeedP, LoadA, LookA, FtC, FtD, FtE, FtP, FtQ, BldA. -/
import Derived.Test.YtpffpjbkbaleiaaGreatDoorCItemsD
set_option maxRecDepth 100000
set_option maxHeartbeats 8000000
namespace Go.Proofs.YtpffpjbkbaleiaaGreatDoor
open Go.RowKit
theorem gk (S:Nat->Prop) (l:List az) (v:Value) (b:Bool) (w:World) (hv:aU S w v l) (henv:gm w) (h:bV l=b):Calls Tryz.prog 47 #[v] w fun e w'=>e= .returned (.bool b)/\Below w.heap.size w w':=by
 rw[<-h]; exact qM S l v w hv henv
theorem gD :br aZ:=⟨by decide,by decide,by decide⟩
theorem kt (S:Nat->Prop) (data:List UInt8) (v:Value) (w:World) (hv:aw S w v data) (henv:gm w):Calls Tryz.prog 18 #[v] w (tS data w):=by
 obtain⟨_,a,cap,rfl,hn,hm,-⟩:=id hv;unfold maxLen at hm;have HV:=ab hv;have HE:=ab henv;clear hv henv
 by_cases hbig:32768<data.length
 ·have HP:=ab (jm hbig)
  go_enter Tryz.func18,Tryz.ntmps18
  go_wp2_with fail
  go_ret2
  exact⟨Below.refl _ _,by rw[HP.out]; rfl⟩
 ·have HBIG:=ab hbig
  go_enter Tryz.func18,Tryz.ntmps18
  go_wp2_with fail;refine(qA S data _ w HV.out (by omega)).mono ?_;rintro e w1 ⟨rb,dv,rfl,hge,hrd,hb1⟩;have HRD1:=ab hrd;have HB1:=ab hb1;clear hrd hb1;go_wp2_with fail;refine(yj rb dv data ⟨0,0,0⟩ 4096 _ HRD1.out (by omega)).mono ?_;rintro e w2 ⟨n,s1,hcn,rfl,hrd2,hg2⟩;have hnl:n<=4096:=by have:=oG data 4096 ⟨0,0,0⟩; rw[hcn]at this; exact this
  have HCN:=ab hcn;have HI2:=ab (show oa w1 rb w2 dv (.slice none 0 0) data s1 []from⟨hrd2,⟨_,HRD1.out⟩,⟨[],World.ownsRow_nil _ _ _ _,rfl⟩,hg2⟩);clear hcn hrd2 hg2;go_wp2_with fail
  go_loopw [5,16] (fun v i wr=> ∃(k:Nat) (l:List az) (s:RS),k<=n/\i= .int .i64 k/\l.length=k/\bZ data s1 k=some (l,s)/\oa w1 rb wr dv v data s l) (fun _ i _=>n-(intOf i).toNat)
  case atStart=>exact⟨0,[],s1,Nat.zero_le _,rfl,rfl,rfl,HI2.out⟩
  case round=>
   obtain⟨k,l,s,hk,rfl,hlk,hit,hinv⟩:=hrel;have HIT:=ab hit;have HINV:=ab hinv;have HLK:=ab hlk;obtain⟨cells,hown,hrow⟩:=hinv.row;have HOWN:=ab hown;have HROW:=ab hrow;obtain⟨av,cv0,hvs,hvn,hvm⟩:=aj hown;have HRD:=ab hinv.rd;subst hvs;clear hit hinv hlk hown hrow
   by_cases hlt:k<n
   ·go_wp2_with fail;refine(Dd rb dv data s 64 _ HRD.out (by omega)).mono ?_;rintro e w3 ⟨nm,s2,hp1,rfl,h1,h2⟩;have HP1:=ab hp1;have HM0:=ab (ed.start HRD.out h1 h2 #[.string ⟨nm.toArray⟩, .int .i64 0, .int .i64 0, .int .i64 0, .int .i64 0, .string ⟨#[]⟩, .slice none 0 0, .string ⟨#[]⟩, .int .i64 0, .int .i64 0]);clear hp1 h1 h2;go_wp2_with fail;refine(qc rb dv data s2 _ HM0.out.rd).mono ?_
    rintro e w4 ⟨kd,s3,hp,rfl,h1,h2⟩;have HP2:=ab hp;have HM1:=ab (HM0.out.call h1 h2);have ck:=HM1.out.cell 1;have fk:=HM1.out.free 1;simp only[aN]at ck;clear hp h1 h2;go_wp2_with fail;obtain⟨kv,hkv⟩: ∃ix:Int,ix=wrap64 (kd:Int):=⟨_,rfl⟩;rw[<-hkv];have Hkv:=ab hkv;clear hkv;obtain⟨w5,hw4⟩: ∃wx:World,wx=w4.setCell ⟨w3.heap.size,1,none⟩ (.int .i64 kv):=⟨_,rfl⟩
    rw[<-hw4];have m4:=HM1.out.set 1 (.int .i64 kv);rw[<-hw4]at m4;simp only[List.setIfInBounds_toArray,List.set_cons_succ,List.set_cons_zero]at m4;have HM2:=ab m4;clear m4 hw4 ck fk HM0 HM1;refine(qc rb dv data s3 _ HM2.out.rd).mono ?_;rintro e w6 ⟨md,s4,hp,rfl,h1,h2⟩;have HP3:=ab hp;have HM3:=ab (HM2.out.call h1 h2);have ck:=HM3.out.cell 2;have fk:=HM3.out.free 2;simp only[aN]at ck
    clear hp h1 h2;go_wp2_with fail;obtain⟨mv,hkv⟩: ∃ix:Int,ix=wrap64 (md:Int):=⟨_,rfl⟩;rw[<-hkv];have Hmv:=ab hkv;clear hkv;obtain⟨w7,hw4⟩: ∃wx:World,wx=w6.setCell ⟨w3.heap.size,2,none⟩ (.int .i64 mv):=⟨_,rfl⟩;rw[<-hw4];have m4:=HM3.out.set 2 (.int .i64 mv);rw[<-hw4]at m4;simp only[List.setIfInBounds_toArray,List.set_cons_succ,List.set_cons_zero]at m4;have HM4:=ab m4
    clear m4 hw4 ck fk HM2 HM3;refine(qc rb dv data s4 _ HM4.out.rd).mono ?_;rintro e w8 ⟨td,s5,hp,rfl,h1,h2⟩;have HP4:=ab hp;have HM5:=ab (HM4.out.call h1 h2);have ck:=HM5.out.cell 3;have fk:=HM5.out.free 3;simp only[aN]at ck;clear hp h1 h2
    go_upto_region 11 with(fail)
    obtain⟨tv,hkv⟩: ∃ix:Int,ix=wrap64 (td:Int):=⟨_,rfl⟩;rw[<-hkv];have Htv:=ab hkv;clear hkv;obtain⟨w9,hw4⟩: ∃wx:World,wx=w8.setCell ⟨w3.heap.size,3,none⟩ (.int .i64 tv):=⟨_,rfl⟩;rw[<-hw4];have m4:=HM5.out.set 3 (.int .i64 tv);rw[<-hw4]at m4;simp only[List.setIfInBounds_toArray,List.set_cons_succ,List.set_cons_zero]at m4;have HM6:=ab m4;clear m4 hw4 ck fk HM4 HM5
    have ck:=HM6.out.cell 1;simp only[aN]at ck;have HH:=ab (jl HP1.out HP2.out HP3.out HP4.out);have hnms:nm.length<=64:=by have:=tH data 64 s; rw[HP1.out]at this; exact this
    by_cases hk1:kv=1
    ·have e1:(kv == 1)=true:=by simp[hk1]
     have HK1:=ab (show dX kd=1 from Hkv.out.symm.trans hk1);clear hk1;go_wp2_with fail;refine(yj rb dv data s5 963 _ HM6.out.rd (by omega)).mono ?_;rintro e wa ⟨n2,s6,hp,rfl,h1,h2⟩;have HP5:=ab hp;have hn2:n2<=963:=by have:=oG data 963 s5; rw[hp]at this; exact this
     have HM7:=ab (HM6.out.call h1 h2);clear hp h1 h2 ck HM6;go_wp2_with fail;obtain⟨wo,hwo⟩: ∃wo:World,wo=wr:=⟨_,rfl⟩;subst hwo
     go_loopw [39] (fun i wq=> ∃(j:Nat) (ch:List aL) (s7:RS) (cv:Value),j<=n2/\i= .int .i64 j/\ch.length=j/\cB data s6 j=(ch,s7)/\ed rb w3.heap.size wo wq dv data s7 #[.string ⟨nm.toArray⟩, .int .i64 kv, .int .i64 mv, .int .i64 tv, .int .i64 0, .string ⟨#[]⟩,cv, .string ⟨#[]⟩, .int .i64 0, .int .i64 0]/\wq.ownsRow (w3.heap.size+1) 26 3 cv ch.length (ch.flatMap dp)) (fun i _=>n2-(intOf i).toNat)
     case atStart=>exact⟨0,[],s6, .slice none 0 0,Nat.zero_le _,rfl,rfl,rfl,HM7.out,World.ownsRow_nil _ _ _ _⟩
     case round=>
      obtain⟨j,ch,s7,cv,hj,rfl,hlj,hch,hmid,how⟩:=hrel;have HLJ:=ab hlj;have HCH:=ab hch;have HMQ:=ab hmid;have HOQ:=ab how;obtain⟨a6,c6,hv6,hvn6,hvm6⟩:=aj how;subst hv6;clear hlj hch hmid how
      by_cases hlt2:j<n2
      ·have ck:=HMQ.out.cell 6;have fk:=HMQ.out.free 6;simp only[aN]at ck;go_wp2_with fail;refine bP (fun w'=>w'.cell? ⟨w3.heap.size,6,none⟩=some (.slice a6 ch.length c6)) (by kernel_rfl) (by kernel_rfl) ?_;simp only[List.dropLast_cons_cons,List.dropLast_singleton,List.length_cons,List.length_nil,Nat.reduceAdd,Nat.reduceSub];have HMD:=ab (HMQ.out.below ((Below.refl _ _).drew))
       refine af 0 rfl (by kernel_rfl) (by kernel_rfl) (by kernel_rfl) (fun _ _ _ h=>h) rfl (by go_simp) (by intro w' hw'; go_simp; rfl) ?_;simp only[Act.put,aB,aC,aD];refine af 1 rfl (by kernel_rfl) (by kernel_rfl) (by kernel_rfl) (fun _ _ _ h=>h) rfl (by go_simp) (by intro w' hw'; go_simp; rfl) ?_;simp only[Act.put,aB,aC,aD];refine af 2 rfl (by kernel_rfl) (by kernel_rfl) (by kernel_rfl) (fun _ _ _ h=>h) rfl (by go_simp) (by intro w' hw'; go_simp; rfl) ?_
       simp only[Act.put,aB,aC,aD];refine ar 3 rfl (by kernel_rfl) rfl (fun K hK=> ?_);go_wp2_with (go_at_call 62; refine(nw rb dv data s7 _ HMD.out.rd).mono ?_; rintro e wb ⟨r,s8,hp,rfl,h1,h2,hrok⟩; unfold bF);have HP6:=ab hp;have HRO:=ab hrok;have HMB:=ab (HMD.out.call h1 h2);have HOB:=ab (HOQ.out.kept (ak (b:=wr.drew) ⟨rfl,rfl,rfl,Nat.le_refl _,fun _ _ _=>rfl⟩ h2) (.inr (by
        intro e;have:=(HOQ.out.lt _ e).1;have:=aO.lt HRD1.out;have:=HINV.out.grown.size;have:=HMQ.out.ge
        omega)))
       have ck2:=HMB.out.cell 6;have HMC:=ab (HMB.out.below ((Below.refl _ _).alloc (Nat.le_refl _) (.cells #[.string r.name, .int .i64 r.gen, .int .i64 r.size] 26)));have ck3:=HMC.out.cell 6;have fk2:=HMB.out.free 6;have hbz2:w3.heap.size+1<=wb.heap.size:=(Array.getElem?_eq_some_iff.1 HMB.out.box).1;simp only[aN]at ck2 ck3;clear hp h1 h2 hrok ck fk HMQ HMD;refine⟨ck2, ?_⟩;refine ar 4 rfl (by kernel_rfl) rfl (fun K hK=> ?_)
       go_wp2_with fail
       (first | (refine⟨ck3, ?_⟩) | skip)
       refine ar 5 rfl (by kernel_rfl) rfl (fun K hK=> ?_);go_wp2_with (at_builtin; go_must (refine aG Tryz.appRefs rfl _ _ rfl (w3.heap.size+1) (.slice a6 ch.length c6) ch.length (ch.flatMap dp) rfl wb [.string r.name, .int .i64 r.gen, .int .i64 r.size] _ rfl rfl (jY (r:=r)) HOB.out (by have:=HLJ.out; omega) hbz2 ?_); intro v' wc hown' hgrow' _ hpl; obtain⟨ae,ce,rfl,-,-⟩:=aj hown')
       have HMW:=ab (HMB.out.app hgrow' (fun k hk=>by have:=(HOB.out.lt k hk).1; omega));have HOW:=ab (show wc.ownsRow (w3.heap.size+1) 26 3 (.slice ae (ch.length+1) ce) (ch++[r]).length ((ch++[r]).flatMap dp) by rw[List.length_append,List.flatMap_append]; simpa [dp]using hown');have ck4:=HMW.out.cell 6;have fk4:=HMW.out.free 6;simp only[aN]at ck4;clear hown' hgrow' hpl ck2 ck3 fk2 HMC HMB HOB HOQ
       refine⟨ck4, ?_⟩;refine af 6 rfl (by kernel_rfl) (by kernel_rfl) (by kernel_rfl) (fun _ _ _ h=>h) rfl (by go_simp) (by intro w' hw'; go_simp; rfl) ?_;simp only[Act.put,aB,aC,aD];refine aV (by kernel_rfl) ?_;refine cb rfl rfl (fun K hK=> ?_);go_wp2_with fail
       go_roundw
       case rel=>
        have m4:=HMW.out.set 6 (.slice ae (ch.length+1) ce);simp only[List.setIfInBounds_toArray,List.set_cons_succ,List.set_cons_zero]at m4;refine⟨j+1,ch++[r],s8, .slice ae (ch.length+1) ce,by omega,by go_num,by simp[HLJ.out],mR HCH.out HP6.out,m4,HOW.out.kept (aE _ _ _ _) (.inr (by
         intro e;have:=(HOW.out.lt _ e).1
         omega))⟩
       case measure=>simp[intOf]; omega
      ·obtain rfl:j=n2:=by omega
       have hchok: ∀r∈ch,br r:=by
        have:=qW data s6 j;rw[HCH.out]at this; exact this
       have HRF:=ab (fw HOQ.out hchok);have ck:=HMQ.out.cell 6;simp only[aN]at ck;clear hchok;go_wp2_with fail;refine(mD _ _ ch _ HRF.out).mono ?_;rintro e wb ⟨rfl,hbt⟩;have HMB:=ab (HMQ.out.below hbt);have HRB:=ab (show aQ (fun k=>w3.heap.size<k) wb (.slice a6 ch.length c6) ch from aQ.same (aP.below HRF.out (by omega) hbt (fun _ _ _ h=>h)) (fun k hk hS=>⟨by have:=hS.1; omega,rfl⟩))
       have ck4:=HMB.out.cell 4;have fk4:=HMB.out.free 4;simp only[aN]at ck4;obtain⟨tw,htw⟩: ∃tw:Int,tw=dk ch:=⟨_,rfl⟩;rw[<-htw];have HTW:=ab htw;clear hbt ck htw HRF
       go_upto_region 23 with(fail)
       obtain⟨wd,hwd⟩: ∃wx:World,wx=wb.setCell ⟨w3.heap.size,4,none⟩ (.int .i64 tw):=⟨_,rfl⟩;rw[<-hwd];have m4:=HMB.out.set 4 (.int .i64 tw);rw[<-hwd]at m4;simp only[List.setIfInBounds_toArray,List.set_cons_succ,List.set_cons_zero]at m4;have HM8:=ab m4;have HIP:=ab (show dl data s=some (⟨⟨nm.toArray⟩,dX kd,dX md,dX td,tw,⟨#[]⟩,ch,aZ⟩,s7) by rw[HH.out,wR HK1.out HP5.out HCH.out,HTW.out])
       have HOK:=ab (show cA ⟨⟨nm.toArray⟩,kv,mv,tv,tw,⟨#[]⟩,ch,aZ⟩from⟨by show ByteArray.size ⟨_⟩<=_; unfold maxLen; simp[ByteArray.size]; omega,by show ByteArray.size ⟨_⟩<=_; unfold maxLen; simp[ByteArray.size],gD⟩);have HCV:=ab (show aQ (wo.heap.size<= ·) wd (.slice a6 ch.length c6) ch from aQ.same HRB.out (fun k hk hS=>⟨by have:=HMQ.out.ge; show wo.heap.size<=k; omega,by rw[hwd]; exact Below.heap_setCell _ _ _ _ (by show k≠w3.heap.size; omega)⟩))
       clear m4 hwd ck4 fk4 HMB HMQ HRB;have d0:=HM8.out.cell 0;have d1:=HM8.out.cell 1;have d2:=HM8.out.cell 2;have d3:=HM8.out.cell 3;have d4:=HM8.out.cell 4;have d5:=HM8.out.cell 5;have d6:=HM8.out.cell 6;have d7:=HM8.out.cell 7;have d8:=HM8.out.cell 8;have d9:=HM8.out.cell 9;simp only[aN]at d0 d1 d2 d3 d4 d5 d6 d7 d8 d9;have HOC:=ab (HOWN.out.kept HM8.out.grown (.inr (by
        intro e;have:=(HOWN.out.lt _ e).1;have:=aO.lt HRD1.out
        omega)))
       have hbz:w1.heap.size<=wd.heap.size:=Nat.le_trans HINV.out.grown.size HM8.out.grown.size;have HXI:=ab (show dl data s=some (⟨⟨nm.toArray⟩,kv,mv,tv,tw,⟨#[]⟩,ch,aZ⟩,s7) by rw[HIP.out,Hkv.out,Hmv.out,Htv.out]; rfl);have hlen:l.length<4096:=by have:=HLK.out; omega
       go_wp2_with (at_builtin; go_must (refine aG Tryz.appItems rfl _ _ rfl w1.heap.size (.slice av l.length cv0) l.length cells rfl wd [.string ⟨nm.toArray⟩, .int .i64 kv, .int .i64 mv, .int .i64 tv, .int .i64 (tw), .string ⟨#[]⟩, .slice a6 ch.length c6, .string ⟨#[]⟩, .int .i64 0, .int .i64 0] _ rfl rfl (dT (it:=⟨⟨nm.toArray⟩,kv,mv,tv,tw,⟨#[]⟩,ch,aZ⟩)) HOC.out (by omega) hbz ?_); intro v' we hown' hgrow' _ hpl; have HIE:=ab (HINV.out.added (it:=⟨⟨nm.toArray⟩,kv,mv,tv,tw,⟨#[]⟩,ch,aZ⟩) HM8.out HCV.out HOK.out HROW.out HOWN.out hown' hgrow' hpl); obtain⟨ae,ce,rfl,-,-⟩:=aj hown'; clear hown' hgrow' hpl)
       go_roundw
       case rel=>exact⟨k+1,l++[⟨⟨nm.toArray⟩,kv,mv,tv,tw,⟨#[]⟩,ch,aZ⟩],s7,by omega,by go_num,by simp[HLK.out],eU HIT.out HXI.out,HIE.out⟩
       case measure=>simp[intOf]; omega
    ·have e1:(kv == 1)=false:=by simp[hk1]
     by_cases hk2:kv=2
     ·have e2:(kv == 2)=true:=by simp[hk2]
      have HK2:=ab (show dX kd=2 from Hkv.out.symm.trans hk2);clear hk1 hk2;go_wp2_with fail;refine(nw rb dv data s5 _ HM6.out.rd).mono ?_;rintro e wa ⟨r,s6,hp,rfl,h1,h2,hrok⟩;have HP5:=ab hp;have HRO:=ab hrok;have HM7:=ab (HM6.out.call h1 h2);have c7:=HM7.out.cell 7;have c8:=HM7.out.cell 8;have c9:=HM7.out.cell 9;have f7:=HM7.out.free 7;have f8:=HM7.out.free 8
      have f9:=HM7.out.free 9;simp only[aN]at c7 c8 c9;unfold bF;clear hp h1 h2 hrok ck
      go_upto_region 23 with(fail)
      obtain⟨wb,hwb⟩: ∃wx:World,wx=((wa.setCell ⟨w3.heap.size,7,none⟩ (.string r.name)).setCell ⟨w3.heap.size,8,none⟩ (.int .i64 r.gen)).setCell ⟨w3.heap.size,9,none⟩ (.int .i64 r.size):=⟨_,rfl⟩;rw[<-hwb];have m4:=((HM7.out.set 7 (.string r.name)).set 8 (.int .i64 r.gen)).set 9 (.int .i64 r.size);rw[<-hwb]at m4;simp only[List.setIfInBounds_toArray,List.set_cons_succ,List.set_cons_zero]at m4
      have HM8:=ab m4;have HIP:=ab (HH.out.trans (zx HK2.out HP5.out));have HOK:=ab (show cA ⟨⟨nm.toArray⟩,kv,mv,tv,0,⟨#[]⟩,[],r⟩from⟨by show ByteArray.size ⟨_⟩<=_; unfold maxLen; simp[ByteArray.size]; omega,by show ByteArray.size ⟨_⟩<=_; unfold maxLen; simp[ByteArray.size],HRO.out⟩);have HCV:=ab (show aQ (wr.heap.size<= ·) wb (.slice none 0 0) []from aP.nil)
      clear m4 hwb c7 c8 c9 f7 f8 f9 HM7 HM6;have d0:=HM8.out.cell 0;have d1:=HM8.out.cell 1;have d2:=HM8.out.cell 2;have d3:=HM8.out.cell 3;have d4:=HM8.out.cell 4;have d5:=HM8.out.cell 5;have d6:=HM8.out.cell 6;have d7:=HM8.out.cell 7;have d8:=HM8.out.cell 8;have d9:=HM8.out.cell 9;simp only[aN]at d0 d1 d2 d3 d4 d5 d6 d7 d8 d9;have HOC:=ab (HOWN.out.kept HM8.out.grown (.inr (by
       intro e;have:=(HOWN.out.lt _ e).1;have:=aO.lt HRD1.out
       omega)))
      have hbz:w1.heap.size<=wb.heap.size:=Nat.le_trans HINV.out.grown.size HM8.out.grown.size;have HXI:=ab (show dl data s=some (⟨⟨nm.toArray⟩,kv,mv,tv,0,⟨#[]⟩,[],r⟩,s6) by rw[HIP.out,Hkv.out,Hmv.out,Htv.out]; rfl);have hlen:l.length<4096:=by have:=HLK.out; omega
      go_wp2_with (at_builtin; go_must (refine aG Tryz.appItems rfl _ _ rfl w1.heap.size (.slice av l.length cv0) l.length cells rfl wb [.string ⟨nm.toArray⟩, .int .i64 kv, .int .i64 mv, .int .i64 tv, .int .i64 (0), .string ⟨#[]⟩, .slice none 0 0, .string r.name, .int .i64 r.gen, .int .i64 r.size] _ rfl rfl (dT (it:=⟨⟨nm.toArray⟩,kv,mv,tv,0,⟨#[]⟩,[],r⟩)) HOC.out (by omega) hbz ?_); intro v' we hown' hgrow' _ hpl; have HIE:=ab (HINV.out.added (it:=⟨⟨nm.toArray⟩,kv,mv,tv,0,⟨#[]⟩,[],r⟩) HM8.out HCV.out HOK.out HROW.out HOWN.out hown' hgrow' hpl); obtain⟨ae,ce,rfl,-,-⟩:=aj hown'; clear hown' hgrow' hpl)
      go_roundw
      case rel=>exact⟨k+1,l++[⟨⟨nm.toArray⟩,kv,mv,tv,0,⟨#[]⟩,[],r⟩],s6,by omega,by go_num,by simp[HLK.out],eU HIT.out HXI.out,HIE.out⟩
      case measure=>simp[intOf]; omega
     ·have e2:(kv == 2)=false:=by simp[hk2]
      by_cases hk3:kv=3
      ·have e3:(kv == 3)=true:=by simp[hk3]
       have HK3:=ab (show dX kd=3 from Hkv.out.symm.trans hk3);clear hk1 hk2 hk3;go_wp2_with fail;refine(Dd rb dv data s5 512 _ HM6.out.rd (by omega)).mono ?_;rintro e wa ⟨lk,s6,hp,rfl,h1,h2⟩;have HP5:=ab hp;have hlks:lk.length<=512:=by have:=tH data 512 s5; rw[hp]at this; exact this
       have HM7:=ab (HM6.out.call h1 h2);have c7:=HM7.out.cell 5;have f7:=HM7.out.free 5;simp only[aN]at c7;clear hp h1 h2 ck
       go_upto_region 23 with(fail)
       obtain⟨wb,hwb⟩: ∃wx:World,wx=wa.setCell ⟨w3.heap.size,5,none⟩ (.string ⟨lk.toArray⟩):=⟨_,rfl⟩;rw[<-hwb];have m4:=HM7.out.set 5 (.string ⟨lk.toArray⟩);rw[<-hwb]at m4;simp only[List.setIfInBounds_toArray,List.set_cons_succ,List.set_cons_zero]at m4;have HM8:=ab m4;have HIP:=ab (HH.out.trans (wT HK3.out HP5.out));have HOK:=ab (show cA ⟨⟨nm.toArray⟩,kv,mv,tv,0,⟨lk.toArray⟩,[],aZ⟩from⟨by show ByteArray.size ⟨_⟩<=_; unfold maxLen; simp[ByteArray.size]; omega,by show ByteArray.size ⟨_⟩<=_; unfold maxLen; simp[ByteArray.size]; omega,gD⟩)
       have HCV:=ab (show aQ (wr.heap.size<= ·) wb (.slice none 0 0) []from aP.nil);clear m4 hwb c7 f7 HM7 HM6;have d0:=HM8.out.cell 0;have d1:=HM8.out.cell 1;have d2:=HM8.out.cell 2;have d3:=HM8.out.cell 3;have d4:=HM8.out.cell 4;have d5:=HM8.out.cell 5;have d6:=HM8.out.cell 6;have d7:=HM8.out.cell 7;have d8:=HM8.out.cell 8;have d9:=HM8.out.cell 9;simp only[aN]at d0 d1 d2 d3 d4 d5 d6 d7 d8 d9
       have HOC:=ab (HOWN.out.kept HM8.out.grown (.inr (by
        intro e;have:=(HOWN.out.lt _ e).1;have:=aO.lt HRD1.out
        omega)))
       have hbz:w1.heap.size<=wb.heap.size:=Nat.le_trans HINV.out.grown.size HM8.out.grown.size;have HXI:=ab (show dl data s=some (⟨⟨nm.toArray⟩,kv,mv,tv,0,⟨lk.toArray⟩,[],aZ⟩,s6) by rw[HIP.out,Hkv.out,Hmv.out,Htv.out]; rfl);have hlen:l.length<4096:=by have:=HLK.out; omega
       go_wp2_with (at_builtin; go_must (refine aG Tryz.appItems rfl _ _ rfl w1.heap.size (.slice av l.length cv0) l.length cells rfl wb [.string ⟨nm.toArray⟩, .int .i64 kv, .int .i64 mv, .int .i64 tv, .int .i64 (0), .string ⟨lk.toArray⟩, .slice none 0 0, .string ⟨#[]⟩, .int .i64 0, .int .i64 0] _ rfl rfl (dT (it:=⟨⟨nm.toArray⟩,kv,mv,tv,0,⟨lk.toArray⟩,[],aZ⟩)) HOC.out (by omega) hbz ?_); intro v' we hown' hgrow' _ hpl; have HIE:=ab (HINV.out.added (it:=⟨⟨nm.toArray⟩,kv,mv,tv,0,⟨lk.toArray⟩,[],aZ⟩) HM8.out HCV.out HOK.out HROW.out HOWN.out hown' hgrow' hpl); obtain⟨ae,ce,rfl,-,-⟩:=aj hown'; clear hown' hgrow' hpl)
       go_roundw
       case rel=>exact⟨k+1,l++[⟨⟨nm.toArray⟩,kv,mv,tv,0,⟨lk.toArray⟩,[],aZ⟩],s6,by omega,by go_num,by simp[HLK.out],eU HIT.out HXI.out,HIE.out⟩
       case measure=>simp[intOf]; omega
      ·have e3:(kv == 3)=false:=by simp[hk3]
       have HIN:=ab (jR HBIG.out HCN.out (uL (gY HIT.out (HH.out.trans (wU (fun e=>hk1 (Hkv.out.trans e)) (fun e=>hk2 (Hkv.out.trans e)) (fun e=>hk3 (Hkv.out.trans e))))) n (by omega)));clear hk1 hk2 hk3;go_wp2_with fail
       go_ret2
       have hfb:Below w.heap.size w w9:=HB1.out.trans ((bS.of_grown (S:=fun k=>k=rb) (ak HINV.out.grown HM6.out.grown) (fun k hk=>by cases hk; rfl)).below HB1.out.size (fun k hk=>by subst hk; exact hge));exact⟨hfb,by rw[HIN.out]; rfl⟩
   ·obtain rfl:k=n:=by omega
    have HIS:=ab (jS HBIG.out HCN.out HIT.out);have HIA:=ab (show aU (w.heap.size<= ·) wr (.slice av l.length cv0) l from by
     have hww:=HB1.out.size;refine⟨cells,(bh HOWN.out).weak (fun k hk=>by have:=hk.1; omega),HROW.out.mono (fun c x _ hx=>hx.same (fun k hk hS=>⟨by have:=hS.1; omega,rfl⟩))⟩)
    have HFB:=ab (show Below w.heap.size w wr from HB1.out.trans ((bS.of_grown (S:=fun k=>k=rb) HINV.out.grown (fun k hk=>by cases hk; rfl)).below HB1.out.size (fun k hk=>by subst hk; exact hge)));go_wp2_with fail;refine(Ec rb dv data s _ HRD.out).mono ?_;rintro e we ⟨rfl,nd,rfl⟩;obtain⟨ev,hev⟩: ∃ev:Int,ev=eZ data s:=⟨_,rfl⟩;rw[<-hev];have HEV:=ab hev;clear hev
    by_cases h0:ev=0
    ·subst h0;have HIA2:=ab (show aU (w.heap.size<= ·) (wr.drewN nd) (.slice av l.length cv0) l from aU.below HIA.out (bn (Below.refl _ _) nd));have HE2:=ab (HE.out.below (bn HFB.out nd))
     cases hvn2:bV l
     ·have HIN:=ab (show bm data=none by rw[HIS.out,hvn2]; simp);have HVN:=ab hvn2;clear hvn2;go_wp2_with fail;refine(gk _ l _ false _ HIA2.out HE2.out HVN.out).mono ?_;rintro e wf ⟨rfl,hbf⟩;have HBF:=ab (ah (bn HFB.out nd) hbf);clear hbf;go_wp2_with fail
      go_ret2
      exact⟨HBF.out,by rw[HIN.out]; rfl⟩
     ·have HIN:=ab (show bm data=some l by rw[HIS.out,hvn2]; simp[HEV.out.symm]);have HVN:=ab hvn2;clear hvn2;go_wp2_with fail;refine(gk _ l _ true _ HIA2.out HE2.out HVN.out).mono ?_;rintro e wf ⟨rfl,hbf⟩;have HBF:=ab (ah (bn HFB.out nd) hbf);have HIF:=ab (aU.below HIA2.out hbf);clear hbf;go_wp2_with fail
      go_ret2
      exact⟨HBF.out,by rw[HIN.out]; exact⟨_,rfl,HIF.out⟩⟩
    ·have HIN:=ab (show bm data=none by rw[HIS.out,if_neg (fun h=>h0 (HEV.out.trans h.1))]);have e6:(ev != 0)=true:=by simp[h0]
     clear h0;go_wp2_with fail
     go_ret2
     exact⟨bn HFB.out nd,by rw[HIN.out]; rfl⟩
end Go.Proofs.YtpffpjbkbaleiaaGreatDoor
namespace Go.Proofs.YtpffpjbkbaleiaaGreatDoor
open Go Go.RowKit
def eq (l:List az) (k:Nat):List UInt8:=aH l.length++(l.take k).flatMap cn
theorem sV {l:List az} {k:Nat} {it:az} (h:l[k]? =some it):eq l (k+1)=eq l k++cn it:=by
 unfold eq;rw[List.take_add_one,h,List.flatMap_append,<-List.append_assoc]; simp
theorem uv (l:List az):eq l l.length=cF l:=by unfold eq cF; rw[List.take_length]
theorem oM (l:List az) (k:Nat):(eq l k).length<=(cF l).length:=by
 have:(l.flatMap cn).length=((l.take k).flatMap cn).length+((l.drop k).flatMap cn).length:=by
  rw[<-List.length_append,<-List.flatMap_append,List.take_append_drop]
 unfold eq cF;rw[List.length_append,List.length_append];omega
def ob (l:List az) (w:World) (e:Ending) (w':World):Prop:=Below w.heap.size w w'/\
 if bV l=true then(if(cF l).length<=32768 then ∃v,e= .returned (.tuple #[v, .int .i64 0])/\iF w' w.heap.size v (cF l)else e= .returned (.tuple #[.slice none 0 0, .int .i64 2]))
 else e= .returned (.tuple #[.slice none 0 0, .int .i64 1])
theorem no (S:Nat->Prop) (l:List az) (v:Value) (w:World) (hv:aU S w v l) (henv:gm w) (hsm:(cF l).length<1000000000000) (htm: ∀it∈l,it.time<9223372036854775808):Calls Tryz.prog 15 #[v] w (ob l w):=by
 obtain⟨a,cap,rfl,hc,hm,-⟩:=aP.shape hv dz.len;unfold maxLen at hm;obtain⟨n,hn⟩: ∃n,n=l.length:=⟨_,rfl⟩;rw[<-hn]at hv hc ⊢;have HV:=ab hv;have HE:=ab henv;have HN:=ab hn;have HSM:=ab hsm;have HTM:=ab htm;clear hv henv hn hsm htm
 by_cases hval:bV l=true
 ·have HVN:=ab hval;have HALL:=ab (mG hval);clear hval;have hn4:n<=4096:=by rw[HN.out]; exact HALL.out.1
  go_enter Tryz.func15,Tryz.ntmps15
  go_wp2_with fail;refine(gk S l _ true w HV.out HE.out HVN.out).mono ?_;rintro e w1 ⟨rfl,hb1⟩;have HB1:=ab hb1;clear hb1;go_wp2_with fail;refine(qB w1).mono ?_;rintro e w2 ⟨rfl,hw2,hb2⟩;obtain⟨wb,hwb⟩: ∃wb,wb=w1.heap.size:=⟨_,rfl⟩;rw[<-hwb]at hw2 ⊢;have HB2:=ab (ah HB1.out hb2);have HW2:=ab hw2;have HWB:=ab (show w.heap.size<=wb by rw[hwb]; exact HB1.out.size)
  clear hw2 hb2 hwb;go_wp2_with fail;refine(qf wb n [] w2 HW2.out (by simp) (by omega)).mono ?_;rintro e w3 ⟨rfl,hw3,hk3⟩;rw[List.nil_append]at hw3;have HW3:=ab hw3;have HB3:=ab (HB2.out.trans (hk3.1.mono HWB.out));clear hw3 hk3;go_wp2_with fail
  go_loopw [21] (fun i wr=> ∃k:Nat,k<=n/\i= .int .i64 (k:Int)/\lw wr wb (eq l k)/\Below w.heap.size w wr) (fun i _=>n-(intOf i).toNat)
  case atStart=>exact⟨0,Nat.zero_le _,rfl,by have:=HW3.out; rw[HN.out]at this; simpa [eq]using this,HB3.out⟩
  case round=>
   obtain⟨k,hk,rfl,hw,hb⟩:=hrel;have HW:=ab hw;have HB:=ab hb;clear hw hb
   by_cases hlt:k<n
   ·obtain⟨it,hr⟩: ∃it,l[k]? =some it:=⟨l[k]'(by rw[<-HN.out]; exact hlt),by simp⟩;obtain⟨b,o,ca,cc,rfl,hok,hrf,hbl,-,hcl0⟩:=dM HV.out (Below.refl _ _) hr;have hcl: ∀j,j<10->wr.cell? ⟨b,o+k*10+j,none⟩=(cL (.slice ca it.chunks.length cc) it)[j]? :=fun j hj=>(HB.out.cell (p:=⟨b,o+k*10+j,none⟩) hbl).trans (hcl0 j hj)
    have HR:=ab hr;have HO:=ab hok;have HRF:=ab hrf;have HVI:=ab (HALL.out.2 it (List.mem_of_getElem? hr));have q0:=hcl 0 (by omega);have q1:=hcl 1 (by omega);have q2:=hcl 2 (by omega);have q3:=hcl 3 (by omega);have q4:=hcl 4 (by omega);have q5:=hcl 5 (by omega);have q6:=hcl 6 (by omega);have q7:=hcl 7 (by omega);have q8:=hcl 8 (by omega);have q9:=hcl 9 (by omega);simp only[cL,AY,Nat.add_zero]at q0 q1 q2 q3 q4 q5 q6 q7 q8 q9
    have hvi:=HVI.out;unfold bU at hvi;rw[Bool.and_eq_true]at hvi;have hh:=oV.1 hvi.1;have HBK:=ab (ze hvi.2);have HVB:=ab hvi.2;have htm:=HTM.out it (List.mem_of_getElem? hr);obtain⟨kd,hkd⟩: ∃kd,kd=it.kind.toNat:=⟨_,rfl⟩;obtain⟨md,hmd⟩: ∃md,md=it.mode.toNat:=⟨_,rfl⟩;obtain⟨td,htd⟩: ∃td,td=it.time.toNat:=⟨_,rfl⟩;have hk0:=hh.md0;have hm0:=hh.md1
    have ht0:=hh.tm0;have hnm:=uk hh.val hh.nos;have hki:it.kind=(kd:Int):=by rcases HBK.out with h | h | h<;> omega
    have hmi:it.mode=(md:Int):=by omega
    have hti:it.time=(td:Int):=by omega
    have hkd3:kd<=3:=by rcases HBK.out with h | h | h<;> omega
    have hmd9:md<=511:=by omega
    have htd9:td<9223372036854775808:=by omega
    have HIN:=ab (And.intro hkd (And.intro hmd htd));have hns:it.name.size=(bl it.name).length:=ay _;have hwk:IntKind.u64.wrap (kd:Int)=(kd:Int):=by rw[IntKind.wrap_u64]; omega
    have hwm:IntKind.u64.wrap (md:Int)=(md:Int):=by rw[IntKind.wrap_u64]; omega
    have hwt:IntKind.u64.wrap (td:Int)=(td:Int):=by rw[IntKind.wrap_u64]; omega
    rw[hki]at q1;rw[hmi]at q2;rw[hti]at q3;have HBKk:=ab (show kd=1\/kd=2\/kd=3 by rcases HBK.out with h | h | h<;> omega);have HKI:=ab hki;clear hr hok hrf hcl hcl0 hvi hh htm hkd hmd htd hk0 hm0 ht0 hki hmi hti;have l1:=oM l k;have l2:=HSM.out;have l3:=dI (n:=it.name.size) (by omega);have l4:=dI (n:=kd) (by omega);have l5:=dI (n:=md) (by omega)
    have l6:=dI (n:=td) (by omega);have HLN:=ab (show(eq l k).length<1000000000000/\(aH it.name.size).length<=10/\(aH kd).length<=10/\(aH md).length<=10/\(aH td).length<=10/\(bl it.name).length<=64/\it.name.size<=64 from⟨by omega,l3,l4,l5,l6,hnm,by omega⟩);clear l1 l2 l3 l4 l5 l6 hnm hns;have hwbl:wb<wr.heap.size:=by obtain⟨_,h,_⟩:=HW.out; exact lt_of_block h
    have HA:=ab ((Below.refl wr.heap.size wr).alloc (Nat.le_refl _) (.cells #[.string it.name, .int .i64 (kd:Int), .int .i64 (md:Int), .int .i64 (td:Int), .int .i64 it.size, .string it.link, .slice ca it.chunks.length cc, .string it.node.name, .int .i64 it.node.gen, .int .i64 it.node.size] 28));have HX4:=ab (bX wr (.cells #[.string it.name, .int .i64 (kd:Int), .int .i64 (md:Int), .int .i64 (td:Int), .int .i64 it.size, .string it.link, .slice ca it.chunks.length cc, .string it.node.name, .int .i64 it.node.gen, .int .i64 it.node.size] 28))
    have HW4:=ab (HW.out.below HA.out);have HB4:=ab (HB.out.trans (HA.out.mono HB.out.size));go_wp2_with fail;clear q0 q1 q2 q3 q4 q5 q6 q7 q8 q9;refine(sr wb it.name _ _ HW4.out (by have:=HLN.out; omega) (by have:=HLN.out; omega)).mono ?_;rintro e wx ⟨rfl,hw5,hk5⟩;have HX5:=ab ((hk5.2 _ (by decide) (by decide) _ _ HX4.out).trans HX4.out);have HW5:=ab hw5;have HB5:=ab (HB4.out.trans (hk5.1.mono HWB.out))
    clear hw5 hk5 HX4 HW4 HB4;have HX4:=HX5;have HW4:=HW5;have HB4:=HB5;clear HX5 HW5 HB5;have c0:=aa (k:=0) HX4.out;have c1:=aa (k:=1) HX4.out;have c2:=aa (k:=2) HX4.out;have c3:=aa (k:=3) HX4.out;have c5:=aa (k:=5) HX4.out;have c6:=aa (k:=6) HX4.out;have c7:=aa (k:=7) HX4.out;have c8:=aa (k:=8) HX4.out;have c9:=aa (k:=9) HX4.out
    simp only[aN]at c0 c1 c2 c3 c5 c6 c7 c8 c9;go_wp2_with fail;clear c0 c1 c2 c3 c5 c6 c7 c8 c9;refine(eX wb kd _ _ HW4.out (by have:=HLN.out; simp only[List.length_append]; omega) (by omega)).mono ?_;rintro e wx ⟨rfl,hw5,hk5⟩;have HX5:=ab ((hk5.2 _ (by decide) (by decide) _ _ HX4.out).trans HX4.out);have HW5:=ab hw5;have HB5:=ab (HB4.out.trans (hk5.1.mono HWB.out));clear hw5 hk5 HX4 HW4 HB4
    have HX4:=HX5;have HW4:=HW5;have HB4:=HB5;clear HX5 HW5 HB5;have c0:=aa (k:=0) HX4.out;have c1:=aa (k:=1) HX4.out;have c2:=aa (k:=2) HX4.out;have c3:=aa (k:=3) HX4.out;have c5:=aa (k:=5) HX4.out;have c6:=aa (k:=6) HX4.out;have c7:=aa (k:=7) HX4.out;have c8:=aa (k:=8) HX4.out;have c9:=aa (k:=9) HX4.out;simp only[aN]at c0 c1 c2 c3 c5 c6 c7 c8 c9
    go_wp2_with fail;clear c0 c1 c2 c3 c5 c6 c7 c8 c9;refine(eX wb md _ _ HW4.out (by have:=HLN.out; simp only[List.length_append]; omega) (by omega)).mono ?_;rintro e wx ⟨rfl,hw5,hk5⟩;have HX5:=ab ((hk5.2 _ (by decide) (by decide) _ _ HX4.out).trans HX4.out);have HW5:=ab hw5;have HB5:=ab (HB4.out.trans (hk5.1.mono HWB.out));clear hw5 hk5 HX4 HW4 HB4;have HX4:=HX5;have HW4:=HW5
    have HB4:=HB5;clear HX5 HW5 HB5;have c0:=aa (k:=0) HX4.out;have c1:=aa (k:=1) HX4.out;have c2:=aa (k:=2) HX4.out;have c3:=aa (k:=3) HX4.out;have c5:=aa (k:=5) HX4.out;have c6:=aa (k:=6) HX4.out;have c7:=aa (k:=7) HX4.out;have c8:=aa (k:=8) HX4.out;have c9:=aa (k:=9) HX4.out;simp only[aN]at c0 c1 c2 c3 c5 c6 c7 c8 c9;go_wp2_with fail
    clear c0 c1 c2 c3 c5 c6 c7 c8 c9;have HNX:=ab (sV HR.out);have HLX:=ab (show(eq l (k+1)).length<1000000000000 by have h1:=oM l (k+1); have h2:=HSM.out; omega)
    rcases HBKk.out with h | h | h
    ·subst h;have hbf:=kq (by rw[HKI.out]; rfl) HVB.out;have HBF:=ab hbf.2.2.1;obtain⟨_,_,heq,hcn,hcm,-⟩:=aP.shape HRF.out iG.len;simp only[Value.slice.injEq]at heq;obtain⟨rfl,-,rfl⟩:=heq;obtain⟨n2,hn2⟩: ∃n2,n2=it.chunks.length:=⟨_,rfl⟩;have HN2:=ab hn2;unfold maxLen at hcm;rw[<-hn2]at HX4 HRF hcn;have hn2b:n2<9223372036854775808:=by omega
     have HTL:=ab (show cn it=aH it.name.size++(bl it.name++(aH 1++(aH md++(aH td++(aH n2++it.chunks.flatMap cS))))) by
      unfold cn gS;rw[if_pos (by rw[HKI.out]; rfl),<-HIN.out.1,<-HIN.out.2.1,<-HIN.out.2.2,<-hn2])
     clear hn2 hbf;refine(eX wb td _ _ HW4.out (by have:=HLN.out; simp only[List.length_append]; omega) (by omega)).mono ?_;rintro e wx ⟨rfl,hw5,hk5⟩;have HX5:=ab ((hk5.2 _ (by decide) (by decide) _ _ HX4.out).trans HX4.out);have HW5:=ab hw5;have HB5:=ab (HB4.out.trans (hk5.1.mono HWB.out));clear hw5 hk5 HX4 HW4 HB4;have HX4:=HX5;have HW4:=HW5;have HB4:=HB5;clear HX5 HW5 HB5
     have c0:=aa (k:=0) HX4.out;have c1:=aa (k:=1) HX4.out;have c2:=aa (k:=2) HX4.out;have c3:=aa (k:=3) HX4.out;have c5:=aa (k:=5) HX4.out;have c6:=aa (k:=6) HX4.out;have c7:=aa (k:=7) HX4.out;have c8:=aa (k:=8) HX4.out;have c9:=aa (k:=9) HX4.out;simp only[aN]at c0 c1 c2 c3 c5 c6 c7 c8 c9;go_wp2_with fail;clear c0 c1 c2 c3 c5 c6 c7 c8 c9
     refine(qf wb n2 _ _ HW4.out (by have:=HLN.out; simp only[List.length_append]; omega) hn2b).mono ?_;rintro e wx ⟨rfl,hw5,hk5⟩;have HX5:=ab ((hk5.2 _ (by decide) (by decide) _ _ HX4.out).trans HX4.out);have HW5:=ab hw5;have HB5:=ab (HB4.out.trans (hk5.1.mono HWB.out));clear hw5 hk5 HX4 HW4 HB4;have HX4:=HX5;have HW4:=HW5;have HB4:=HB5;clear HX5 HW5 HB5;have c0:=aa (k:=0) HX4.out
     have c1:=aa (k:=1) HX4.out;have c2:=aa (k:=2) HX4.out;have c3:=aa (k:=3) HX4.out;have c5:=aa (k:=5) HX4.out;have c6:=aa (k:=6) HX4.out;have c7:=aa (k:=7) HX4.out;have c8:=aa (k:=8) HX4.out;have c9:=aa (k:=9) HX4.out;simp only[aN]at c0 c1 c2 c3 c5 c6 c7 c8 c9;go_wp2_with fail;clear c0 c1 c2 c3 c5 c6 c7 c8 c9;obtain⟨D,hDw,hDe⟩: ∃D,lw wx wb D/\D++it.chunks.flatMap cS=eq l (k+1):=⟨_,HW4.out,by rw[HNX.out,HTL.out]; simp[List.append_assoc]⟩
     have HDW:=ab hDw;have HDE:=ab hDe;clear hDw hDe
     go_loopw [56] (fun j w6=> ∃m:Nat,m<=n2/\j= .int .i64 (m:Int)/\lw w6 wb (D++(it.chunks.take m).flatMap cS)/\Below w.heap.size w w6) (fun j _=>n2-(intOf j).toNat)
     case atStart=>exact⟨0,Nat.zero_le _,rfl,by simpa using HDW.out,HB4.out⟩
     case round=>
      obtain⟨m,hmn,rfl,hw6,hb6⟩:=hrel;have HW6:=ab hw6;have HB6:=ab hb6;clear hw6 hb6
      by_cases hlm:m<n2
      ·obtain⟨r,hr2⟩: ∃r,it.chunks[m]? =some r:=⟨it.chunks[m]'(by rw[<-HN2.out]; exact hlm),by simp⟩;have HR2:=ab hr2;have HVR:=ab ((HBF.out r (List.mem_of_getElem? hr2)).1);obtain⟨b2,o2,rfl,-,p0,p1,p2⟩:=fA HRF.out HB6.out hr2;have HLD:=ab (show(D++(it.chunks.take m).flatMap cS).length<1098000000000 by
        have h1:=congrArg List.length HDE.out;have h2:=HLX.out;have h3:(it.chunks.flatMap cS).length=((it.chunks.take m).flatMap cS).length+((it.chunks.drop m).flatMap cS).length:=by
         rw[<-List.length_append,<-List.flatMap_append,List.take_append_drop]
        rw[List.length_append]at h1 ⊢
        omega)
       clear hr2;have HA6:=ab ((Below.refl wr.heap.size wr).alloc (Nat.le_refl _) (.cells #[.string r.name, .int .i64 r.gen, .int .i64 r.size] 26));have HTK:=ab (show(it.chunks.take (m+1)).flatMap cS=(it.chunks.take m).flatMap cS++cS r by
        rw[List.take_add_one,HR2.out,List.flatMap_append]; simp)
       have HR6:=ab (mh wb r _ _ (HW6.out.below HA6.out) HLD.out HVR.out);have HB7:=ab (HB6.out.trans (HA6.out.mono HB6.out.size));go_wp2_with fail;refine HR6.out.mono ?_;rintro e w8 ⟨rfl,hw8,hk8⟩;have HW8:=ab hw8;have HB8:=ab (HB7.out.trans (hk8.1.mono HWB.out));clear hw8 hk8 p0 p1 p2;go_wp2_with fail
       go_roundw
       case rel=>
        refine⟨m+1,by omega,by go_num, ?_,HB8.out⟩;rw[HTK.out,<-List.append_assoc];exact HW8.out
       case measure=>simp[intOf]; omega
      ·have hm2:m=n2:=by omega
       subst hm2;have HWE:=ab (show lw _ wb (eq l (k+1)) by have:=HW6.out; rw[HN2.out,List.take_length,HDE.out]at this; exact this);go_wp2_with fail
       go_roundw
       case rel=>exact⟨k+1,by omega,by go_num,HWE.out,HB6.out⟩
       case measure=>simp[intOf]; omega
    ·subst h;have hbf:=tZ (by rw[HKI.out]; rfl) HVB.out;have HBF:=ab hbf.2.2.2;have HTL:=ab (show cn it=aH it.name.size++(bl it.name++(aH 2++(aH md++(aH td++cS it.node)))) by
      unfold cn gS;rw[if_neg (by rw[HKI.out]; decide),if_pos (by rw[HKI.out]; rfl),<-HIN.out.1,<-HIN.out.2.1,<-HIN.out.2.2])
     clear hbf;refine(eX wb td _ _ HW4.out (by have:=HLN.out; simp only[List.length_append]; omega) (by omega)).mono ?_;rintro e wx ⟨rfl,hw5,hk5⟩;have HX5:=ab ((hk5.2 _ (by decide) (by decide) _ _ HX4.out).trans HX4.out);have HW5:=ab hw5;have HB5:=ab (HB4.out.trans (hk5.1.mono HWB.out));clear hw5 hk5 HX4 HW4 HB4;have HX4:=HX5;have HW4:=HW5;have HB4:=HB5;clear HX5 HW5 HB5
     have c0:=aa (k:=0) HX4.out;have c1:=aa (k:=1) HX4.out;have c2:=aa (k:=2) HX4.out;have c3:=aa (k:=3) HX4.out;have c5:=aa (k:=5) HX4.out;have c6:=aa (k:=6) HX4.out;have c7:=aa (k:=7) HX4.out;have c8:=aa (k:=8) HX4.out;have c9:=aa (k:=9) HX4.out;simp only[aN]at c0 c1 c2 c3 c5 c6 c7 c8 c9;go_wp2_with fail;clear c0 c1 c2 c3 c5 c6 c7 c8 c9
     refine(mh wb it.node _ _ HW4.out (by have:=HLN.out; simp only[List.length_append]; omega) HBF.out).mono ?_;rintro e wx ⟨rfl,hw5,hk5⟩;have HX5:=ab ((hk5.2 _ (by decide) (by decide) _ _ HX4.out).trans HX4.out);have HW5:=ab hw5;have HB5:=ab (HB4.out.trans (hk5.1.mono HWB.out));clear hw5 hk5 HX4 HW4 HB4;have HX4:=HX5;have HW4:=HW5;have HB4:=HB5;clear HX5 HW5 HB5;have c0:=aa (k:=0) HX4.out
     have c1:=aa (k:=1) HX4.out;have c2:=aa (k:=2) HX4.out;have c3:=aa (k:=3) HX4.out;have c5:=aa (k:=5) HX4.out;have c6:=aa (k:=6) HX4.out;have c7:=aa (k:=7) HX4.out;have c8:=aa (k:=8) HX4.out;have c9:=aa (k:=9) HX4.out;simp only[aN]at c0 c1 c2 c3 c5 c6 c7 c8 c9;go_wp2_with fail;clear c0 c1 c2 c3 c5 c6 c7 c8 c9
     go_roundw
     case rel=>
      refine⟨k+1,by omega,by go_num, ?_,HB4.out⟩;rw[HNX.out,HTL.out]
      simpa [List.append_assoc]using HW4.out
     case measure=>simp[intOf]; omega
    ·subst h;have hbf:=zf (by rw[HKI.out]; rfl) HVB.out;have HBF:=ab hbf.2.2.2.2.1;have HTL:=ab (show cn it=aH it.name.size++(bl it.name++(aH 3++(aH md++(aH td++(aH it.link.size++bl it.link))))) by
      unfold cn gS;rw[if_neg (by rw[HKI.out]; decide),if_neg (by rw[HKI.out]; decide),<-HIN.out.1,<-HIN.out.2.1,<-HIN.out.2.2])
     clear hbf;refine(eX wb td _ _ HW4.out (by have:=HLN.out; simp only[List.length_append]; omega) (by omega)).mono ?_;rintro e wx ⟨rfl,hw5,hk5⟩;have HX5:=ab ((hk5.2 _ (by decide) (by decide) _ _ HX4.out).trans HX4.out);have HW5:=ab hw5;have HB5:=ab (HB4.out.trans (hk5.1.mono HWB.out));clear hw5 hk5 HX4 HW4 HB4;have HX4:=HX5;have HW4:=HW5;have HB4:=HB5;clear HX5 HW5 HB5
     have c0:=aa (k:=0) HX4.out;have c1:=aa (k:=1) HX4.out;have c2:=aa (k:=2) HX4.out;have c3:=aa (k:=3) HX4.out;have c5:=aa (k:=5) HX4.out;have c6:=aa (k:=6) HX4.out;have c7:=aa (k:=7) HX4.out;have c8:=aa (k:=8) HX4.out;have c9:=aa (k:=9) HX4.out;simp only[aN]at c0 c1 c2 c3 c5 c6 c7 c8 c9;go_wp2_with fail;clear c0 c1 c2 c3 c5 c6 c7 c8 c9
     refine(sr wb it.link _ _ HW4.out (by have:=HLN.out; simp only[List.length_append]; omega) (by have:=HBF.out; omega)).mono ?_;rintro e wx ⟨rfl,hw5,hk5⟩;have HX5:=ab ((hk5.2 _ (by decide) (by decide) _ _ HX4.out).trans HX4.out);have HW5:=ab hw5;have HB5:=ab (HB4.out.trans (hk5.1.mono HWB.out));clear hw5 hk5 HX4 HW4 HB4;have HX4:=HX5;have HW4:=HW5;have HB4:=HB5;clear HX5 HW5 HB5
     have c0:=aa (k:=0) HX4.out;have c1:=aa (k:=1) HX4.out;have c2:=aa (k:=2) HX4.out;have c3:=aa (k:=3) HX4.out;have c5:=aa (k:=5) HX4.out;have c6:=aa (k:=6) HX4.out;have c7:=aa (k:=7) HX4.out;have c8:=aa (k:=8) HX4.out;have c9:=aa (k:=9) HX4.out;simp only[aN]at c0 c1 c2 c3 c5 c6 c7 c8 c9;go_wp2_with fail;clear c0 c1 c2 c3 c5 c6 c7 c8 c9
     go_roundw
     case rel=>
      refine⟨k+1,by omega,by go_num, ?_,HB4.out⟩;rw[HNX.out,HTL.out]
      simpa [List.append_assoc]using HW4.out
     case measure=>simp[intOf]; omega
   ·have hk2:k=n:=by omega
    subst hk2;have HWE:=ab (show lw wr wb (cF l) by have:=HW.out; rw[HN.out,uv]at this; exact this);go_wp2_with fail;refine(AU wb (cF l) wr HWE.out (by have:=HSM.out; omega)).mono ?_;rintro e w9 ⟨hb9,hif⟩;obtain⟨m,hm0⟩: ∃m,m=(cF l).length:=⟨_,rfl⟩;rw[<-hm0]at hif;have HM0:=ab hm0;have HB9:=ab (HB.out.trans (hb9.mono HB.out.size));have hbs:=HB.out.size
    by_cases hbig:m<=1048576
    ·rw[if_pos hbig]at hif;obtain⟨v9,rfl,ho9⟩:=hif;obtain⟨a9,c9,hv9,-,-⟩:=aj ho9;rw[<-hm0]at hv9;subst hv9;have HO9:=ab (cI ho9 hbs);clear hm0 ho9 hb9
     by_cases hsmall:m<=32768
     ·have hmi:(m:Int)<=32768:=by omega
      go_wp2_with fail
      go_ret2
      refine⟨HB9.out, ?_⟩;rw[if_pos HVN.out,<-HM0.out,if_pos hsmall];exact⟨_,rfl,HO9.out⟩
     ·have hmi:(32768:Int)<(m:Int):=by omega
      have HSB:=ab hsmall;clear hsmall;go_wp2_with fail
      go_ret2
      refine⟨HB9.out, ?_⟩;rw[if_pos HVN.out,<-HM0.out,if_neg HSB.out]
      rfl
    ·rw[if_neg hbig]at hif;subst hif;have HSB:=ab (show ¬m<=32768 by omega);clear hm0 hb9 hbig;go_wp2_with fail
     go_ret2
     refine⟨HB9.out, ?_⟩;rw[if_pos HVN.out,<-HM0.out,if_neg HSB.out]
     rfl
 ·have HVN:=ab (show bV l=false by simpa using hval);clear hval
  go_enter Tryz.func15,Tryz.ntmps15
  go_wp2_with fail;refine(gk S l _ false w HV.out HE.out HVN.out).mono ?_;rintro e w1 ⟨rfl,hb1⟩;have HB1:=ab hb1;clear hb1;go_wp2_with fail
  go_ret2
  refine⟨HB1.out, ?_⟩;rw[HVN.out]
  rfl
end Go.Proofs.YtpffpjbkbaleiaaGreatDoor
namespace Go.Proofs.YtpffpjbkbaleiaaGreatDoor
open Go.RowKit Go.Maps
def bu (S:Nat->Prop) (w:World):List (Value×Value)->List (ByteArray×List UInt8)->Prop
 | [],[]=>True
 | (k,v)::m,(n,bs)::cs=>k= .string n/\aw S w v bs/\bu S w m cs
 | _,_=>False
theorem bu.mono {S:Nat->Prop} {w w':World} : ∀ {m:List (Value×Value)} {cs:List (ByteArray×List UInt8)},bu S w m cs->(∀v bs,aw S w v bs->aw S w' v bs)->bu S w' m cs
 | [],[],_,_=>trivial
 | [],_::_,h,_=>h
 | _::_,[],h,_=>h
 | (_,_)::_,(_,_)::_,h,hm=>⟨h.1,hm _ _ h.2.1,bu.mono h.2.2 hm⟩
def dt :List (ByteArray×List UInt8)->ByteArray->Option (List UInt8)
 | [],_=>none
 | (k,bs)::cs,n=>if k=n then some bs else dt cs n
theorem bu.hit {S:Nat->Prop} {w:World} {n:ByteArray} {bs:List UInt8} : ∀ {m:List (Value×Value)} {cs:List (ByteArray×List UInt8)},bu S w m cs->dt cs n=some bs-> ∃v,(Value.string n,v)∈m/\aw S w v bs
 | [],[],_,hf=>by simp[dt]at hf
 | [],_::_,h,_=>False.elim h
 | _::_,[],h,_=>False.elim h
 | (k,v)::m,(n',bs')::cs,h,hf=>by
  simp only[dt]at hf
  split at hf
  ·rename_i e;simp only[Option.some.injEq]at hf;subst hf e;exact⟨v,by rw[h.1]; simp,h.2.1⟩
  ·obtain⟨v',h1,h2⟩:=bu.hit h.2.2 hf;exact⟨v',by simp[h1],h2⟩
theorem bu.miss {S:Nat->Prop} {w:World} {n:ByteArray} : ∀ {m:List (Value×Value)} {cs:List (ByteArray×List UInt8)},bu S w m cs->dt cs n=none-> ∀p∈m,p.1≠Value.string n
 | [],[],_,_,_,hp=>by simp at hp
 | [],_::_,h,_,_,_=>False.elim h
 | _::_,[],h,_,_,_=>False.elim h
 | (k,v)::m,(n',bs')::cs,h,hf,p,hp=>by
  simp only[dt]at hf
  split at hf
  ·simp at hf
  ·rename_i e
   rcases List.mem_cons.1 hp with rfl | hp
   ·intro e2;have:=h.1.symm.trans e2;simp only[Value.string.injEq]at this;exact e this
   ·exact bu.miss h.2.2 hf p hp
def bR (S:Nat->Prop) (w:World) (cv:Value) (cs:List (ByteArray×List UInt8)):Prop:=
 (cv= .map none/\cs=[])\/ ∃b m,cv= .map (some b)/\S b/\dA Tryz.prog 9 w b m/\bu S w m cs
theorem bR.below {S:Nat->Prop} {w w':World} {cv:Value} {cs:List (ByteArray×List UInt8)} (h:bR S w cv cs) (hb:Below w.heap.size w w'):bR S w' cv cs:=by
 rcases h with h | ⟨b,m,h1,h0,h2,h3⟩
 ·exact .inl h
 ·exact .inr ⟨b,m,h1,h0,h2.same (hb.block b h2.lt),h3.mono (fun v bs hv=>aM.below hv (by omega) hb)⟩
theorem mu :Keyed Tryz.prog 9:=string_keyed Tryz.underlying9
theorem ms {n:ByteArray} (h:n.size<=maxLen): ∃l,keyOf Tryz.prog 9 (.string n)=some l:=⟨.string n.data.toList,by simp[keyOf,mapKey,Tryz.underlying9,h]⟩
theorem bR.hitL {S:Nat->Prop} {w:World} {cv:Value} {cs:List (ByteArray×List UInt8)} (h:bR S w cv cs) {n:ByteArray} {bs:List UInt8} (hn:n.size<=maxLen) (hf:dt cs n=some bs):
  ∃v,(Instr.lookup 133 cv (.string n) true).run Tryz.prog w= .ok (.tuple #[v, .bool true]) w/\aw S w v bs:=by
 rcases h with⟨_,rfl⟩ | ⟨b,m,rfl,_,h2,h3⟩
 ·simp[dt]at hf
 ·obtain⟨v,hv,hb⟩:=h3.hit hf;exact⟨v,h2.hit mu (t:=133) (e:=29) (by kernel_rfl) (ms hn) hv true,hb⟩
theorem bR.missL {S:Nat->Prop} {w:World} {cv:Value} {cs:List (ByteArray×List UInt8)} (h:bR S w cv cs) {n:ByteArray} (hn:n.size<=maxLen) (hf:dt cs n=none):
  (Instr.lookup 133 cv (.string n) true).run Tryz.prog w= .ok (.tuple #[.slice none 0 0, .bool false]) w:=by
 obtain⟨l,hl⟩:=ms hn
 rcases h with⟨rfl,_⟩ | ⟨b,m,rfl,_,h2,h3⟩
 ·exact Maps.look_nil true mu (t:=133) (e:=29) (by kernel_rfl) (by kernel_rfl) hl
 ·exact h2.miss mu (t:=133) (e:=29) (by kernel_rfl) (by kernel_rfl) (ms hn) (h3.miss hf) true
def dY (cs:List (ByteArray×List UInt8)) (r:aL):Except Int (List UInt8):=match dt cs r.name with
 | none=> .error 10
 | some bs=>if(bs.length:Int)=r.size then .ok bs else .error 9
def dO (cs:List (ByteArray×List UInt8)) (r:aL):Except Int (List az):=match dY cs r with
 | .error e=> .error e
 | .ok bs=>match bm bs with
  | none=> .error 9
  | some l=> .ok l
def tQ (cs:List (ByteArray×List UInt8)) (r:aL) (S:Nat->Prop) (w:World) (e:Ending) (w':World):Prop:=Below w.heap.size w w'/\match dY cs r with
 | .error x=>e= .returned (.tuple #[.slice none 0 0, .int .i64 x])/\x≠0
 | .ok bs=> ∃v,e= .returned (.tuple #[v, .int .i64 0])/\aw S w' v bs
theorem qX (S:Nat->Prop) (cv:Value) (cs:List (ByteArray×List UInt8)) (r:aL) (w:World) (hc:bR S w cv cs) (hr:br r):Calls Tryz.prog 129 #[cv,bF r] w (tQ cs r S w):=by
 have hnm:=hr.nm;have HC:=ab (hc.below ((Below.refl _ _).alloc (Nat.le_refl _) (.cells #[.string r.name, .int .i64 r.gen, .int .i64 r.size] 26)));have HB:=ab ((Below.refl w.heap.size w).alloc (Nat.le_refl _) (.cells #[.string r.name, .int .i64 r.gen, .int .i64 r.size] 26));unfold bF;clear hc hr
 cases hf:dt cs r.name with
 | none=>
  have hlk:=HC.out.missL hnm hf;have HF:=ab (show dY cs r= .error 10 by unfold dY; rw[hf]);clear hf hnm
  go_enter Tryz.func129,Tryz.ntmps129
  go_wp2_with fail
  go_ret2
  exact⟨HB.out,by rw[HF.out]; exact⟨rfl,by decide⟩⟩
 | some bs=>
  obtain⟨v,hlk,hv⟩:=HC.out.hitL hnm hf;have HV:=ab hv;obtain⟨_,a,cap,rfl,hn,hm,-⟩:=hv;unfold maxLen at hm
  by_cases hl:(bs.length:Int)=r.size
  ·have HF:=ab (show dY cs r= .ok bs by unfold dY; rw[hf]; simp only[if_pos hl]);have e1:((bs.length:Int) != r.size)=false:=by simp[hl]
   clear hf hnm hl
   go_enter Tryz.func129,Tryz.ntmps129
   go_wp2_with fail
   go_ret2
   exact⟨HB.out,by rw[HF.out]; exact⟨_,rfl,HV.out⟩⟩
  ·have HF:=ab (show dY cs r= .error 9 by unfold dY; rw[hf]; simp only[if_neg hl]);have e1:((bs.length:Int) != r.size)=true:=by simp[hl]
   clear hf hnm hl
   go_enter Tryz.func129,Tryz.ntmps129
   go_wp2_with fail
   go_ret2
   exact⟨HB.out,by rw[HF.out]; exact⟨rfl,by decide⟩⟩
def sG (cs:List (ByteArray×List UInt8)) (r:aL) (w:World) (e:Ending) (w':World):Prop:=Below w.heap.size w w'/\match dO cs r with
 | .error x=>e= .returned (.tuple #[.slice none 0 0, .int .i64 x])/\x≠0
 | .ok l=> ∃v,e= .returned (.tuple #[v, .int .i64 0])/\aU (w.heap.size<= ·) w' v l
theorem lO (S:Nat->Prop) (cv:Value) (cs:List (ByteArray×List UInt8)) (r:aL) (w:World) (hc:bR S w cv cs) (hr:br r) (henv:gm w):Calls Tryz.prog 83 #[cv,bF r] w (sG cs r w):=by
 have HB:=ab ((Below.refl w.heap.size w).alloc (Nat.le_refl _) (.cells #[.string r.name, .int .i64 r.gen, .int .i64 r.size] 26));have HC:=ab (hc.below HB.out);have HR:=ab hr;have HE:=ab (henv.below HB.out);unfold bF;clear hc hr henv
 go_enter Tryz.func83,Tryz.ntmps83
 go_wp2_with fail;refine(qX S cv cs r _ HC.out HR.out).mono ?_;rintro e w1 ⟨hb1,hres⟩;have HB1:=ab (ah HB.out hb1);have HE1:=ab (HE.out.below hb1);clear hb1
 cases hch:dY cs r with
 | error x=>
  rw[hch]at hres;obtain⟨rfl,hx⟩:=hres;have HN:=ab (show dO cs r= .error x by unfold dO; rw[hch]);have HX:=ab hx;have e1:(x != 0)=true:=by simp[hx]
  clear hch hx;go_wp2_with fail
  go_ret2
  exact⟨HB1.out,by rw[HN.out]; exact⟨rfl,HX.out⟩⟩
 | ok bs=>
  rw[hch]at hres;obtain⟨v,rfl,hv⟩:=hres;have HV:=ab hv;obtain⟨_,a,cap,rfl,hn,hm,-⟩:=hv;unfold maxLen at hm;have HCH:=ab hch;clear hch;go_wp2_with fail;refine(kt S bs _ w1 HV.out HE1.out).mono ?_;rintro e w2 ⟨hb2,hres⟩;have HB2:=ab (ah HB1.out hb2);clear hb2
  cases hit:bm bs with
  | none=>
   rw[hit]at hres;simp only at hres;subst hres;have HN:=ab (show dO cs r= .error 9 by unfold dO; rw[HCH.out]; simp only[hit]);clear hit;go_wp2_with fail
   go_ret2
   exact⟨HB2.out,by rw[HN.out]; exact⟨rfl,by decide⟩⟩
  | some l=>
   rw[hit]at hres;simp only at hres;obtain⟨v,rfl,hv⟩:=hres;have hwz:=HB1.out.size;have HV2:=ab (show aU (w.heap.size<= ·) w2 v l from by
    obtain⟨cells,h1,h2⟩:=hv;exact⟨cells,h1.weak (fun k hk=>Nat.le_trans hwz hk),h2.mono (fun c x _ hx=>hx.same (fun k _ hS=>⟨Nat.le_trans hwz hS,rfl⟩))⟩)
   obtain⟨a2,c2,rfl,-,-,-⟩:=aP.shape hv dz.len;have HN:=ab (show dO cs r= .ok l by unfold dO; rw[HCH.out]; simp only[hit]);clear hit hv;go_wp2_with fail
   go_ret2
   exact⟨HB2.out,by rw[HN.out]; exact⟨_,rfl,HV2.out⟩⟩
end Go.Proofs.YtpffpjbkbaleiaaGreatDoor
namespace Go.Proofs.YtpffpjbkbaleiaaGreatDoor
open Go Go.RowKit
def gU (cs:List (ByteArray×List UInt8)):List aL->List UInt8->Except Int (List UInt8)
 | [],acc=> .ok acc
 | r::rs,acc=>match dY cs r with
  | .error x=> .error x
  | .ok bs=>gU cs rs (acc++bs)
def sD (cs:List (ByteArray×List UInt8)) (rs:List aL) (w:World) (e:Ending) (w':World):Prop:=Below w.heap.size w w'/\match gU cs rs []with
 | .error x=>e= .returned (.tuple #[.slice none 0 0, .int .i64 x])/\x≠0
 | .ok bs=> ∃v,e= .returned (.tuple #[v, .int .i64 0])/\iF w' w.heap.size v bs
theorem Df (S:Nat->Prop) (v:Value) (rs:List aL) (n:Nat) (w:World) (hv:aQ S w v rs) (h:dk rs=(n:Int)):Calls Tryz.prog 63 #[v] w fun e w'=>e= .returned (.int .i64 (n:Int))/\Below w.heap.size w w':=by
 rw[<-h]; exact mD S v rs w hv
theorem nj (S:Nat->Prop) (cv rv:Value) (cs:List (ByteArray×List UInt8)) (rs:List aL) (w:World) (hc:bR S w cv cs) (hv:aQ S w rv rs) (ht0:0<=dk rs) (ht1:dk rs<=1048576) (hn6:rs.length<=1048576) (hrs: ∀r∈rs,dK r=true):
  Calls Tryz.prog 97 #[cv,rv] w (sD cs rs w):=by
 obtain⟨a,cap,rfl,hcap,hcm,-⟩:=aP.shape hv iG.len;obtain⟨t,ht⟩: ∃t,t=(dk rs).toNat:=⟨_,rfl⟩;have hti:dk rs=(t:Int):=by omega
 have ht6:t<=1048576:=by omega
 obtain⟨n,hn⟩: ∃n,n=rs.length:=⟨_,rfl⟩;rw[<-hn]at hv hcap hn6 ⊢;unfold maxLen at hcm;have HC:=ab hc;have HV:=ab hv;have HN:=ab hn;have HTI:=ab hti;have HRS:=ab hrs;clear hrs;obtain⟨ht9,⟨i9,z9,h91,h92,h93,h94,h95⟩,-,-⟩:=Tryz.appBytes;have hb32:i9.bytes*t<=281474976710656:=by rw[h94]; omega
 have H9:=ab (And.intro h91 (And.intro h92 (And.intro h93 hb32)));clear hc hv hn ht0 ht1 ht hti h91 h92 h93 h94 h95 hb32
 go_enter Tryz.func97,Tryz.ntmps97
 have HT6:=ab (show t<=maxLen by unfold maxLen; omega);go_wp2_with fail;refine(Df S _ rs t w HV.out HTI.out).mono ?_;rintro e w1 ⟨rfl,hb1⟩;have HB1:=ab hb1;clear hb1;go_wp2_with (first | ((refine wpList_make_own _ rfl _ _ 29 rfl w.heap.size 5 i9 z9 1 Tryz.underlying29 H9.out.1 H9.out.2.1 H9.out.2.2.1 .i64 .i64 (t:Int) t rfl rfl rfl H9.out.2.2.2 HT6.out HB1.out.size ?_); intro w4 hown4 hg4; have HO4:=ab hown4; have HG4:=ab hg4; clear hown4 hg4))
 have HB4:=ab ((eG HG4.out).mono HB1.out.size |> HB1.out.trans)
 go_loopw [16,6] (fun i x wr=> ∃(k:Nat) (acc:List UInt8),k<=n/\i= .int .i64 (k:Int)/\gU cs rs []=gU cs (rs.drop k) acc/\acc.length<=k*32768/\iF wr w.heap.size x acc/\Below w.heap.size w wr) (fun i _ _=>n-(intOf i).toNat)
 case atStart=>exact⟨0,[],Nat.zero_le _,rfl,rfl,by simp,HO4.out,HB4.out⟩
 case round=>
  obtain⟨k,acc,hk,rfl,hf,hal,ho,hb⟩:=hrel;obtain⟨ax,cx,rfl,hx1,hx2⟩:=aj ho;have HF:=ab hf;have HO:=ab ho;have HB:=ab hb;clear hf ho hb
  by_cases hlt:k<n
  ·obtain⟨r,hr⟩: ∃r,rs[k]? =some r:=⟨rs[k]'(by rw[<-HN.out]; exact hlt),by simp⟩;obtain⟨b,o,rfl,hok,p0,p1,p2⟩:=fA HV.out HB.out hr;have HA:=ab ((Below.refl wr.heap.size wr).alloc (Nat.le_refl _) (.cells #[.string r.name, .int .i64 r.gen, .int .i64 r.size] 26));have hch:=qX S cv cs r _ ((HC.out.below HB.out).below HA.out) hok;have hsz:=(mf.1 (HRS.out r (List.mem_of_getElem? hr))).2.2.2
   have HBA:=ab (HB.out.trans (HA.out.mono HB.out.size));have HOA:=ab (ba HO.out HA.out);have HDR:=ab (show rs.drop k=r::rs.drop (k+1) by
    rw[List.drop_eq_getElem_cons (by rw[<-HN.out]; exact hlt)]
    congr 1
    exact(List.getElem?_eq_some_iff.1 hr).2)
   unfold tQ at hch
   cases hcp:dY cs r with
   | error x=>
    rw[hcp]at hch;have HCH:=ab hch;have HFE:=ab (show gU cs rs []= .error x by rw[HF.out,HDR.out,gU,hcp]);clear hcp hch hr hok hsz;go_wp2_with fail;refine HCH.out.mono ?_;rintro e w5 ⟨hb5,rfl,hx⟩;have HB5:=ab (HBA.out.trans (hb5.mono HBA.out.size));clear hb5;go_wp2_with fail
    go_ret2
    refine⟨HB5.out, ?_⟩;rw[HFE.out];exact⟨rfl,hx⟩
   | ok bs=>
    rw[hcp]at hch;have HCH:=ab hch;have HFE:=ab (show gU cs rs []=gU cs (rs.drop (k+1)) (acc++bs) by rw[HF.out,HDR.out,gU,hcp]);have hbl:bs.length<=32768:=by
     unfold dY at hcp
     cases hf:dt cs r.name with
     | none=>rw[hf]at hcp; cases hcp
     | some y=>
      rw[hf]at hcp;simp only at hcp
      split at hcp
      ·cases hcp; omega
      ·cases hcp
    clear hcp hch hr hok hsz;go_wp2_with fail;refine HCH.out.mono ?_;rintro e w5 ⟨hb5,v5,rfl,hby⟩;obtain⟨_,a5,c5,rfl,-,-,-⟩:=id hby
    obtain⟨m,hm⟩: ∃m,m=bs.length:=⟨_,rfl⟩;have HM:=ab hm;have HB5:=ab (HBA.out.trans (hb5.mono HBA.out.size));have HO5:=ab (ba HOA.out hb5);have HBY:=ab (show aM S w5 1 (.slice a5 m c5) m (bs.map au) by rw[hm]; exact hby);rw[<-hm]at hbl ⊢;have HON:=ab (show ∀u∈bs.map au,u.oneCell'=true from eo bs);have HLE:=ab (show acc.length+m<1099511627775 by omega)
    clear hb5 hby hm p0 p1 p2;go_wp2_with (at_builtin; go_must (refine eY Tryz.appBytes rfl _ _ rfl w.heap.size (.slice ax acc.length cx) acc.length (acc.map au) rfl HO5.out _ m (bs.map au) rfl HBY.out HON.out HLE.out HB5.out.size ?_); intro v6 wz hown6 hgrow6; have HO6:=ab hown6; have HG6:=ab hgrow6; clear hown6 hgrow6)
    go_roundw
    case rel=>
     refine⟨k+1,acc++bs,by omega,by go_num,HFE.out, ?_, ?_,HB5.out.grown HG6.out HB5.out.size (fun k e=>(iz HO5.out e).1)⟩
     ·rw[List.length_append,<-HM.out]; omega
     ·unfold iF;rw[List.length_append,List.map_append,<-HM.out];exact HO6.out
    case measure=>simp[intOf]; omega
  ·have hk2:k=n:=by omega
   subst hk2;go_wp2_with fail
   go_ret2
   refine⟨HB.out, ?_⟩;rw[HF.out,HN.out,List.drop_length];exact⟨_,rfl,HO.out⟩
end Go.Proofs.YtpffpjbkbaleiaaGreatDoor
namespace Go.Proofs.YtpffpjbkbaleiaaGreatDoor
open Go Go.RowKit
theorem qa {l:List aL} (hl:l.length<=1048576) (h: ∀r∈l,dK r=true): ∀k,k<=l.length->0<=dk (l.take k)/\dk (l.take k)<=(k:Int)*32768
 | 0,_=>by simp[dk]
 | k+1,hk=>by
  have ih:=qa hl h k (by omega);have hr:l[k]? =some (l[k]'(by omega)):=by simp
  have hz:=(mf.1 (h _ (List.getElem_mem (by omega:k<l.length)))).2.2.2;rw[bz hr,kF];unfold wrap64;omega
end Go.Proofs.YtpffpjbkbaleiaaGreatDoor
namespace Go.Proofs.YtpffpjbkbaleiaaGreatDoor
open Go.RowKit
def fg (dir name:ByteArray):ByteArray:=if dir.size=0 then name else dir++⟨#[47]⟩++name
def kK (cs:List (ByteArray×List UInt8)) (it:az):List UInt8×Int:=
 if it.kind=1 then(match gU cs it.chunks []with | .error x=>([],x) | .ok bs=>(bs,0))else([],0)
def ey (cs:List (ByteArray×List UInt8)) (rec:ByteArray->aL->List bw->Int×List bw) (dir:ByteArray):List az->List bw->Int×List bw
 | [],acc=>(0,acc)
 | it::r,acc=>
  if bi (bl (fg dir it.name))=true/\acc.length<4096 then
   let acc1:=acc++[⟨fg dir it.name,it.kind,it.mode,it.time,(kK cs it).1,it.link⟩]
   let p:=if it.kind=2 then rec (fg dir it.name) it.node acc1 else((kK cs it).2,acc1)
   if p.1=0 then ey cs rec dir r p.2 else p
  else(2,acc)
def cZ (cs:List (ByteArray×List UInt8)):Nat->ByteArray->aL->List bw->Int×List bw
 | 0,_,_,acc=>(0,acc)
 | f+1,dir,ref,acc=>match dO cs ref with
  | .error x=>(x,acc)
  | .ok l=>ey cs (cZ cs f) dir l acc
def nn (cs:List (ByteArray×List UInt8)) (root:aL):Except Int (List bw):=
 if dK root=true then(if(cZ cs 514 ⟨#[]⟩ root []).1=0 then .ok (cZ cs 514 ⟨#[]⟩ root []).2 else .error (cZ cs 514 ⟨#[]⟩ root []).1)else .error 1
end Go.Proofs.YtpffpjbkbaleiaaGreatDoor
namespace Go.Proofs.YtpffpjbkbaleiaaGreatDoor
open Go.RowKit
def Bj (xs:List ByteArray) (w:World) (e:Ending) (w':World):Prop:=
 ∃a cap,e= .returned (.tuple #[.slice a xs.length cap, .int .i64 0])/\xs.length<=cap/\cap<=maxLen/\jd (w.heap.size<= ·) w' (.slice a xs.length cap) xs/\Below w.heap.size w w'
theorem oq : ∀ {xs ys:List ByteArray},xs.map bl=ys.map bl->xs=ys
 | [],[],_=>rfl
 | [],_::_,h=>by simp at h
 | _::_,[],h=>by simp at h
 | x::xs,y::ys,h=>by
  simp only[List.map_cons,List.cons.injEq]at h;rw[fe h.1,oq h.2]
def jr (l:List UInt8):List ByteArray:=(aT 47 l).map fun p=>⟨p.toArray⟩
theorem zU (l:List UInt8):(jr l).map bl=aT 47 l:=by
 unfold jr;rw[List.map_map];have:(bl ∘ fun p:List UInt8=>(⟨p.toArray⟩:ByteArray))=id:=by funext p; exact dr p
 rw[this,List.map_id]
theorem vN (s:ByteArray) (w:World) (he:gm w) (hv:bi (bl s)=true):Calls Tryz.prog 82 #[.string s] w (Bj (jr (bl s)) w):=by
 refine(kh s w he).mono ?_;rintro e w' (⟨_,v,xs,rfl,hx,hs,hb⟩ | ⟨hf,_⟩)
 ·have:xs=jr (bl s):=oq (hx.trans (zU _).symm);subst this;obtain⟨a,cap,rfl,h1,h2,_⟩:=hs.shape;exact⟨a,cap,rfl,h1,h2,hs,hb⟩
 ·rw[hv]at hf; cases hf
theorem AJ (s:ByteArray) (w:World) (he:gm w) (hv:bi (bl s)=false):Calls Tryz.prog 82 #[.string s] w fun e w'=>e= .returned (.tuple #[.slice none 0 0, .int .i64 1])/\Below w.heap.size w w':=by
 refine(kh s w he).mono ?_;rintro e w' (⟨ht,_⟩ | ⟨_,rfl,hb⟩)
 ·rw[hv]at ht; cases ht
 ·exact⟨rfl,hb⟩
end Go.Proofs.YtpffpjbkbaleiaaGreatDoor
namespace Go.Proofs.YtpffpjbkbaleiaaGreatDoor
open Go.RowKit
def iP (cs:List (ByteArray×List UInt8)):List ByteArray->az->Except Int az
 | [],it=> .ok it
 | c::r,it=>if it.kind=2 then(match dO cs it.node with
  | .error x=> .error x
  | .ok l=>match l.find? (fun y=>decide (y.name=c))with
   | none=> .error 4
   | some y=>iP cs r y)else .error 4
def fZ (root:aL):az:=⟨⟨#[]⟩,2,0,0,0,⟨#[]⟩,[],root⟩
def eK (cs:List (ByteArray×List UInt8)) (root:aL) (path:ByteArray):Except Int az:=
 if bi (bl path)=true/\dK root=true then iP cs (jr (bl path)) (fZ root)else .error 1
end Go.Proofs.YtpffpjbkbaleiaaGreatDoor
namespace Go.Proofs.YtpffpjbkbaleiaaGreatDoor
open Go.RowKit
structure fV (w : World) (base wb eb sb : Nat) (fv v : Value) (ex rs : List aL) : Prop where
 box:w.heap[wb]? =some (.cells #[fv, .map (some eb), .map (some sb),v] 191 (0,0))
 exs:dB w eb ex
 see:dB w sb rs
 row:w.ownsRow base 26 3 v rs.length (rs.flatMap dp)
 ne:eb≠sb
def iI (wb eb sb:Nat) (v:Value) (k:Nat):Prop:=k=wb\/k=eb\/k=sb\/v.ownBlock=some k
section
variable {w w' : World} {base wb eb sb : Nat} {fv v : Value} {ex rs : List aL}
theorem dB.cells {b:Nat} {l:List aL} (h:dB w b l) {cs:Array Value} {t:TypeId} {z:Nat×Nat} :w.heap[b]? ≠some (.cells cs t z):=fun e=>by
 obtain⟨es,clock,hb,_⟩:=h.map;rw[hb]at e; cases e
theorem fV.wne (h:fV w base wb eb sb fv v ex rs):wb≠eb/\wb≠sb:=⟨fun e=>h.exs.cells (e▸h.box),fun e=>h.see.cells (e▸h.box)⟩
theorem aA {e:TypeId} {sz:Nat} {n:Nat} {xs:List Value} {k:Nat} (h:w.ownsRow base e sz v n xs) (hk:v.ownBlock=some k): ∃cs,w.heap[k]? =some (.cells cs e (0,0)):=by
 obtain⟨_,h2⟩:=h
 rcases h2 with⟨rfl,rfl⟩ | ⟨g,cap,cur,rfl,_,hh,_⟩
 ·cases hk
 ·have:g=k:=by simpa [Value.ownBlock]using hk
  subst this;exact⟨cur,hh⟩
theorem fV.own (h:fV w base wb eb sb fv v ex rs) {k:Nat} (hk:v.ownBlock=some k):k≠wb/\k≠eb/\k≠sb:=by
 obtain⟨cs,hc⟩:=aA h.row hk;refine⟨fun e=> ?_,fun e=> ?_,fun e=> ?_⟩
 ·subst e;have:=hc.symm.trans h.box;simp at this
 ·subst e; exact h.exs.cells hc
 ·subst e; exact h.see.cells hc
theorem fV.keep (h:fV w base wb eb sb fv v ex rs) (hs: ∀k,k<w.heap.size->iI wb eb sb v k->w'.heap[k]? =w.heap[k]?):fV w' base wb eb sb fv v ex rs:=by
 refine⟨(hs wb (lt_of_block h.box) (.inl rfl)).trans h.box,h.exs.same (hs eb h.exs.map.lt (.inr (.inl rfl))),h.see.same (hs sb h.see.map.lt (.inr (.inr (.inl rfl)))), ?_,h.ne⟩;obtain⟨hl,h2⟩:=h.row;refine⟨hl, ?_⟩
 rcases h2 with h2 | ⟨g,cap,cur,rfl,hg,hh,h3⟩
 ·exact .inl h2
 ·exact .inr ⟨g,cap,cur,rfl,hg,(hs g (lt_of_block hh) (.inr (.inr (.inr rfl)))).trans hh,h3⟩
theorem fV.below (h:fV w base wb eb sb fv v ex rs) (hb:Below w.heap.size w w'):fV w' base wb eb sb fv v ex rs:=h.keep (fun k hk _=>hb.block k hk)
theorem fV.ok (h:fV w base wb eb sb fv v ex rs): ∀r∈rs,br r:=h.see.ok
theorem fV.shape (h:fV w base wb eb sb fv v ex rs): ∃a cap,v= .slice a rs.length cap:=by
 obtain⟨a,cap,h1,_⟩:=aj h.row;exact⟨a,cap,h1⟩
end
def bg (r:aL) (rs:List aL):List aL:=if r∈rs then rs else rs++[r]
def Bp (base wb eb sb:Nat) (fv v:Value) (ex rs:List aL) (w w':World):Prop:=
 ∃v',fV w' base wb eb sb fv v' ex rs/\bS (iI wb eb sb v) w w'/\ ∀k,v'.ownBlock=some k->v.ownBlock=some k\/w.heap.size<=k
theorem nr (base wb eb sb:Nat) (fv v:Value) (ex rs:List aL) (r:aL) (w:World) (h:fV w base wb eb sb fv v ex rs) (hr:br r) (hl:rs.length<1099511627775) (hbase:base<=w.heap.size):
  Calls Tryz.prog 161 #[.pointer (some ⟨wb,0,none⟩),bF r] w fun e w'=>e= .returned (.tuple #[])/\Bp base wb eb sb fv v ex (bg r rs) w w':=by
 obtain⟨av,cv,rfl⟩:=h.shape;obtain⟨W,hW⟩: ∃W:World,W=(w.alloc (.cells #[.string r.name, .int .i64 r.gen, .int .i64 r.size] 26)).drew:=⟨_,rfl⟩;have hbW:Below w.heap.size w W:=by rw[hW]; exact((Below.refl _ _).alloc (Nat.le_refl _) _).drew
 have HBW:=ab hbW;have HK:=ab (h.below hbW);have bx:W.heap[w.heap.size]? =some (.cells #[.string r.name, .int .i64 r.gen, .int .i64 r.size] 26 (0,0)):=by rw[hW]; exact heap_alloc_new w _
 have HBX:=ab bx;have HR:=ab hr;have HW:=ab hW;have q0:=ai (k:=0) bx;have q1:=ai (k:=1) bx;have q2:=ai (k:=2) bx;have c2:=ai (k:=2) HK.out.box;have hlk:=HK.out.see.look hr;simp only[aN]at q0 q1 q2 c2;have hwb:wb<w.heap.size:=lt_of_block h.box;have H0:=ab h;unfold bF at hlk ⊢;clear h hr bx hbW
 by_cases hm:r∈rs
 ·have e1:decide (r∈rs)=true:=by simp[hm]
  have HM:=ab (show bg r rs=rs by unfold bg; rw[if_pos hm]);rw[e1]at hlk;clear e1 hm
  go_enter Tryz.func161,Tryz.ntmps161
  go_wp2_with fail;refine an [some 7] (by kernel_rfl) (by kernel_rfl) (by kernel_rfl) ?_;simp only[be,List.take_succ_cons,List.take_zero];rw[<-HW.out];clear hW
  repeat (first | (refine aF rfl ?_; simp only[Act.put,aB,aC,aD]) | (refine aJ rfl (fun K hK=> ?_); go_simp; refine hK _ ?_; clear hK K))
  refine aI ?_;go_wp2_with fail
  go_end0
  exact⟨rfl, .slice av rs.length cv,by rw[HM.out]; exact HK.out,bS.of_below HBW.out,fun k hk=> .inl hk⟩
 ·have e1:decide (r∈rs)=false:=by simp[hm]
  have HM:=ab (show bg r rs=rs++[r] by unfold bg; rw[if_neg hm]);have HNM:=ab hm;rw[e1]at hlk;clear e1 hm
  go_enter Tryz.func161,Tryz.ntmps161
  go_wp2_with fail;refine an [some 7] (by kernel_rfl) (by kernel_rfl) (by kernel_rfl) ?_;simp only[be,List.take_succ_cons,List.take_zero];rw[<-HW.out];clear hW
  repeat (first | (refine aF rfl ?_; simp only[Act.put,aB,aC,aD]) | (refine aJ rfl (fun K hK=> ?_); go_simp; refine hK _ ?_; clear hK K))
  refine aI ?_;go_wp2_with fail;refine an [some 5,none] (by kernel_rfl) (by kernel_rfl) (by kernel_rfl) ?_;simp only[be,List.take_succ_cons,List.take_zero,List.drop_succ_cons,List.drop_zero];have HK1:=ab (HK.out.below ((Below.refl _ W).drew))
  repeat (first | (refine aF rfl ?_; simp only[Act.put,aB,aC,aD]) | (refine aJ rfl (fun K hK=> ?_); go_simp; refine hK _ ?_; clear hK K))
  refine aI ?_;refine bA rfl (fun K hK=> ?_);go_wp2_with (at_mapUpdate; go_must (refine fC rfl _ _ _ rfl sb rs HK1.out.see rfl r HR.out rfl rfl HNM.out ?_); intro w2 hset hg2);have hsb:sb<w.heap.size:=H0.out.see.map.lt;have heb:eb<w.heap.size:=H0.out.exs.map.lt;have hbs:=HBW.out.size;obtain⟨W3,hW3⟩: ∃W3:World,W3=w2.drew:=⟨_,rfl⟩;have hg3:W.grownBy W3 (some sb):=by rw[hW3]; exact ak (b:=W.drew) ⟨rfl,rfl,rfl,Nat.le_refl _,fun _ _ _=>rfl⟩ (ak hg2 ⟨rfl,rfl,rfl,Nat.le_refl _,fun _ _ _=>rfl⟩)
  have hz3:=hg3.size;have HSET:=ab (show dB W3 sb (rs++[r]) by rw[hW3]; exact hset.same rfl);have HEX:=ab (HK.out.exs.same (w':=W3) (hg3.block eb HK.out.exs.map.lt (by simp; exact HK.out.ne)));have HROW:=ab (HK.out.row.kept hg3 (.inr (fun e=>(HK.out.own e).2.2 rfl)));have HWB:=ab (eV hg3 HK.out.box HK.out.wne.2);have HRB:=ab (eV hg3 HBX.out (by omega));have HG3:=ab hg3
  have c3:=ai (k:=3) HWB.out;have f3:=ag (k:=3) HWB.out;have r0:=ai (k:=0) HRB.out;have r1:=ai (k:=1) HRB.out;have r2:=ai (k:=2) HRB.out;simp only[aN]at c3 r0 r1 r2;clear q0 q1 q2 c2 hlk hset hg2 hg3;refine bP (fun w'=>w'.cell? ⟨wb,3,none⟩=some (.slice av rs.length cv)/\w'.cell? ⟨w.heap.size,0,none⟩=some (.string r.name)/\w'.cell? ⟨w.heap.size,1,none⟩=some (.int .i64 r.gen)/\w'.cell? ⟨w.heap.size,2,none⟩=some (.int .i64 r.size)) (by kernel_rfl) (by kernel_rfl) ?_
  simp only[List.dropLast_cons_cons,List.dropLast_singleton,List.length_cons,List.length_nil,Nat.reduceAdd,Nat.reduceSub];rw[<-hW3];clear hW3;refine af 0 rfl (by kernel_rfl) (by kernel_rfl) (by kernel_rfl) (fun _ _ _ h=>h) rfl (by go_simp) (by rintro w' ⟨hw1,hw2,hw3,hw4⟩; go_simp; rfl) ?_;simp only[Act.put,aB,aC,aD];refine af 1 rfl (by kernel_rfl) (by kernel_rfl) (by kernel_rfl) (fun _ _ _ h=>h) rfl (by go_simp) (by rintro w' ⟨hw1,hw2,hw3,hw4⟩; go_simp; rfl) ?_
  simp only[Act.put,aB,aC,aD];refine af 2 rfl (by kernel_rfl) (by kernel_rfl) (by kernel_rfl) (fun _ _ _ h=>h) rfl (by go_simp) (by rintro w' ⟨hw1,hw2,hw3,hw4⟩; go_simp; rfl) ?_;simp only[Act.put,aB,aC,aD];refine af 3 rfl (by kernel_rfl) (by kernel_rfl) (by kernel_rfl) (fun _ _ _ h=>h) rfl (by go_simp) (by rintro w' ⟨hw1,hw2,hw3,hw4⟩; go_simp; rfl) ?_;simp only[Act.put,aB,aC,aD]
  refine af 4 rfl (by kernel_rfl) (by kernel_rfl) (by kernel_rfl) (fun _ _ _ h=>h) rfl (by go_simp) (by rintro w' ⟨hw1,hw2,hw3,hw4⟩; go_simp; rfl) ?_;simp only[Act.put,aB,aC,aD];refine af 5 rfl (by kernel_rfl) (by kernel_rfl) (by kernel_rfl) (fun _ _ _ h=>h) rfl (by go_simp) (by rintro w' ⟨hw1,hw2,hw3,hw4⟩; go_simp; rfl) ?_;simp only[Act.put,aB,aC,aD];have hltw:wb<W3.heap.size:=lt_of_block HWB.out
  have hltr:w.heap.size<W3.heap.size:=lt_of_block HRB.out;have HAL:=ab ((Below.refl W3.heap.size W3).alloc (Nat.le_refl _) (.cells #[.string r.name, .int .i64 r.gen, .int .i64 r.size] 26));have hS2:=And.intro ((HAL.out.cell (p:=⟨wb,3,none⟩) hltw).trans c3) (And.intro ((HAL.out.cell (p:=⟨w.heap.size,0,none⟩) hltr).trans r0) (And.intro ((HAL.out.cell (p:=⟨w.heap.size,1,none⟩) hltr).trans r1) ((HAL.out.cell (p:=⟨w.heap.size,2,none⟩) hltr).trans r2)))
  have HS2:=ab hS2;clear hS2;refine ar 6 rfl (by kernel_rfl) rfl (fun K hK=> ?_);go_wp2_with fail
  (first | (refine⟨HS2.out, ?_⟩) | skip)
  refine ar 7 rfl (by kernel_rfl) rfl (fun K hK=> ?_);go_wp2_with (at_builtin; go_must (refine aG Tryz.appRefs rfl _ _ rfl base (.slice av rs.length cv) rs.length (rs.flatMap dp) rfl W3 [.string r.name, .int .i64 r.gen, .int .i64 r.size] _ rfl rfl (jY (r:=r)) HROW.out (by omega) (by omega) ?_); intro v' wc hown' hgrow' _ hpl; obtain⟨ae,ce,rfl,-,-⟩:=aj hown')
  have hne: ∀k,(Value.slice av rs.length cv).ownBlock=some k->k≠wb/\k≠eb/\k≠sb:=fun k hk=>H0.out.own hk
  have hner:(Value.slice av rs.length cv).ownBlock≠some w.heap.size:=fun e=>by have:=(H0.out.row.lt _ e).2; omega
  have HWB2:=ab ((hgrow'.block wb hltw (fun e=>(hne wb e.symm).1 rfl)).trans HWB.out);have HRB2:=ab ((hgrow'.block w.heap.size hltr (fun e=>hner e.symm)).trans HRB.out);have HEX2:=ab (HEX.out.same (hgrow'.block eb HEX.out.map.lt (fun e=>(hne eb e.symm).2.1 rfl)));have HSET2:=ab (HSET.out.same (hgrow'.block sb HSET.out.map.lt (fun e=>(hne sb e.symm).2.2 rfl)));have HGR:=ab hgrow'
  have HPL:=ab hpl;have HOW:=ab (show wc.ownsRow base 26 3 (.slice ae (rs.length+1) ce) (rs++[r]).length ((rs++[r]).flatMap dp) by rw[List.length_append,List.flatMap_append]; simpa [dp]using hown');have c4:=ai (k:=3) HWB2.out;have f4:=ag (k:=3) HWB2.out;have s0:=ai (k:=0) HRB2.out;have s1:=ai (k:=1) HRB2.out;have s2:=ai (k:=2) HRB2.out;simp only[aN]at c4 s0 s1 s2
  clear hown' hgrow' hpl c3 f3 r0 r1 r2 hne hner;refine⟨⟨c4,s0,s1,s2⟩, ?_⟩;refine af 8 rfl (by kernel_rfl) (by kernel_rfl) (by kernel_rfl) (fun _ _ _ h=>h) rfl (by go_simp) (by rintro w' ⟨hw1,hw2,hw3,hw4⟩; go_simp; rfl) ?_;simp only[Act.put,aB,aC,aD];refine af 9 rfl (by kernel_rfl) (by kernel_rfl) (by kernel_rfl) (fun _ _ _ h=>h) rfl (by go_simp) (by rintro w' ⟨hw1,hw2,hw3,hw4⟩; go_simp; rfl) ?_
  simp only[Act.put,aB,aC,aD];refine aV (by kernel_rfl) ?_;refine cb rfl rfl (fun K hK=> ?_);go_wp2_with fail
  go_end0
  refine⟨rfl, .slice ae (rs.length+1) ce, ?_, ?_, ?_⟩
  ·rw[HM.out];have hws:=H0.out.wne;have hx:=cJ (k:=3) HWB2.out (.slice ae (rs.length+1) ce);simp only[List.setIfInBounds_toArray,List.set_cons_succ,List.set_cons_zero]at hx;refine⟨hx,HEX2.out.same (Below.heap_setCell _ _ _ _ (Ne.symm hws.1)),HSET2.out.same (Below.heap_setCell _ _ _ _ (Ne.symm hws.2)),HOW.out.kept (aE _ _ _ _) (.inr (fun e=> ?_)),H0.out.ne⟩
   rcases HPL.out wb e with h1 | h1
   ·exact(H0.out.own h1).1 rfl
   ·omega
  ·refine bS.trans (bS.of_below HBW.out) (bS.trans (S:=iI wb eb sb (.slice av rs.length cv)) (bS.of_grown HG3.out (fun k hk=>by cases hk; exact .inr (.inr (.inl rfl)))) (bS.trans (S:=iI wb eb sb (.slice av rs.length cv)) (bS.of_grown HGR.out (fun k hk=> .inr (.inr (.inr hk)))) (bS.of_grown (S:=iI wb eb sb (.slice av rs.length cv)) (aE wc wb 3 _) (fun k hk=>by cases hk; exact .inl rfl)) (fun i _ h=>h)) (fun i _ h=>h)) (fun i _ h=>h)
  ·intro k hk
   rcases HPL.out k hk with h1 | h1
   ·exact .inl h1
   ·exact .inr (by omega)
end Go.Proofs.YtpffpjbkbaleiaaGreatDoor
namespace Go.Proofs.YtpffpjbkbaleiaaGreatDoor
open Go.RowKit
def cG (cs rs:List aL):List aL:=cs.foldl (fun rs r=>bg r rs) rs
def fH (f:aL->List aL×List aL->Option (Int×(List aL×List aL))):List az->List aL×List aL->Option (Int×(List aL×List aL))
 | [],st=>some (0,st)
 | it::l,st=>if it.kind≠2 then fH f l (st.1,cG it.chunks st.2)else
  (f it.node (st.1,cG it.chunks st.2)).bind fun p=>if p.1≠0 then some p else fH f l p.2
def eA (visit:aL->Except Int (List az)):Nat->aL->List aL×List aL->Option (Int×(List aL×List aL))
 | 0,_,_=>none
 | n+1,r,st=>if r∈st.1 then some (0,(st.1,bg r st.2))else match visit r with
  | .error x=>some (x,(st.1++[r],bg r st.2))
  | .ok l=>fH (eA visit n) l (st.1++[r],bg r st.2)
theorem jT (r:aL) (rs:List aL):rs.length<=(bg r rs).length:=by
 unfold bg
 split
 ·exact Nat.le_refl _
 ·simp
theorem ky : ∀(cs rs:List aL),rs.length<=(cG cs rs).length
 | [],_=>Nat.le_refl _
 | c::cs,rs=>Nat.le_trans (jT c rs) (ky cs (bg c rs))
theorem vg (cs:List aL) (c:aL) (rs:List aL):cG (cs++[c]) rs=bg c (cG cs rs):=by
 unfold cG; rw[List.foldl_append]; rfl
theorem pB (cs rs:List aL) (j:Nat):(cG (cs.take j) rs).length<=(cG cs rs).length:=by
 have:cG cs rs=cG (cs.drop j) (cG (cs.take j) rs):=by
  unfold cG;rw[<-List.foldl_append,List.take_append_drop]
 rw[this];exact ky _ _
theorem gE {f:aL->List aL×List aL->Option (Int×(List aL×List aL))} (hf: ∀r st x st',f r st=some (x,st')->st.2.length<=st'.2.length):
  ∀(l:List az) (st:List aL×List aL) (x:Int) (st':List aL×List aL),fH f l st=some (x,st')->st.2.length<=st'.2.length
 | [],st,x,st',h=>by
  simp only[fH,Option.some.injEq,Prod.mk.injEq]at h;obtain⟨_,rfl⟩:=h;exact Nat.le_refl _
 | it::l,st,x,st',h=>by
  rw[fH]at h
  split at h
  ·exact Nat.le_trans (ky it.chunks st.2) (gE hf l _ x st' h)
  ·rw[Option.bind_eq_some_iff]at h;obtain⟨⟨y,st2⟩,h1,h2⟩:=h;have h3:=hf _ _ _ _ h1;have h4:=ky it.chunks st.2;simp only at h2 h3
   split at h2
   ·simp only[Option.some.injEq,Prod.mk.injEq]at h2;obtain⟨_,rfl⟩:=h2;exact Nat.le_trans h4 h3
   ·exact Nat.le_trans (Nat.le_trans h4 h3) (gE hf l _ x st' h2)
theorem iW (visit:aL->Except Int (List az)): ∀(n:Nat) (r:aL) (st:List aL×List aL) (x:Int) (st':List aL×List aL),eA visit n r st=some (x,st')->st.2.length<=st'.2.length
 | 0,_,_,_,_,h=>by simp[eA]at h
 | n+1,r,st,x,st',h=>by
  have hm:=jT r st.2;rw[eA]at h
  split at h
  ·simp only[Option.some.injEq,Prod.mk.injEq]at h;obtain⟨_,rfl⟩:=h;exact hm
  ·split at h
   ·simp only[Option.some.injEq,Prod.mk.injEq]at h;obtain⟨_,rfl⟩:=h;exact hm
   ·exact Nat.le_trans hm (gE (iW visit n) _ _ x st' h)
def Fg (res:Except Int (List az)) (w:World) (e:Ending) (w':World):Prop:=Below w.heap.size w w'/\match res with
 | .error x=>e= .returned (.tuple #[.slice none 0 0, .int .i64 x])/\x≠0
 | .ok l=> ∃v,e= .returned (.tuple #[v, .int .i64 0])/\aU (w.heap.size<= ·) w' v l
theorem fV.notown {w:World} {base wb eb sb:Nat} {fv v:Value} {ex rs:List aL} (h:fV w base wb eb sb fv v ex rs) {k:Nat} {cs:Array Value} {t:TypeId} {z:Nat×Nat} (hb:w.heap[k]? =some (.cells cs t z)) (h1:t≠191) (h2:t≠26): ¬iI wb eb sb v k:=by
 rintro(e | e | e | e)
 ·subst e;have:=hb.symm.trans h.box;simp at this;exact h1 this.2.1
 ·subst e; exact h.exs.cells hb
 ·subst e; exact h.see.cells hb
 ·obtain⟨cs',hc⟩:=aA h.row e;have:=hb.symm.trans hc;simp at this;exact h2 this.2.1
structure og (w : World) (B h5 h6 base wb eb sb : Nat) (fv v itv : Value) (l : List az) (wr : World) (v2 : Value) (ex rs : List aL) : Prop where
 at':fV wr base wb eb sb fv v2 ex rs
 gr:bS (iI wb eb sb v) w wr
 own: ∀k,v2.ownBlock=some k->v.ownBlock=some k\/w.heap.size<=k
 apart: ∀k,v2.ownBlock=some k->k<h5\/h6<=k
 lo:wb<h5/\eb<h5/\sb<h5
 ord:w.heap.size<=h5/\h5<=h6/\h6<=wr.heap.size
 its:aU (fun k=>h5<=k/\k<h6) wr itv l
theorem aU.same {S:Nat->Prop} {w w':World} {v:Value} {l:List az} (h:aU S w v l) (hs: ∀k,k<w.heap.size->S k->w'.heap[k]? =w.heap[k]?):aU S w' v l:=by
 obtain⟨cells,hr,hin⟩:=h;have h2:=hr.mono (T:=fun k=>k<w.heap.size/\S k) (fun k hk hS=>⟨hk,hS⟩) (by omega);have h3:=h2.same (w':=w') (fun k hk=>hs k hk.1 hk.2);exact⟨cells,h3.weak (fun k hk=>hk.2),hin.mono (fun c x _ hx=>hx.same (fun k hk hS=>⟨hS,hs k hk hS⟩))⟩
section
variable {w wr w' : World} {B h5 h6 base wb eb sb : Nat} {fv v itv v2 v3 : Value} {l : List az} {ex rs ex3 rs3 : List aL}
theorem og.below (h:og w B h5 h6 base wb eb sb fv v itv l wr v2 ex rs) (hb:Below wr.heap.size wr w'):og w B h5 h6 base wb eb sb fv v itv l w' v2 ex rs:=
 ⟨h.at'.below hb,h.gr.trans (bS.of_below hb (S:=fun _=>False)) (fun _ _ h=>False.elim h),h.own,h.apart,h.lo,⟨h.ord.1,h.ord.2.1,Nat.le_trans h.ord.2.2 hb.size⟩,h.its.below hb⟩
theorem og.notown (h:og w B h5 h6 base wb eb sb fv v itv l wr v2 ex rs) {k:Nat} (hk:h5<=k/\k<h6): ¬iI wb eb sb v2 k:=by
 have:=h.lo;rintro(e | e | e | e)
 ·omega
 ·omega
 ·omega
 ·have:=h.apart k e; omega
theorem og.step (h:og w B h5 h6 base wb eb sb fv v itv l wr v2 ex rs) (hr:Bp base wb eb sb fv v2 ex3 rs3 wr w'): ∃v3,og w B h5 h6 base wb eb sb fv v itv l w' v3 ex3 rs3/\bS (iI wb eb sb v2) wr w':=by
 obtain⟨v3,h1,h2,h3⟩:=hr;have hz:=h.gr.size;refine⟨v3,⟨h1,h.gr.trans h2 (fun i hi ho=> ?_),fun k hk=> ?_,fun k hk=> ?_,h.lo,⟨h.ord.1,h.ord.2.1,Nat.le_trans h.ord.2.2 h2.size⟩,h.its.same (fun k hk hS=>h2.block k hk (h.notown hS))⟩,h2⟩
 ·rcases ho with e | e | e | e
  ·exact .inl e
  ·exact .inr (.inl e)
  ·exact .inr (.inr (.inl e))
  ·rcases h.own i e with e | e
   ·exact .inr (.inr (.inr e))
   ·omega
 ·rcases h3 k hk with e | e
  ·exact h.own k e
  ·exact .inr (by omega)
 ·rcases h3 k hk with e | e
  ·exact h.apart k e
  ·have:=h.ord; exact .inr (by omega)
end
end Go.Proofs.YtpffpjbkbaleiaaGreatDoor
namespace Go.Proofs.YtpffpjbkbaleiaaGreatDoor
open Go.RowKit
def Bo (visit:aL->Except Int (List az)) (F:Nat) (cv:Value) (I:World->Prop) (B n:Nat):Prop:= ∀(r:aL) (st:List aL×List aL) (x:Int) (st':List aL×List aL) (base wb eb sb:Nat) (v:Value) (w:World),eA visit n r st=some (x,st')->st'.2.length<1099511627775->
 fV w base wb eb sb (.func (.func F) #[cv] #[]) v st.1 st.2->br r->I w->(B<=base/\B<=wb/\B<=eb/\B<=sb)->base<=w.heap.size->
 Calls Tryz.prog 133 #[.pointer (some ⟨wb,0,none⟩),bF r] w fun e w'=>e= .returned (.int .i64 x)/\Bp base wb eb sb (.func (.func F) #[cv] #[]) v st'.1 st'.2 w w'
def Bn (visit:aL->Except Int (List az)) (F:Nat) (cv:Value) (I:World->Prop):Prop:= ∀(W:World) (r:aL),I W->br r->Calls Tryz.prog F #[cv,bF r] W (Fg (visit r) W)
def xQ (I:World->Prop) (B:Nat):Prop:= ∀w w':World,I w->bS (B<= ·) w w'->I w'
theorem xn {B base wb eb sb:Nat} {w:World} {fv v:Value} {ex rs:List aL} (h:fV w base wb eb sb fv v ex rs) (hB:B<=base/\B<=wb/\B<=eb/\B<=sb) {k:Nat} (hk:iI wb eb sb v k):B<=k:=by
 rcases hk with e | e | e | e
 ·omega
 ·omega
 ·omega
 ·have:=(h.row.lt k e).1; omega
theorem oU {S T:Nat->Prop} {w w':World} (h:bS S w w') (hs: ∀k,S k->T k):bS T w w':=⟨h.os,h.tape,h.output,h.size,fun k hk hn=>h.block k hk (fun hS=>hn (hs k hS))⟩
theorem aU.lt {S:Nat->Prop} {w:World} {v:Value} {l:List az} (h:aU S w v l):aU (fun k=>S k/\k<w.heap.size) w v l:=by
 obtain⟨cells,hr,hin⟩:=h;exact⟨cells,hr.mono (fun k hk hS=>⟨hS,hk⟩) (by omega),hin.mono (fun c x _ hx=>hx.same (fun k hk hS=>⟨⟨hS,hk⟩,rfl⟩))⟩
theorem pG {f:aL->List aL×List aL->Option (Int×(List aL×List aL))} {it:az} {l:List az} {ex rs:List aL} {q:Int×(List aL×List aL)} (h:fH f (it::l) (ex,rs)=some q):
  (it.kind≠2/\fH f l (ex,cG it.chunks rs)=some q)\/(it.kind=2/\ ∃y st2,f it.node (ex,cG it.chunks rs)=some (y,st2)/\((y≠0/\q=(y,st2))\/(y=0/\fH f l st2=some q))):=by
 rw[fH]at h
 split at h
 ·rename_i hk;exact .inl ⟨hk,h⟩
 ·rename_i hk;rw[Option.bind_eq_some_iff]at h;obtain⟨⟨y,st2⟩,h1,h2⟩:=h;refine .inr ⟨Decidable.not_not.1 hk,y,st2,h1, ?_⟩;simp only at h2
  split at h2
  ·rename_i hy;exact .inl ⟨hy,(Option.some.inj h2).symm⟩
  ·rename_i hy;exact .inr ⟨Decidable.not_not.1 hy,h2⟩
theorem zR {visit:aL->Except Int (List az)} {n:Nat} {it:az} {l:List az} {ex rs:List aL} {x:Int} {st':List aL×List aL} (h:fH (eA visit n) (it::l) (ex,rs)=some (x,st')):(cG it.chunks rs).length<=st'.2.length:=by
 rcases pG h with⟨_,h2⟩ | ⟨_,y,st2,h1,h2⟩
 ·exact gE (iW visit n) l _ x st' h2
 ·have h3:=iW visit n _ _ _ _ h1
  rcases h2 with⟨_,h2⟩ | ⟨_,h2⟩
  ·obtain⟨_,rfl⟩:=Prod.mk.inj h2;exact h3
  ·exact Nat.le_trans h3 (gE (iW visit n) l _ x st' h2)
end Go.Proofs.YtpffpjbkbaleiaaGreatDoor
namespace Go.Proofs.YtpffpjbkbaleiaaGreatDoor
open Go.RowKit
def lN (visit:aL->Except Int (List az)) (n:Nat) (root:aL):Option (Except Int (List aL)):=
 if dK root=true then(eA visit n root ([],[])).map fun p=>if p.1=0 then .ok p.2.2 else .error p.1 else some (.error 1)
def sF (res:Except Int (List aL)) (w:World) (e:Ending) (w':World):Prop:=Below w.heap.size w w'/\match res with
 | .error x=>e= .returned (.tuple #[.slice none 0 0, .int .i64 x])/\x≠0
 | .ok rs=> ∃v,e= .returned (.tuple #[v, .int .i64 0])/\aQ (w.heap.size<= ·) w' v rs
theorem Ds {w:World} {B:Nat} {fv:Value} :fV (((w.alloc (.map #[] 0)).alloc (.map #[] 0)).alloc (.cells #[fv, .map (some w.heap.size), .map (some (w.heap.size+1)), .slice none 0 0] 191)) B (w.heap.size+1+1) w.heap.size (w.heap.size+1) fv (.slice none 0 0) [] []:=by
 have e1:(w.alloc (.map #[] 0)).heap.size=w.heap.size+1:=by simp
 have e2:((w.alloc (.map #[] 0)).alloc (.map #[] 0)).heap.size=w.heap.size+1+1:=by simp
 have h1:=dB.made w;have h2:=dB.made (w.alloc (.map #[] 0));rw[e1]at h2;have h3:=heap_alloc_new ((w.alloc (.map #[] 0)).alloc (.map #[] 0)) (.cells #[fv, .map (some w.heap.size), .map (some (w.heap.size+1)), .slice none 0 0] 191);rw[e2]at h3;refine⟨h3, ?_,h2.same (Below.heap_alloc _ _ _ (by rw[e2]; omega)),World.ownsRow_nil _ _ _ _,by omega⟩;exact h1.same ((Below.heap_alloc _ _ _ (by rw[e2]; omega)).trans (Below.heap_alloc _ _ _ (by rw[e1]; omega)))
structure fa (B : Nat) (cv : Value) (cs : List (ByteArray × List UInt8)) (w : World) : Prop where
 cont:bR (· <B) w cv cs
 env:gm w
 lt:1<B/\3<B/\4<B
 size:B<=w.heap.size
theorem aM.lt' {S:Nat->Prop} {w:World} {sz:Nat} {v:Value} {n:Nat} {cells:List Value} (h:aM S w sz v n cells) (hs:0<sz):aM (· <w.heap.size) w sz v n cells:=h.mono (fun _ hk _=>hk) hs
theorem bR.lt {S:Nat->Prop} {w:World} {cv:Value} {cs:List (ByteArray×List UInt8)} (h:bR S w cv cs):bR (· <w.heap.size) w cv cs:=by
 rcases h with h | ⟨b,m,h1,h0,h2,h3⟩
 ·exact .inl h
 ·refine .inr ⟨b,m,h1,h2.lt,h2, ?_⟩;clear h1 h2 h0
  induction m generalizing cs with
  | nil=>cases cs with
   | nil=>trivial
   | cons=>exact h3
  | cons p m ih=>cases cs with
   | nil=>exact h3
   | cons q cs=>exact⟨h3.1,aM.lt' h3.2.1 (by omega),ih h3.2.2⟩
theorem fa.keep {B:Nat} {cv:Value} {cs:List (ByteArray×List UInt8)} :xQ (fa B cv cs) B:=by
 intro w w' h hg;have hb:Below B w w':=hg.below h.size (fun k hk=>hk);refine⟨?_,h.env.belowB hb h.lt.1 h.lt.2.1 h.lt.2.2,h.lt,Nat.le_trans h.size hg.size⟩
 rcases h.cont with h1 | ⟨b,m,h1,h0,h2,h3⟩
 ·exact .inl h1
 ·exact .inr ⟨b,m,h1,h0,h2.same (hb.block b h0),h3.mono (fun v bs hv=>aM.same hv (fun k hk=>hb.block k hk))⟩
theorem fa.visit {B:Nat} {cv:Value} {cs:List (ByteArray×List UInt8)} :Bn (dO cs) 83 cv (fa B cv cs):=fun W r hI hr=>(lO (· <B) cv cs r W hI.cont hr hI.env).mono fun _ _ h=>h
theorem fa.start {S:Nat->Prop} {w:World} {cv:Value} {cs:List (ByteArray×List UInt8)} (h:bR S w cv cs) (he:gm w):fa w.heap.size cv cs w:=⟨h.lt,he,he.lt,Nat.le_refl _⟩
end Go.Proofs.YtpffpjbkbaleiaaGreatDoor
namespace Go.Proofs.YtpffpjbkbaleiaaGreatDoor
open Go.RowKit
theorem lP : ∀ {l U:List aL},l.Nodup->(∀x∈l,x∈U)->l.length<=U.length
 | [],_,_,_=>Nat.zero_le _
 | a::l,U,hn,hs=>by
  obtain⟨h1,h2⟩:=List.nodup_cons.1 hn;have ha:a∈U:=hs a (by simp);have h3:=lP (l:=l) (U:=U.erase a) h2 (fun x hx=>(List.mem_erase_of_ne (fun e=>by subst e; exact h1 hx)).2 (hs x (by simp[hx])));have h4:=List.length_erase_of_mem ha;have h5:0<U.length:=List.length_pos_of_mem ha;simp only[List.length_cons];omega
def jO (it:az):List aL:=it.chunks++[it.node]
def Fx (l:List az):List aL:=l.flatMap jO
def kX (cs:List (ByteArray×List UInt8)):List aL:=cs.flatMap fun p=>match bm p.2 with
 | some l=>Fx l
 | none=>[]
theorem zt {cs:List (ByteArray×List UInt8)} {n:ByteArray} {bs:List UInt8} (h:dt cs n=some bs): ∃k,(k,bs)∈cs:=by
 induction cs with
 | nil=>simp[dt]at h
 | cons p cs ih=>
  obtain⟨k,b⟩:=p;simp only[dt]at h
  split at h
  ·simp only[Option.some.injEq]at h; subst h; exact⟨k,by simp⟩
  ·obtain⟨k',hk⟩:=ih h;exact⟨k',by simp[hk]⟩
theorem rK {cs:List (ByteArray×List UInt8)} {r:aL} {l:List az} (h:dO cs r= .ok l): ∃k bs,(k,bs)∈cs/\bm bs=some l:=by
 unfold dO at h
 cases hc:dY cs r with
 | error x=>rw[hc]at h; simp at h
 | ok bs=>
  rw[hc]at h;simp only at h
  cases hi:bm bs with
  | none=>rw[hi]at h; simp at h
  | some l'=>
   rw[hi]at h;simp only[Except.ok.injEq]at h;subst h;unfold dY at hc
   cases hf:dt cs r.name with
   | none=>rw[hf]at hc; simp at hc
   | some b=>
    rw[hf]at hc;simp only at hc
    split at hc
    ·simp only[Except.ok.injEq]at hc; subst hc;obtain⟨k,hk⟩:=zt hf;exact⟨k,b,hk,hi⟩
    ·simp at hc
theorem xj {cs:List (ByteArray×List UInt8)} {r:aL} {l:List az} (h:dO cs r= .ok l) {it:az} (hit:it∈l): ∀c∈jO it,c∈kX cs:=fun c hc=>by
 obtain⟨k,bs,h1,h2⟩:=rK h;refine List.mem_flatMap.2 ⟨(k,bs),h1, ?_⟩;simp only[h2];exact List.mem_flatMap.2 ⟨it,hit,hc⟩
structure ql (U : List aL) (st : List aL × List aL) : Prop where
 e1:st.1.Nodup
 e2: ∀x∈st.1,x∈U
 l1:st.2.Nodup
 l2: ∀x∈st.2,x∈U
theorem jU {r:aL} {rs:List aL} (h:rs.Nodup):(bg r rs).Nodup:=by
 unfold bg
 split
 ·exact h
 ·rename_i hm;exact List.nodup_append.2 ⟨h,by simp,fun a ha b hb e=>by simp only[List.mem_singleton]at hb; subst hb e; exact hm ha⟩
theorem lL {r x:aL} {rs:List aL} :x∈bg r rs<->x∈rs\/x=r:=by
 unfold bg
 split
 ·rename_i hm;exact⟨.inl,fun h=>by rcases h with h | rfl; exact h; exact hm⟩
 ·simp
theorem lK : ∀(cs:List aL) {rs:List aL},rs.Nodup->(cG cs rs).Nodup
 | [],_,h=>h
 | _c::cs,_,h=>lK cs (jU h)
theorem pA : ∀(cs:List aL) {rs:List aL} {x:aL},x∈cG cs rs<->x∈rs\/x∈cs
 | [],rs,x=>by simp[cG]
 | c::cs,rs,x=>by
  show x∈cG cs (bg c rs)<->_
  rw[pA cs,lL,List.mem_cons,or_assoc]
theorem ql.men {U:List aL} {st:List aL×List aL} (h:ql U st) {cs:List aL} (hc: ∀c∈cs,c∈U):ql U (st.1,cG cs st.2):=
 ⟨h.e1,h.e2,lK cs h.l1,fun x hx=>by
  rcases(pA cs).1 hx with hx | hx
  ·exact h.l2 x hx
  ·exact hc x hx⟩
def ES (U:List aL) (f:aL->List aL×List aL->Option (Int×(List aL×List aL))) (n:Nat):Prop:= ∀r st,r∈U->ql U st->U.length<n+st.1.length-> ∃x st',f r st=some (x,st')/\ql U st'/\st.1.length<=st'.1.length
theorem lj {U:List aL} {f:aL->List aL×List aL->Option (Int×(List aL×List aL))} {n:Nat} (hf:ES U f n):
  ∀(l:List az) (st:List aL×List aL),(∀it∈l,∀c∈jO it,c∈U)->ql U st->U.length<n+st.1.length-> ∃x st',fH f l st=some (x,st')/\ql U st'/\st.1.length<=st'.1.length
 | [],st,_,hi,_=>⟨0,st,rfl,hi,Nat.le_refl _⟩
 | it::l,st,hl,hi,hn=>by
  have hi2:=hi.men (cs:=it.chunks) (fun c hc=>hl it (by simp) _ (by simp[jO,hc]));rw[fH]
  split
  ·exact lj hf l _ (fun x hx=>hl x (by simp[hx])) hi2 hn
  ·obtain⟨x,st2,h1,h2,h3⟩:=hf it.node _ (hl it (by simp) _ (by simp[jO])) hi2 hn;rw[h1,Option.bind_some];simp only at h3
   split
   ·exact⟨x,st2,rfl,h2,h3⟩
   ·obtain⟨y,st3,k1,k2,k3⟩:=lj hf l st2 (fun x hx=>hl x (by simp[hx])) h2 (by omega);exact⟨y,st3,k1,k2,Nat.le_trans h3 k3⟩
def mV (cs:List (ByteArray×List UInt8)):Nat:=(kX cs).length+2
theorem zn {data:List UInt8} {s s1:RS} {it:az} (h:dl data s=some (it,s1)):it.chunks.length<=963:=by
 unfold dl dE at h
 split at h
 ·simp only[Option.some.injEq,Prod.mk.injEq]at h;obtain⟨rfl,_⟩:=h;simp only[kU];exact oG _ _ _
 ·split at h
  ·simp only[Option.some.injEq,Prod.mk.injEq]at h;obtain⟨rfl,_⟩:=h;simp
  ·split at h
   ·simp only[Option.some.injEq,Prod.mk.injEq]at h;obtain⟨rfl,_⟩:=h;simp
   ·simp at h
theorem rC {data:List UInt8} {s0:RS} : ∀ {k:Nat} {l:List az} {s:RS},bZ data s0 k=some (l,s)->l.length=k/\ ∀it∈l,it.chunks.length<=963
 | 0,l,s,h=>by
  simp only[bZ,Option.some.injEq,Prod.mk.injEq]at h;obtain⟨rfl,_⟩:=h;exact⟨rfl,by simp⟩
 | k+1,l,s,h=>by
  rw[dF,Option.bind_eq_some_iff]at h;obtain⟨⟨l0,s1⟩,h1,h2⟩:=h;rw[Option.map_eq_some_iff]at h2;obtain⟨⟨it,s2⟩,h3,h4⟩:=h2;simp only[Prod.mk.injEq]at h4;obtain⟨rfl,_⟩:=h4;obtain⟨k1,k2⟩:=rC h1;refine⟨by simp[k1],fun x hx=> ?_⟩
  rcases List.mem_append.1 hx with hx | hx
  ·exact k2 x hx
  ·simp only[List.mem_singleton]at hx; subst hx; exact zn h3
theorem rE {data:List UInt8} {l:List az} (h:bm data=some l):l.length<=4096/\ ∀it∈l,it.chunks.length<=963:=by
 unfold bm at h
 split at h
 ·simp at h
 ·rw[Option.bind_eq_some_iff]at h;obtain⟨⟨l0,s1⟩,h1,h2⟩:=h
  split at h2
  ·simp only[Option.some.injEq]at h2;subst h2;obtain⟨k1,k2⟩:=rC h1;exact⟨by rw[k1]; exact oG _ _ _,k2⟩
  ·simp at h2
theorem fF {α β:Type} (f:α->List β) (m:Nat): ∀(l:List α),(∀x∈l,(f x).length<=m)->(l.flatMap f).length<=l.length*m
 | [],_=>by simp
 | a::l,h=>by
  have h1:=fF f m l (fun x hx=>h x (by simp[hx]));have h2:=h a (by simp);rw[List.flatMap_cons,List.length_append,List.length_cons,Nat.succ_mul];omega
theorem zr {cs:List (ByteArray×List UInt8)} :(kX cs).length<=cs.length*3948544:=fF _ _ cs (fun p _=>by
 cases h:bm p.2 with
 | none=>simp
 | some l=>
  obtain⟨h1,h2⟩:=rE h;simp only;have h3:=fF jO 964 l (fun it hit=>by have:=h2 it hit; simp[jO]; omega);exact Nat.le_trans h3 (Nat.le_trans (Nat.mul_le_mul_right 964 h1) (by decide)))
theorem pC {cs:List (ByteArray×List UInt8)} {r:aL} {l:List az} (h:dO cs r= .ok l):l.length<=4096/\bV l=true/\ ∀it∈l,it.chunks.length<=963:=by
 obtain⟨k,bs,_,h2⟩:=rK h;have h3:=rE h2;refine⟨h3.1, ?_,h3.2⟩;unfold bm at h2
 split at h2
 ·simp at h2
 ·rw[Option.bind_eq_some_iff]at h2;obtain⟨⟨l0,s1⟩,_,h4⟩:=h2
  split at h4
  ·rename_i h5;simp only[Option.some.injEq]at h4;subst h4;exact h5.2
  ·simp at h4
end Go.Proofs.YtpffpjbkbaleiaaGreatDoor
namespace Go.Proofs.YtpffpjbkbaleiaaGreatDoor
open Go Go.RowKit
def eP (w:World) (base eb:Nat) (v:Value) (acc:List bw):Prop:=
 w.heap[eb]? =some (.cells #[v] 46 (0,0))/\ ∃ys:List je,ys.map Prod.snd=acc/\w.ownsRow base 79 6 v ys.length (cW ys)/\ ∀y∈ys,w.ownsRow base 5 1 y.1 y.2.data.length (y.2.data.map au)
structure kQ (base eb : Nat) (v v' : Value) (w w' : World) : Prop where
 below:Below base w w'
 same: ∀k,k<w.heap.size->k≠eb->v.ownBlock≠some k->w'.heap[k]? =w.heap[k]?
 place: ∀k,v'.ownBlock=some k->v.ownBlock=some k\/w.heap.size<=k
theorem kQ.refl (base eb:Nat) (v:Value) (w:World):kQ base eb v v w w:=⟨Below.refl _ _,fun _ _ _ _=>rfl,fun _ h=> .inl h⟩
theorem kQ.trans {base eb:Nat} {v v1 v2:Value} {A B C:World} (h:kQ base eb v v1 A B) (k:kQ base eb v1 v2 B C) (hs:A.heap.size<=B.heap.size):kQ base eb v v2 A C:=
 ⟨h.below.trans k.below,fun i h1 h2 h3=>(k.same i (by omega) h2 (fun e=>by
  rcases h.place i e with e2 | e2
  ·exact h3 e2
  ·omega)).trans (h.same i h1 h2 h3),fun i e=>by
  rcases k.place i e with e2 | e2
  ·exact h.place i e2
  ·exact .inr (by omega)⟩
theorem kQ.ofBelow {base eb:Nat} {v:Value} {w w':World} (h:Below w.heap.size w w') (hb:base<=w.heap.size):kQ base eb v v w w':=⟨h.mono hb,fun k h1 _ _=>h.block k h1,fun _ e=> .inl e⟩
theorem eP.below {w w':World} {base eb:Nat} {v:Value} {acc:List bw} (h:eP w base eb v acc) (hb:Below w.heap.size w w'):eP w' base eb v acc:=by
 obtain⟨h1,ys,h2,h3,h4⟩:=h;exact⟨(hb.block _ (lt_of_block h1)).trans h1,ys,h2,ba h3 hb,fun y hy=>ba (h4 y hy) hb⟩
theorem aK {w:World} {k:Nat} {cs cs':Array Value} {t t':TypeId} {z z':Nat×Nat} (h:w.heap[k]? =some (.cells cs t z)) (h':w.heap[k]? =some (.cells cs' t' z')):t=t':=by
 have:=h.symm.trans h';simp at this;exact this.2.1
theorem dx {w w':World} {base sz n:Nat} {e:TypeId} {v:Value} {xs:List Value} (h:w.ownsRow base e sz v n xs) (hs: ∀k,k<w.heap.size->v.ownBlock=some k->w'.heap[k]? =w.heap[k]?):w'.ownsRow base e sz v n xs:=by
 obtain⟨hl,h2⟩:=h;refine⟨hl, ?_⟩
 rcases h2 with h2 | ⟨g,cap,cur,rfl,hg,hh,h3⟩
 ·exact .inl h2
 ·exact .inr ⟨g,cap,cur,rfl,hg,(hs g (lt_of_block hh) rfl).trans hh,h3⟩
theorem eP.push {w w2:World} {base eb:Nat} {v v' dv:Value} {ys:List je} {e:bw} (hx:w.heap[eb]? =some (.cells #[v] 46 (0,0))) (hr:w.ownsRow base 79 6 v ys.length (cW ys)) (hd: ∀y∈ys,w.ownsRow base 5 1 y.1 y.2.data.length (y.2.data.map au)) (hn:w.ownsRow base 5 1 dv e.data.length (e.data.map au))
  (hown:w2.ownsRow base 79 6 v' (ys.length+1) (cW ys++oQ dv e)) (hg:w.grownBy w2 v.ownBlock) (hpl: ∀k,v'.ownBlock=some k->v.ownBlock=some k\/w.heap.size<=k) (hbe:base<=eb) (hbz:base<=w.heap.size):
  eP (w2.setCell ⟨eb,0,none⟩ v') base eb v' (ys.map Prod.snd++[e])/\kQ base eb v v' w (w2.setCell ⟨eb,0,none⟩ v'):=by
 have hlt:=lt_of_block hx;have hne:v.ownBlock≠some eb:=fun h=>by
  obtain⟨cs,hc⟩:=aA hr h;exact absurd (aK hx hc) (by decide)
 have hne':v'.ownBlock≠some eb:=fun h=>by
  rcases hpl eb h with h | h
  ·exact hne h
  ·omega
 have hb2:=(hg.block eb hlt (fun h=>hne h.symm)).trans hx;have hdat: ∀(u:Value) (bs:List UInt8),w.ownsRow base 5 1 u bs.length (bs.map au)->(w2.setCell ⟨eb,0,none⟩ v').ownsRow base 5 1 u bs.length (bs.map au):=by
  intro u bs h;refine dx h (fun k hk hu=> ?_);obtain⟨cs,hc⟩:=aA h hu;rw[Below.heap_setCell _ _ _ _ (show k≠eb from fun e=>absurd (aK (e▸hc) hx) (by decide))];refine hg.block k hk (fun e=> ?_);obtain⟨cs2,hc2⟩:=aA hr e.symm;exact absurd (aK hc hc2) (by decide)
 refine⟨⟨?_,ys++[(dv,e)],by simp, ?_,fun y hy=> ?_⟩,⟨?_,fun k hk h1 h2=> ?_,hpl⟩⟩
 ·have:=cJ (k:=0) hb2 v'
  simpa using this
 ·rw[List.length_append,List.length_singleton,oR];exact hown.kept (aE _ _ _ _) (.inr (fun h=>hne' h))
 ·rcases List.mem_append.1 hy with hy | hy
  ·exact hdat _ _ (hd y hy)
  ·rw[List.mem_singleton]at hy;subst hy;exact hdat _ _ hn
 ·exact((Below.refl base w).grown hg hbz (fun k hk=>(hr.lt k hk).1)).grown (aE w2 eb 0 v') (Nat.le_trans hbz hg.size) (fun k hk=>by cases hk; exact hbe)
 ·rw[Below.heap_setCell _ _ _ _ (show k≠eb from h1)];exact hg.block k hk (fun e=>h2 e.symm)
structure nC (w : World) (h5 h6 base eb : Nat) (v itv : Value) (l : List az) (wr : World) (v2 : Value) (acc : List bw) : Prop where
 box:eP wr base eb v2 acc
 kp:kQ base eb v v2 w wr
 apart: ∀k,v2.ownBlock=some k->k<h5\/h6<=k
 lo:eb<h5
 ord:w.heap.size<=h5/\h5<=h6/\h6<=wr.heap.size
 its:aU (fun k=>h5<=k/\k<h6) wr itv l
theorem nC.step {w wr w':World} {h5 h6 base eb:Nat} {v itv v2 v3:Value} {l:List az} {acc acc3:List bw} (h:nC w h5 h6 base eb v itv l wr v2 acc) (h1:eP w' base eb v3 acc3) (h2:kQ base eb v2 v3 wr w'):nC w h5 h6 base eb v itv l w' v3 acc3:=by
 have ho:=h.ord;have hl:=h.lo;have hz:=h2.below.size;refine⟨h1,h.kp.trans h2 (by omega),fun k hk=> ?_,hl,⟨ho.1,ho.2.1,by omega⟩,h.its.same (fun k hk hS=>h2.same k hk (by omega) (fun e=> ?_))⟩
 ·rcases h2.place k hk with e | e
  ·exact h.apart k e
  ·exact .inr (by omega)
 ·have:=h.apart k e;omega
theorem nC.below {w wr w':World} {h5 h6 base eb:Nat} {v itv v2:Value} {l:List az} {acc:List bw} (h:nC w h5 h6 base eb v itv l wr v2 acc) (hb:Below wr.heap.size wr w') (hbz:base<=wr.heap.size):nC w h5 h6 base eb v itv l w' v2 acc:=
 h.step (h.box.below hb) (kQ.ofBelow hb hbz)
end Go.Proofs.YtpffpjbkbaleiaaGreatDoor
namespace Go.Proofs.YtpffpjbkbaleiaaGreatDoor
open Go Go.RowKit
theorem CS {w:World} {b:Nat} {a0 a1 a2 x0 x1 x2:Value} {t:TypeId} (h:w.heap[b]? =some (.cells #[a0,a1,a2] t (0,0))):
  (((w.setCell ⟨b,0,none⟩ x0).setCell ⟨b,1,none⟩ x1).setCell ⟨b,2,none⟩ x2).heap[b]? =some (.cells #[x0,x1,x2] t (0,0)):=by
 have:=cJ (k:=2) (cJ (k:=1) (cJ (k:=0) h x0) x1) x2
 simpa using this
theorem CQ {w:World} {b:Nat} {a0 a1 a2 a3 a4 a5 a6 a7 a8 a9 x0 x1 x2 x3 x4 x5 x6 x7 x8 x9:Value} {t:TypeId} (h:w.heap[b]? =some (.cells #[a0,a1,a2,a3,a4,a5,a6,a7,a8,a9] t (0,0))):
  ((((((((((w.setCell ⟨b,0,none⟩ x0).setCell ⟨b,1,none⟩ x1).setCell ⟨b,2,none⟩ x2).setCell ⟨b,3,none⟩ x3).setCell ⟨b,4,none⟩ x4).setCell ⟨b,5,none⟩ x5).setCell ⟨b,6,none⟩ x6).setCell ⟨b,7,none⟩ x7).setCell ⟨b,8,none⟩ x8).setCell ⟨b,9,none⟩ x9).heap[b]? =some (.cells #[x0,x1,x2,x3,x4,x5,x6,x7,x8,x9] t (0,0)):=by
 have:=cJ (k:=9) (cJ (k:=8) (cJ (k:=7) (cJ (k:=6) (cJ (k:=5) (cJ (k:=4) (cJ (k:=3) (cJ (k:=2) (cJ (k:=1) (cJ (k:=0) (h) x0) x1) x2) x3) x4) x5) x6) x7) x8) x9
 simpa using this
theorem dh {B b:Nat} {a w:World} {x0 x1 x2:Value} (h:Below B a w) (hb:B<=b):Below B a (((w.setCell ⟨b,0,none⟩ x0).setCell ⟨b,1,none⟩ x1).setCell ⟨b,2,none⟩ x2):=(Below.setCell (Below.setCell (Below.setCell h hb x0) hb x1) hb x2)
theorem dC {B b:Nat} {a w:World} {x0 x1 x2 x3 x4 x5 x6 x7 x8 x9:Value} (h:Below B a w) (hb:B<=b):Below B a ((((((((((w.setCell ⟨b,0,none⟩ x0).setCell ⟨b,1,none⟩ x1).setCell ⟨b,2,none⟩ x2).setCell ⟨b,3,none⟩ x3).setCell ⟨b,4,none⟩ x4).setCell ⟨b,5,none⟩ x5).setCell ⟨b,6,none⟩ x6).setCell ⟨b,7,none⟩ x7).setCell ⟨b,8,none⟩ x8).setCell ⟨b,9,none⟩ x9):=(Below.setCell (Below.setCell (Below.setCell (Below.setCell (Below.setCell (Below.setCell (Below.setCell (Below.setCell (Below.setCell (Below.setCell h hb x0) hb x1) hb x2) hb x3) hb x4) hb x5) hb x6) hb x7) hb x8) hb x9)
theorem bK {b k:Nat} {w:World} {x0 x1 x2:Value} (hk:k≠b):(((w.setCell ⟨b,0,none⟩ x0).setCell ⟨b,1,none⟩ x1).setCell ⟨b,2,none⟩ x2).heap[k]? =w.heap[k]? :=(Below.heap_setCell _ _ _ _ hk).trans ((Below.heap_setCell _ _ _ _ hk).trans (Below.heap_setCell _ _ _ _ hk))
theorem lg {b k:Nat} {w:World} {x0 x1 x2 x3 x4 x5 x6 x7 x8 x9:Value} (hk:k≠b):((((((((((w.setCell ⟨b,0,none⟩ x0).setCell ⟨b,1,none⟩ x1).setCell ⟨b,2,none⟩ x2).setCell ⟨b,3,none⟩ x3).setCell ⟨b,4,none⟩ x4).setCell ⟨b,5,none⟩ x5).setCell ⟨b,6,none⟩ x6).setCell ⟨b,7,none⟩ x7).setCell ⟨b,8,none⟩ x8).setCell ⟨b,9,none⟩ x9).heap[k]? =w.heap[k]? :=(Below.heap_setCell _ _ _ _ hk).trans ((Below.heap_setCell _ _ _ _ hk).trans ((Below.heap_setCell _ _ _ _ hk).trans ((Below.heap_setCell _ _ _ _ hk).trans ((Below.heap_setCell _ _ _ _ hk).trans ((Below.heap_setCell _ _ _ _ hk).trans ((Below.heap_setCell _ _ _ _ hk).trans ((Below.heap_setCell _ _ _ _ hk).trans ((Below.heap_setCell _ _ _ _ hk).trans (Below.heap_setCell _ _ _ _ hk)))))))))
def oY (c:ByteArray):List az->Nat->Int
 | [],_=> -1
 | x::t,k=>if x.name=c then(k:Int)else oY c t (k+1)
theorem rz {c:ByteArray} {l:List az} {k:Nat} {x:az} (h:l[k]? =some x):oY c (l.drop k) k=if x.name=c then(k:Int)else oY c (l.drop (k+1)) (k+1):=by
 obtain⟨hk,rfl⟩:=List.getElem?_eq_some_iff.1 h;rw[List.drop_eq_getElem_cons hk,oY]
theorem rA (c:ByteArray): ∀(l:List az) (k:Nat),(l.find? (fun y=>decide (y.name=c))=none/\oY c l k= -1)\/ ∃(j:Nat) (y:az),l[j]? =some y/\l.find? (fun y=>decide (y.name=c))=some y/\oY c l k=((k+j:Nat):Int)
 | [],_=> .inl ⟨rfl,rfl⟩
 | x::t,k=>by
  by_cases h:x.name=c
  ·exact .inr ⟨0,x,rfl,by rw[List.find?_cons_of_pos (by simp[h])],by rw[oY,if_pos h]; rfl⟩
  ·rw[List.find?_cons_of_neg (by simp[h]),oY,if_neg h]
   rcases rA c t (k+1)with⟨h1,h2⟩ | ⟨j,y,h1,h2,h3⟩
   ·exact .inl ⟨h1,h2⟩
   ·exact .inr ⟨j+1,y,by simpa using h1,h2,by rw[h3]; congr 1; omega⟩
theorem rI (it:az) (cv:Value) (c:ByteArray) (pb:Nat) (w:World) (hc:w.cell? ⟨pb,0,none⟩=some (.string c)):
  Calls Tryz.prog 85 #[fm cv it, .pointer (some ⟨pb,0,none⟩)] w fun e w'=>e= .returned (.bool (decide (it.name=c)))/\Below w.heap.size w w':=by
 have hlt:=aR hc;simp only at hlt;have hne: ¬pb=w.heap.size:=by omega
 unfold fm
 go_enter Tryz.func85,Tryz.ntmps85
 go_wp2_with fail;go_ret;refine⟨am ?_,(Below.refl _ _).alloc (Nat.le_refl _) _⟩;rw[Bool.eq_iff_iff];simp only[ci,beq_iff_eq,decide_eq_true_eq];exact⟨fun h=>fe h,fun h=>by rw[h]⟩
theorem qv (S:Nat->Prop) (l:List az) (c:ByteArray) (pb:Nat) (v:Value) (w:World) (hv:aU S w v l) (hc:w.cell? ⟨pb,0,none⟩=some (.string c)):
  Calls Tryz.prog 84 #[v, .func (.func 85) #[] #[.pointer (some ⟨pb,0,none⟩)]] w fun e w'=>e= .returned (.int .i64 (oY c l 0))/\Below w.heap.size w w':=by
 obtain⟨a,cap,rfl,hcp,hm,-⟩:=aP.shape hv dz.len;unfold maxLen at hm;have HV:=ab hv;have HC:=ab hc;clear hv hc
 go_enter Tryz.func84,Tryz.ntmps84
 go_wp2_with fail
 go_loopw [8] (fun i wr=> ∃k:Nat,k<=l.length/\i= .int .i64 k/\Below w.heap.size w wr/\oY c l 0=oY c (l.drop k) k) (fun i _=>l.length-(intOf i).toNat)
 case atStart=>exact⟨0,Nat.zero_le _,rfl,Below.refl _ _,rfl⟩
 case round=>
  obtain⟨k,hk,rfl,hb,hd⟩:=hrel;have HB:=ab hb;have HD:=ab hd;clear hb hd
  by_cases hlt:k<l.length
  ·obtain⟨it,hr⟩: ∃it,l[k]? =some it:=⟨l[k],by simp[hlt]⟩;obtain⟨b,o,ca,cc,rfl,-,-,hbl,-,hcl⟩:=dM HV.out HB.out hr;have q0:=hcl 0 (by omega);have q1:=hcl 1 (by omega);have q2:=hcl 2 (by omega);have q3:=hcl 3 (by omega);have q4:=hcl 4 (by omega);have q5:=hcl 5 (by omega);have q6:=hcl 6 (by omega);have q7:=hcl 7 (by omega);have q8:=hcl 8 (by omega);have q9:=hcl 9 (by omega)
   simp only[cL,AY,Nat.add_zero]at q0 q1 q2 q3 q4 q5 q6 q7 q8 q9;have HC2:=ab ((HB.out.cell (p:=⟨pb,0,none⟩) (aR HC.out)).trans HC.out);have HR:=ab hr;clear hcl hr
   by_cases hin:it.name=c
   ·have HIN:=ab hin;clear hin;go_wp2_with (go_at_call 85; refine(rI it (.slice ca it.chunks.length cc) c pb _ HC2.out).mono ?_; rintro e w1 ⟨rfl,hb1⟩; rw[decide_eq_true HIN.out]; have HB1:=ab hb1; clear hb1);go_ret;exact⟨cr (by rw[HD.out,rz HR.out,if_pos HIN.out]),ah HB.out HB1.out⟩
   ·have HIN:=ab hin;clear hin;go_wp2_with (go_at_call 85; refine(rI it (.slice ca it.chunks.length cc) c pb _ HC2.out).mono ?_; rintro e w1 ⟨rfl,hb1⟩; rw[decide_eq_false HIN.out]; have HB1:=ab hb1; clear hb1)
    go_roundw
    case rel=>exact⟨k+1,by omega,by go_num,ah HB.out HB1.out,by rw[HD.out,rz HR.out,if_neg HIN.out]⟩
    case measure=>simp[intOf]; omega
  ·go_wp2_with fail;go_ret;exact⟨cr (by rw[HD.out,List.drop_eq_nil_of_le (by omega)]; rfl),HB.out⟩
end Go.Proofs.YtpffpjbkbaleiaaGreatDoor
namespace Go.Proofs.YtpffpjbkbaleiaaGreatDoor
open Go.RowKit
theorem uo (a:Option Addr) (c:Nat) (w:World):(convert 29 9 (.slice a 0 c)).run Tryz.prog w= .ok (.string ⟨#[]⟩) w:=by cases a<;> kernel_rfl
theorem zp {S:Nat->Prop} {w:World} {v:Value} {bs:List UInt8} (hd:bC S w v bs):(convert 29 9 v).run Tryz.prog w= .ok (.string (strOfNums (bs.map fun b=>(b.toNat:Int)))) w:=by
 obtain⟨_,a,cap,rfl,hn,hm,h0⟩:=hd
 rcases h0 with h0 | ⟨b,o,rfl,_,hc⟩
 ·obtain rfl:=List.eq_nil_of_length_eq_zero h0;exact uo a cap w
 ·exact run_convert_bytes_arg (P:=Tryz.prog) w 29 5 Tryz.underlying29 Tryz.underlying5 b o bs.length cap (bs.map fun b=>(b.toNat:Int)) (by simp) (fun i hi=>by
   rw[hc i (u8V bs[i]) (by simp[hi])];simp[u8V,List.getD,hi]) 9 Tryz.underlying9
end Go.Proofs.YtpffpjbkbaleiaaGreatDoor
namespace Go.Proofs.YtpffpjbkbaleiaaGreatDoor
open Go.RowKit Go.Maps
theorem eM (p q:ByteArray) (w:World) (he:gm w) (hv:bi (bl p)=true) (hq:q=⟨(aS (bl p)).toArray⟩):
  Calls Tryz.prog 72 #[.string p] w fun e w'=>e= .returned (.tuple #[.string q, .bool true])/\Below w.heap.size w w':=by
 rw[hq]; exact xo p w he hv
theorem nT (q:ByteArray):q.toList.isEmpty=decide (bl q=[]):=by rw[ci,Bool.eq_iff_iff]; simp
end Go.Proofs.YtpffpjbkbaleiaaGreatDoor
namespace Go.Proofs.YtpffpjbkbaleiaaGreatDoor
open Go.RowKit Go.Maps
theorem kG (S:Nat->Prop) (en:bw) (v:Value) (b:Bool) (w:World) (hd:bC S w v en.data) (hok:gO en) (henv:gm w) (h:iC en=b):Calls Tryz.prog 117 #[Fk v en] w fun e w'=>e= .returned (.bool b)/\Below w.heap.size w w':=by
 rw[<-h]; exact xH S en v w hd hok henv
end Go.Proofs.YtpffpjbkbaleiaaGreatDoor
namespace Go.Proofs.YtpffpjbkbaleiaaGreatDoor
open Go.RowKit Go.Maps
theorem qV : ∀ {m pre:List bw} (r:List bw),Tr (pre++m)->ir pre (m++r)=ir (pre++m) r
 | [],pre,r,_=>by simp
 | e::m,pre,r,h=>by
  have h1:Tr (pre++[e]):=Tr.pre (M:=m) (by simpa using h);have h2:=(jG h1.pre e).2 h1;have h3:=qV (m:=m) (pre:=pre++[e]) r (by simpa using h);rw[List.cons_append,ir,if_pos h2,h3];simp
theorem ue {L:List bw} (hl:L.length<=4096) {k:Nat} (h:Tr (L.take k)):cR L=ir (L.take k) (L.drop k):=by
 have h1:=qV (m:=L.take k) (pre:=[]) (L.drop k) (by simpa using h);rw[List.take_append_drop,List.nil_append]at h1;unfold cR;rw[if_neg (by omega),h1]
theorem ri {α:Type} {L:List α} {k:Nat} {e:α} (h:L[k]? =some e):L.drop k=e::L.drop (k+1):=by
 obtain⟨h1,h2⟩:=List.getElem?_eq_some_iff.1 h;rw[List.drop_eq_getElem_cons h1,h2]
theorem fq {L:List bw} (hl:L.length<=4096) {k:Nat} (h:Tr (L.take k)) {e:bw} (he:L[k]? =some e) {x:Int} (hx:cM (L.take k) e=x) (h0:x≠0):cR L=x:=by
 rw[ue hl h,ri he,ir,hx,if_neg h0]
theorem jg {L:List bw} {k:Nat} (h:Tr (L.take k)) {e:bw} (he:L[k]? =some e) (hx:cM (L.take k) e=0):Tr (L.take (k+1)):=by
 rw[List.take_add_one,he];exact(jG h e).1 hx
theorem wu {L:List bw} (hl:L.length<=4096) (h:Tr (L.take L.length)):cR L=0:=by
 rw[ue hl h,List.drop_length]; rfl
theorem zm {L:List bw} (hl:4096<L.length):cR L=2:=by unfold cR; rw[if_pos hl]
def pw (e:bw):Value×Value:=(.string e.path, .int .i64 e.kind)
theorem eL :Tryz.prog.underlying 47=some (.map 9 3):=Tryz.underlying47
theorem xh (w:World) (n:Nat) (hn:n<=4096):(Instr.makeMap 47 (some (.int .i64 (n:Int)))).run Tryz.prog w= .ok (.map (some w.heap.size)) (w.alloc (.map #[] 0)):=by
 have h1:IntKind.i64.wrap (n:Int)=n:=by rw[IntKind.wrap_i64]; omega
 simp[Instr.makeMap,asInt,asIntOf]
theorem ku {w:World} {mb:Nat} {M:List bw} (h:cO Tryz.prog 9 w mb (M.map pw)) {p:ByteArray} (hp:p.size<=maxLen) {f:bw} (hf:gV M p=some f):
  (Instr.lookup 47 (.map (some mb)) (.string p) true).run Tryz.prog w= .ok (.tuple #[.int .i64 f.kind, .bool true]) w:=by
 obtain⟨h1,h2⟩:=kZ hf;have h3:(Value.string p,Value.int .i64 f.kind)∈M.map pw:=List.mem_map.2 ⟨f,h1,by rw[<-h2]; rfl⟩;have:=h.is.hit bN eL (cE hp) h3 true
 simpa only[if_true]using this
theorem px {w:World} {mb:Nat} {M:List bw} (h:cO Tryz.prog 9 w mb (M.map pw)) {p:ByteArray} (hp:p.size<=maxLen) (hf:gV M p=none):
  (Instr.lookup 47 (.map (some mb)) (.string p) true).run Tryz.prog w= .ok (.tuple #[.int .i64 0, .bool false]) w:=by
 have hz:(zeroValue 3).run Tryz.prog w= .ok (.int .i64 0) w:=by kernel_rfl
 have:=h.is.miss bN eL hz (cE hp) (fun q hq e=>by
  obtain⟨x,hx,rfl⟩:=List.mem_map.1 hq;simp only[pw,Value.string.injEq]at e;exact oT hf x hx e) true
 simpa only[if_true]using this
theorem kw {M:List bw} {e:bw} (h:Tr (M++[e])): ∀q∈M.map pw,q.1≠Value.string e.path:=by
 intro q hq hc;obtain⟨x,hx,rfl⟩:=List.mem_map.1 hq;simp only[pw,Value.string.injEq]at hc;have hn:=h.ord.nodup;rw[List.map_append,List.nodup_append]at hn;exact hn.2.2 x.path (List.mem_map.2 ⟨x,hx,rfl⟩) e.path (by simp) hc
theorem re (a b:ByteArray) (o:Int) (w:World) (ha:a.size<=maxLen) (h:cP (bl a) (bl b)=o):Calls Tryz.prog 118 #[.string a, .string b] w fun e w'=>e= .returned (.int .i64 o)/\Below w.heap.size w w':=by
 rw[<-h]; exact ul a b w (by unfold maxLen at ha; omega)
theorem Br {L:List bw} {k:Nat} {f e:bw} (hf:L[k]? =some f):jF (L.take (k+1)) e=decide (cP (bl f.path) (bl e.path)<0):=by
 have:(L.take (k+1)).getLast? =some f:=by rw[List.take_add_one,hf]; simp
 unfold jF;rw[this]; rfl
end Go.Proofs.YtpffpjbkbaleiaaGreatDoor
namespace Go.Proofs.YtpffpjbkbaleiaaGreatDoor
open Go.RowKit Go.Maps
def Fd (L:List bw) (mb:Nat) (w:World) (k:Nat) (wr:World):Prop:=Tr (L.take k)/\cO Tryz.prog 9 wr mb ((L.take k).map pw)/\Below w.heap.size w wr
theorem zk (S:Nat->Prop) (L:List bw) (v:Value) (w:World) (hv:dH S w v L) (henv:gm w):Calls Tryz.prog 71 #[v] w fun e w'=>e= .returned (.int .i64 (cR L))/\Below w.heap.size w w':=by
 have HV:=ab hv;have HE:=ab henv;obtain⟨a,cap,rfl,hc,hm,-⟩:=aP.shape hv qj.len;unfold maxLen at hm;obtain⟨n,hn⟩: ∃n,n=L.length:=⟨_,rfl⟩;have HN:=ab hn;rw[<-hn]at hc HV ⊢;clear hv henv
 by_cases hbig:4096<n
 ·have hbi:(4096:Int)<(n:Int):=by omega
  have HC:=ab (zm (by rw[<-hn]; exact hbig));clear hbig hn
  go_enter Tryz.func71,Tryz.ntmps71
  go_wp2_with fail;go_ret;exact⟨cr (by rw[HC.out]),Below.refl _ _⟩
 ·have hbi:(n:Int)<=(4096:Int):=by omega
  have hmk:=xh w n (by omega);have HL4:=ab (show L.length<=4096 by omega);clear hbig hn
  go_enter Tryz.func71,Tryz.ntmps71
  go_wp2_with fail;obtain⟨W0,hW0⟩: ∃W0,W0=w.alloc (.map #[] 0):=⟨_,rfl⟩;rw[<-hW0];have HM0:=ab (show cO Tryz.prog 9 W0 w.heap.size [] by rw[hW0]; exact cO.made w);have HB0:=ab (show Below w.heap.size w W0 by rw[hW0]; exact(Below.refl _ _).alloc (Nat.le_refl _) _);clear hW0;clear hmk
  go_loopw [18] (fun i wr=> ∃k:Nat,k<=n/\i= .int .i64 k/\Fd L w.heap.size w k wr) (fun i _=>n-(intOf i).toNat)
  case atStart=>exact⟨0,Nat.zero_le _,rfl,⟨List.Pairwise.nil,by simp,by simp⟩,HM0.out,HB0.out⟩
  case round=>
   obtain⟨k,hk,rfl,htr,hkm,hbr⟩:=hrel;have HTR:=ab htr;have HKM:=ab hkm;have HBR:=ab hbr;clear htr hkm hbr
   by_cases hlt:k<n
   ·obtain⟨e,he⟩: ∃e,L[k]? =some e:=⟨L[k]'(by rw[<-HN.out]; exact hlt),by simp⟩;obtain⟨b,o,dv,rfl,-,hb,hd,hok,-,q0,q1,q2,q3,q4,q5⟩:=kr (HV.out.below HBR.out) he;have HAT:=ab he;have HD:=ab hd;have HOK:=ab hok;obtain⟨a1,cap1,rfl,hd1,hd2⟩:=hd.slice;unfold maxLen at hd2;clear he hd hok
    cases hve:iC e
    ·have HVE:=ab hve;have HCA:=ab (show cM (L.take k) e=1 by unfold cM; rw[hve]; rfl);clear hve;go_wp2_with fail;obtain⟨W,hW⟩: ∃W,W=wr.alloc (.cells #[.string e.path, .int .i64 e.kind, .int .i64 e.mode, .int .i64 e.time, .slice a1 e.data.length cap1, .string e.link] 79):=⟨_,rfl⟩;rw[<-hW];have HX:=ab (show W.heap[wr.heap.size]? =some (.cells #[.string e.path, .int .i64 e.kind, .int .i64 e.mode, .int .i64 e.time, .slice a1 e.data.length cap1, .string e.link] 79 (0,0)) by rw[hW]; exact bX wr _)
     have HWL:=ab (show Below wr.heap.size wr W by rw[hW]; exact(Below.refl _ _).alloc (Nat.le_refl _) _);have HBW:=ab (ah HBR.out HWL.out);clear hW;refine(kG S e _ false _ (HD.out.below HWL.out) HOK.out (HE.out.below HBW.out) HVE.out).mono ?_;rintro e7 w7 ⟨rfl,hb7⟩;have HB9:=ab (ah HBW.out hb7);clear hb7;go_wp2_with fail;go_ret;exact⟨cr (by rw[fq HL4.out HTR.out HAT.out (x:=1) HCA.out (by decide)]),HB9.out⟩
    ·have HVE:=ab hve;obtain⟨q,hq⟩: ∃q:ByteArray,q=⟨(aS (bl e.path)).toArray⟩:=⟨_,rfl⟩;have HBQ:=ab (show bl q=aS (bl e.path) by rw[hq]; exact dr _);have HQ:=ab hq;have HQS:=ab (show q.size<=maxLen by
      have h1:=gF (bL hve);have h2:=xI (bL hve);rw[ay,HBQ.out]; unfold maxLen; omega)
     clear hve hq
     rcases Nat.eq_zero_or_pos k with hk0 | hk0
     ·have e9:decide (0<k)=false:=by simp; omega
      have e8:(k:Int)<=0:=by omega
      have HCV:=ab (show(iC e && jF (L.take k) e)=true by rw[hk0,HVE.out]; rfl);clear hk0;go_wp2_with fail;obtain⟨W,hW⟩: ∃W,W=wr.alloc (.cells #[.string e.path, .int .i64 e.kind, .int .i64 e.mode, .int .i64 e.time, .slice a1 e.data.length cap1, .string e.link] 79):=⟨_,rfl⟩;rw[<-hW];have HX:=ab (show W.heap[wr.heap.size]? =some (.cells #[.string e.path, .int .i64 e.kind, .int .i64 e.mode, .int .i64 e.time, .slice a1 e.data.length cap1, .string e.link] 79 (0,0)) by rw[hW]; exact bX wr _)
      have HWL:=ab (show Below wr.heap.size wr W by rw[hW]; exact(Below.refl _ _).alloc (Nat.le_refl _) _);have HBW:=ab (ah HBR.out HWL.out);clear hW;refine(kG S e _ true _ (HD.out.below HWL.out) HOK.out (HE.out.below HBW.out) HVE.out).mono ?_;rintro e7 w7 ⟨rfl,hb7⟩;have HX7:=ab ((hb7.block wr.heap.size (nD HX.out)).trans HX.out);have HL7:=ab (HWL.out.trans (hb7.mono HWL.out.size))
      have c0:=aa (k:=0) HX7.out;have c1:=aa (k:=1) HX7.out;have c2:=aa (k:=2) HX7.out;have c3:=aa (k:=3) HX7.out;have c4:=aa (k:=4) HX7.out;have c5:=aa (k:=5) HX7.out;simp only[aN]at c0 c1 c2 c3 c4 c5;clear hb7;go_wp2_with fail;refine an [some 11,none,some 2] (by kernel_rfl) (by kernel_rfl) (by kernel_rfl) ?_;simp only[be,List.take_succ_cons,List.take_zero,List.drop_succ_cons,List.drop_zero]
      obtain⟨wd,hwd⟩: ∃wd:World,wd=w7.drew:=⟨_,rfl⟩;rw[<-hwd];have HLD:=ab (show Below wr.heap.size wr wd by rw[hwd]; exact HL7.out.trans ((Below.refl w7.heap.size w7).drew.mono HL7.out.size));have HXD:=ab (show wd.heap[wr.heap.size]? =some (.cells #[.string e.path, .int .i64 e.kind, .int .i64 e.mode, .int .i64 e.time, .slice a1 e.data.length cap1, .string e.link] 79 (0,0)) by rw[hwd]; exact HX7.out)
      clear hwd c0 c1 c2 c3 c4 c5;have c0:=aa (k:=0) HXD.out;have c1:=aa (k:=1) HXD.out;have c2:=aa (k:=2) HXD.out;have c3:=aa (k:=3) HXD.out;have c4:=aa (k:=4) HXD.out;have c5:=aa (k:=5) HXD.out;simp only[aN]at c0 c1 c2 c3 c4 c5
      repeat (first | (refine aF rfl ?_; simp only[Act.put,aB,aC,aD]) | (refine aJ rfl (fun K hK=> ?_); go_simp; refine hK _ ?_; clear hK K))
      refine aI ?_;refine Bu rfl ?_;simp only[Act.put,aB,aC,aD]
      repeat (first | (refine aF rfl ?_; simp only[Act.put,aB,aC,aD]) | (refine aJ rfl (fun K hK=> ?_); go_simp; refine hK _ ?_; clear hK K))
      refine aI ?_;clear c0 c1 c2 c3 c4 c5;have HL8:=ab HLD.out;have HX8:=ab HXD.out;have HB8:=ab (ah HBR.out HLD.out);have c0:=aa (k:=0) HX8.out;have c1:=aa (k:=1) HX8.out;have c2:=aa (k:=2) HX8.out;have c3:=aa (k:=3) HX8.out;have c4:=aa (k:=4) HX8.out;have c5:=aa (k:=5) HX8.out;simp only[aN]at c0 c1 c2 c3 c4 c5;go_wp2_with fail
      by_cases h0:aS (bl e.path)=[]
      ·have e1:q.toList.isEmpty=true:=by rw[nT,HBQ.out,decide_eq_true h0]
       have HTN:=ab (jg HTR.out HAT.out (show cM (L.take k) e=0 by unfold cM; rw[if_pos HCV.out]; unfold lF; rw[if_pos h0]));clear h0;refine(eM e.path q _ (HE.out.below HB8.out) (bL HVE.out) HQ.out).mono ?_;rintro e9 w9 ⟨rfl,hb9⟩;have HL9:=ab (HL8.out.trans (hb9.mono HL8.out.size));have HB9:=ab (ah HB8.out hb9);have HX9:=ab ((hb9.block wr.heap.size (nD HX8.out)).trans HX8.out)
       have HK9:=ab (HKM.out.same (HL9.out.block w.heap.size HKM.out.lt));clear hb9;have c0:=aa (k:=0) HX9.out;have c1:=aa (k:=1) HX9.out;have c2:=aa (k:=2) HX9.out;have c3:=aa (k:=3) HX9.out;have c4:=aa (k:=4) HX9.out;have c5:=aa (k:=5) HX9.out;simp only[aN]at c0 c1 c2 c3 c4 c5;go_wp2_with (at_mapUpdate; go_must (refine el bN rfl _ _ _ _ rfl eL w.heap.size _ HK9.out rfl (.string e.path) (.int .i64 e.kind) rfl rfl (cE HOK.out.pth) (kw (by have h1:=HTN.out; rw[List.take_add_one,HAT.out]at h1; exact h1)) ?_); intro w10 hm10 hg10)
       have HM10:=ab hm10;have HG10:=ab hg10;clear hm10 hg10 c0 c1 c2 c3 c4 c5;go_wp2_with fail
       go_roundw
       case rel=>
        refine⟨k+1,by omega,by go_num,HTN.out, ?_, ?_⟩
        ·rw[List.take_add_one,HAT.out,List.map_append]; exact HM10.out
        ·exact HB9.out.grown HG10.out HB9.out.size (fun k e=>by cases e; exact Nat.le_refl _)
       case measure=>simp[intOf]; omega
      ·have e1:q.toList.isEmpty=false:=by rw[nT,HBQ.out,decide_eq_false h0]
       have HDI:=ab (show ∀x,(match gV (L.take k) q with | none=>(4:Int) | some f=>if f.kind=2 then 0 else 13)=x->cM (L.take k) e=x from fun x hx=>by unfold cM; rw[if_pos HCV.out]; unfold lF; rw[if_neg h0,<-HQ.out]; exact hx);clear h0
       cases hf:gV (L.take k) q with
       | none=>
        have HF:=ab hf;have HCA:=ab (HDI.out 4 (by rw[hf]));clear hf;refine(eM e.path q _ (HE.out.below HB8.out) (bL HVE.out) HQ.out).mono ?_;rintro e9 w9 ⟨rfl,hb9⟩;have HL9:=ab (HL8.out.trans (hb9.mono HL8.out.size));have HB9:=ab (ah HB8.out hb9);have HX9:=ab ((hb9.block wr.heap.size (nD HX8.out)).trans HX8.out);have HK9:=ab (HKM.out.same (HL9.out.block w.heap.size HKM.out.lt))
        clear hb9;have c0:=aa (k:=0) HX9.out;have c1:=aa (k:=1) HX9.out;have c2:=aa (k:=2) HX9.out;have c3:=aa (k:=3) HX9.out;have c4:=aa (k:=4) HX9.out;have c5:=aa (k:=5) HX9.out;simp only[aN]at c0 c1 c2 c3 c4 c5;have hlk:=px HK9.out HQS.out HF.out;go_wp2_with fail;go_ret;exact⟨cr (by rw[fq HL4.out HTR.out HAT.out (x:=4) HCA.out (by decide)]),HB9.out⟩
       | some f=>
        have HF:=ab hf
        by_cases hk2:f.kind=2
        ·have e3:(f.kind != 2)=false:=by simp[hk2]
         have HTN:=ab (jg HTR.out HAT.out (HDI.out 0 (by rw[hf]; simp only[if_pos hk2])));clear hf hk2;refine(eM e.path q _ (HE.out.below HB8.out) (bL HVE.out) HQ.out).mono ?_;rintro e9 w9 ⟨rfl,hb9⟩;have HL9:=ab (HL8.out.trans (hb9.mono HL8.out.size));have HB9:=ab (ah HB8.out hb9);have HX9:=ab ((hb9.block wr.heap.size (nD HX8.out)).trans HX8.out);have HK9:=ab (HKM.out.same (HL9.out.block w.heap.size HKM.out.lt))
         clear hb9;have c0:=aa (k:=0) HX9.out;have c1:=aa (k:=1) HX9.out;have c2:=aa (k:=2) HX9.out;have c3:=aa (k:=3) HX9.out;have c4:=aa (k:=4) HX9.out;have c5:=aa (k:=5) HX9.out;simp only[aN]at c0 c1 c2 c3 c4 c5;have hlk:=ku HK9.out HQS.out HF.out;go_wp2_with (at_mapUpdate; go_must (refine el bN rfl _ _ _ _ rfl eL w.heap.size _ HK9.out rfl (.string e.path) (.int .i64 e.kind) rfl rfl (cE HOK.out.pth) (kw (by have h1:=HTN.out; rw[List.take_add_one,HAT.out]at h1; exact h1)) ?_); intro w10 hm10 hg10)
         have HM10:=ab hm10;have HG10:=ab hg10;clear hm10 hg10 c0 c1 c2 c3 c4 c5;go_wp2_with fail
         go_roundw
         case rel=>
          refine⟨k+1,by omega,by go_num,HTN.out, ?_, ?_⟩
          ·rw[List.take_add_one,HAT.out,List.map_append]; exact HM10.out
          ·exact HB9.out.grown HG10.out HB9.out.size (fun k e=>by cases e; exact Nat.le_refl _)
         case measure=>simp[intOf]; omega
        ·have e3:(f.kind != 2)=true:=by simp[hk2]
         have HCA:=ab (HDI.out 13 (by rw[hf]; simp only[if_neg hk2]));clear hf hk2;refine(eM e.path q _ (HE.out.below HB8.out) (bL HVE.out) HQ.out).mono ?_;rintro e9 w9 ⟨rfl,hb9⟩;have HL9:=ab (HL8.out.trans (hb9.mono HL8.out.size));have HB9:=ab (ah HB8.out hb9);have HX9:=ab ((hb9.block wr.heap.size (nD HX8.out)).trans HX8.out);have HK9:=ab (HKM.out.same (HL9.out.block w.heap.size HKM.out.lt))
         clear hb9;have c0:=aa (k:=0) HX9.out;have c1:=aa (k:=1) HX9.out;have c2:=aa (k:=2) HX9.out;have c3:=aa (k:=3) HX9.out;have c4:=aa (k:=4) HX9.out;have c5:=aa (k:=5) HX9.out;simp only[aN]at c0 c1 c2 c3 c4 c5;have hlk:=ku HK9.out HQS.out HF.out;go_wp2_with fail;go_ret;exact⟨cr (by rw[fq HL4.out HTR.out HAT.out (x:=13) HCA.out (by decide)]),HB9.out⟩
     ·obtain⟨j,rfl⟩: ∃j,k=j+1:=⟨k-1,by omega⟩;obtain⟨f,hf⟩: ∃f,L[j]? =some f:=⟨L[j]'(by rw[<-HN.out]; omega),by simp⟩;obtain⟨b',o',dv',he',-,-,-,hokf,-,p0,-⟩:=kr (HV.out.below HBR.out) hf;simp only[Option.some.injEq,Addr.mk.injEq,and_true]at he';obtain⟨rfl,rfl⟩:=he';have HPF:=ab hokf.pth;obtain⟨c,hc⟩: ∃c,cP (bl f.path) (bl e.path)=c:=⟨_,rfl⟩
      have HC:=ab hc;have e9:decide (0<j+1)=true:=by simp
      have hjn:j<n:=by omega
      have hjn2:(j:Int)<(n:Int):=by omega
      have hjn3:decide (j<n)=true:=by simp; omega
      have hwj:IntKind.i64.wrap (j:Int)=j:=by rw[IntKind.wrap_i64]; omega
      have HAF:=ab (show jF (L.take (j+1)) e=decide (c<0) by rw[Br hf,hc]);clear hf hokf hc hk0
      by_cases hneg:c<0
      ·have HCV:=ab (show(iC e && jF (L.take (j+1)) e)=true by rw[HVE.out,HAF.out,decide_eq_true hneg]; rfl);have e8:decide (0<=c)=false:=by simp; omega
       go_wp2_with fail;obtain⟨W,hW⟩: ∃W,W=wr.alloc (.cells #[.string e.path, .int .i64 e.kind, .int .i64 e.mode, .int .i64 e.time, .slice a1 e.data.length cap1, .string e.link] 79):=⟨_,rfl⟩;rw[<-hW];have HX:=ab (show W.heap[wr.heap.size]? =some (.cells #[.string e.path, .int .i64 e.kind, .int .i64 e.mode, .int .i64 e.time, .slice a1 e.data.length cap1, .string e.link] 79 (0,0)) by rw[hW]; exact bX wr _)
       have HWL:=ab (show Below wr.heap.size wr W by rw[hW]; exact(Below.refl _ _).alloc (Nat.le_refl _) _);have HBW:=ab (ah HBR.out HWL.out);clear hW;refine(kG S e _ true _ (HD.out.below HWL.out) HOK.out (HE.out.below HBW.out) HVE.out).mono ?_;rintro e7 w7 ⟨rfl,hb7⟩;have HX7:=ab ((hb7.block wr.heap.size (nD HX.out)).trans HX.out);have HL7:=ab (HWL.out.trans (hb7.mono HWL.out.size))
       have c0:=aa (k:=0) HX7.out;have c1:=aa (k:=1) HX7.out;have c2:=aa (k:=2) HX7.out;have c3:=aa (k:=3) HX7.out;have c4:=aa (k:=4) HX7.out;have c5:=aa (k:=5) HX7.out;simp only[aN]at c0 c1 c2 c3 c4 c5;clear hb7;go_wp2_with fail;refine an [some 11,none,some 2] (by kernel_rfl) (by kernel_rfl) (by kernel_rfl) ?_;simp only[be,List.take_succ_cons,List.take_zero,List.drop_succ_cons,List.drop_zero]
       obtain⟨wd,hwd⟩: ∃wd:World,wd=w7.drew:=⟨_,rfl⟩;rw[<-hwd];have HLD:=ab (show Below wr.heap.size wr wd by rw[hwd]; exact HL7.out.trans ((Below.refl w7.heap.size w7).drew.mono HL7.out.size));have HXD:=ab (show wd.heap[wr.heap.size]? =some (.cells #[.string e.path, .int .i64 e.kind, .int .i64 e.mode, .int .i64 e.time, .slice a1 e.data.length cap1, .string e.link] 79 (0,0)) by rw[hwd]; exact HX7.out)
       clear hwd c0 c1 c2 c3 c4 c5;have c0:=aa (k:=0) HXD.out;have c1:=aa (k:=1) HXD.out;have c2:=aa (k:=2) HXD.out;have c3:=aa (k:=3) HXD.out;have c4:=aa (k:=4) HXD.out;have c5:=aa (k:=5) HXD.out;simp only[aN]at c0 c1 c2 c3 c4 c5;have y0:=(HLD.out.cell (aR p0)).trans p0
       repeat (first | (refine aF rfl ?_; simp only[Act.put,aB,aC,aD]) | (refine aJ rfl (fun K hK=> ?_); go_simp; refine hK _ ?_; clear hK K))
       refine aI ?_;refine bA rfl (fun K hK=> ?_);go_wp2_with (go_at_call 118; refine(re f.path e.path c _ HPF.out HC.out).mono ?_; rintro e8' w8 ⟨rfl,hb8⟩; have HL8:=ab (HLD.out.trans (hb8.mono HLD.out.size)); have HX8:=ab ((hb8.block wr.heap.size (nD HXD.out)).trans HXD.out); clear hb8 c0 c1 c2 c3 c4 c5 y0)
       repeat (first | (refine aF rfl ?_; simp only[Act.put,aB,aC,aD]) | (refine aJ rfl (fun K hK=> ?_); go_simp; refine hK _ ?_; clear hK K))
       refine aI ?_;have HB8:=ab (ah HBR.out HL8.out);have c0:=aa (k:=0) HX8.out;have c1:=aa (k:=1) HX8.out;have c2:=aa (k:=2) HX8.out;have c3:=aa (k:=3) HX8.out;have c4:=aa (k:=4) HX8.out;have c5:=aa (k:=5) HX8.out;simp only[aN]at c0 c1 c2 c3 c4 c5;go_wp2_with fail
       by_cases h0:aS (bl e.path)=[]
       ·have e1:q.toList.isEmpty=true:=by rw[nT,HBQ.out,decide_eq_true h0]
        have HTN:=ab (jg HTR.out HAT.out (show cM (L.take (j+1)) e=0 by unfold cM; rw[if_pos HCV.out]; unfold lF; rw[if_pos h0]));clear h0;refine(eM e.path q _ (HE.out.below HB8.out) (bL HVE.out) HQ.out).mono ?_;rintro e9 w9 ⟨rfl,hb9⟩;have HL9:=ab (HL8.out.trans (hb9.mono HL8.out.size));have HB9:=ab (ah HB8.out hb9);have HX9:=ab ((hb9.block wr.heap.size (nD HX8.out)).trans HX8.out)
        have HK9:=ab (HKM.out.same (HL9.out.block w.heap.size HKM.out.lt));clear hb9;have c0:=aa (k:=0) HX9.out;have c1:=aa (k:=1) HX9.out;have c2:=aa (k:=2) HX9.out;have c3:=aa (k:=3) HX9.out;have c4:=aa (k:=4) HX9.out;have c5:=aa (k:=5) HX9.out;simp only[aN]at c0 c1 c2 c3 c4 c5;go_wp2_with (at_mapUpdate; go_must (refine el bN rfl _ _ _ _ rfl eL w.heap.size _ HK9.out rfl (.string e.path) (.int .i64 e.kind) rfl rfl (cE HOK.out.pth) (kw (by have h1:=HTN.out; rw[List.take_add_one,HAT.out]at h1; exact h1)) ?_); intro w10 hm10 hg10)
        have HM10:=ab hm10;have HG10:=ab hg10;clear hm10 hg10 c0 c1 c2 c3 c4 c5;go_wp2_with fail
        go_roundw
        case rel=>
         refine⟨j+1+1,by omega,by go_num,HTN.out, ?_, ?_⟩
         ·rw[List.take_add_one,HAT.out,List.map_append]; exact HM10.out
         ·exact HB9.out.grown HG10.out HB9.out.size (fun k e=>by cases e; exact Nat.le_refl _)
        case measure=>simp[intOf]; omega
       ·have e1:q.toList.isEmpty=false:=by rw[nT,HBQ.out,decide_eq_false h0]
        have HDI:=ab (show ∀x,(match gV (L.take (j+1)) q with | none=>(4:Int) | some g=>if g.kind=2 then 0 else 13)=x->cM (L.take (j+1)) e=x from fun x hx=>by unfold cM; rw[if_pos HCV.out]; unfold lF; rw[if_neg h0,<-HQ.out]; exact hx);clear h0
        cases hf:gV (L.take (j+1)) q with
        | none=>
         have HF:=ab hf;have HCA:=ab (HDI.out 4 (by rw[hf]));clear hf;refine(eM e.path q _ (HE.out.below HB8.out) (bL HVE.out) HQ.out).mono ?_;rintro e9 w9 ⟨rfl,hb9⟩;have HL9:=ab (HL8.out.trans (hb9.mono HL8.out.size));have HB9:=ab (ah HB8.out hb9);have HX9:=ab ((hb9.block wr.heap.size (nD HX8.out)).trans HX8.out);have HK9:=ab (HKM.out.same (HL9.out.block w.heap.size HKM.out.lt))
         clear hb9;have c0:=aa (k:=0) HX9.out;have c1:=aa (k:=1) HX9.out;have c2:=aa (k:=2) HX9.out;have c3:=aa (k:=3) HX9.out;have c4:=aa (k:=4) HX9.out;have c5:=aa (k:=5) HX9.out;simp only[aN]at c0 c1 c2 c3 c4 c5;have hlk:=px HK9.out HQS.out HF.out;go_wp2_with fail;go_ret;exact⟨cr (by rw[fq HL4.out HTR.out HAT.out (x:=4) HCA.out (by decide)]),HB9.out⟩
        | some g=>
         have HF:=ab hf
         by_cases hk2:g.kind=2
         ·have e3:(g.kind != 2)=false:=by simp[hk2]
          have HTN:=ab (jg HTR.out HAT.out (HDI.out 0 (by rw[hf]; simp only[if_pos hk2])));clear hf hk2;refine(eM e.path q _ (HE.out.below HB8.out) (bL HVE.out) HQ.out).mono ?_;rintro e9 w9 ⟨rfl,hb9⟩;have HL9:=ab (HL8.out.trans (hb9.mono HL8.out.size));have HB9:=ab (ah HB8.out hb9);have HX9:=ab ((hb9.block wr.heap.size (nD HX8.out)).trans HX8.out);have HK9:=ab (HKM.out.same (HL9.out.block w.heap.size HKM.out.lt))
          clear hb9;have c0:=aa (k:=0) HX9.out;have c1:=aa (k:=1) HX9.out;have c2:=aa (k:=2) HX9.out;have c3:=aa (k:=3) HX9.out;have c4:=aa (k:=4) HX9.out;have c5:=aa (k:=5) HX9.out;simp only[aN]at c0 c1 c2 c3 c4 c5;have hlk:=ku HK9.out HQS.out HF.out;go_wp2_with (at_mapUpdate; go_must (refine el bN rfl _ _ _ _ rfl eL w.heap.size _ HK9.out rfl (.string e.path) (.int .i64 e.kind) rfl rfl (cE HOK.out.pth) (kw (by have h1:=HTN.out; rw[List.take_add_one,HAT.out]at h1; exact h1)) ?_); intro w10 hm10 hg10)
          have HM10:=ab hm10;have HG10:=ab hg10;clear hm10 hg10 c0 c1 c2 c3 c4 c5;go_wp2_with fail
          go_roundw
          case rel=>
           refine⟨j+1+1,by omega,by go_num,HTN.out, ?_, ?_⟩
           ·rw[List.take_add_one,HAT.out,List.map_append]; exact HM10.out
           ·exact HB9.out.grown HG10.out HB9.out.size (fun k e=>by cases e; exact Nat.le_refl _)
          case measure=>simp[intOf]; omega
         ·have e3:(g.kind != 2)=true:=by simp[hk2]
          have HCA:=ab (HDI.out 13 (by rw[hf]; simp only[if_neg hk2]));clear hf hk2;refine(eM e.path q _ (HE.out.below HB8.out) (bL HVE.out) HQ.out).mono ?_;rintro e9 w9 ⟨rfl,hb9⟩;have HL9:=ab (HL8.out.trans (hb9.mono HL8.out.size));have HB9:=ab (ah HB8.out hb9);have HX9:=ab ((hb9.block wr.heap.size (nD HX8.out)).trans HX8.out);have HK9:=ab (HKM.out.same (HL9.out.block w.heap.size HKM.out.lt))
          clear hb9;have c0:=aa (k:=0) HX9.out;have c1:=aa (k:=1) HX9.out;have c2:=aa (k:=2) HX9.out;have c3:=aa (k:=3) HX9.out;have c4:=aa (k:=4) HX9.out;have c5:=aa (k:=5) HX9.out;simp only[aN]at c0 c1 c2 c3 c4 c5;have hlk:=ku HK9.out HQS.out HF.out;go_wp2_with fail;go_ret;exact⟨cr (by rw[fq HL4.out HTR.out HAT.out (x:=13) HCA.out (by decide)]),HB9.out⟩
      ·have HCA:=ab (show cM (L.take (j+1)) e=1 by unfold cM; rw[HAF.out,decide_eq_false hneg]; simp);have e8:decide (0<=c)=true:=by simp; omega
       have e7:0<=c:=by omega
       go_wp2_with fail;obtain⟨W,hW⟩: ∃W,W=wr.alloc (.cells #[.string e.path, .int .i64 e.kind, .int .i64 e.mode, .int .i64 e.time, .slice a1 e.data.length cap1, .string e.link] 79):=⟨_,rfl⟩;rw[<-hW];have HX:=ab (show W.heap[wr.heap.size]? =some (.cells #[.string e.path, .int .i64 e.kind, .int .i64 e.mode, .int .i64 e.time, .slice a1 e.data.length cap1, .string e.link] 79 (0,0)) by rw[hW]; exact bX wr _)
       have HWL:=ab (show Below wr.heap.size wr W by rw[hW]; exact(Below.refl _ _).alloc (Nat.le_refl _) _);have HBW:=ab (ah HBR.out HWL.out);clear hW;refine(kG S e _ true _ (HD.out.below HWL.out) HOK.out (HE.out.below HBW.out) HVE.out).mono ?_;rintro e7 w7 ⟨rfl,hb7⟩;have HX7:=ab ((hb7.block wr.heap.size (nD HX.out)).trans HX.out);have HL7:=ab (HWL.out.trans (hb7.mono HWL.out.size))
       have c0:=aa (k:=0) HX7.out;have c1:=aa (k:=1) HX7.out;have c2:=aa (k:=2) HX7.out;have c3:=aa (k:=3) HX7.out;have c4:=aa (k:=4) HX7.out;have c5:=aa (k:=5) HX7.out;simp only[aN]at c0 c1 c2 c3 c4 c5;clear hb7;go_wp2_with fail;refine an [some 11,none,some 2] (by kernel_rfl) (by kernel_rfl) (by kernel_rfl) ?_;simp only[be,List.take_succ_cons,List.take_zero,List.drop_succ_cons,List.drop_zero]
       obtain⟨wd,hwd⟩: ∃wd:World,wd=w7.drew:=⟨_,rfl⟩;rw[<-hwd];have HLD:=ab (show Below wr.heap.size wr wd by rw[hwd]; exact HL7.out.trans ((Below.refl w7.heap.size w7).drew.mono HL7.out.size));have HXD:=ab (show wd.heap[wr.heap.size]? =some (.cells #[.string e.path, .int .i64 e.kind, .int .i64 e.mode, .int .i64 e.time, .slice a1 e.data.length cap1, .string e.link] 79 (0,0)) by rw[hwd]; exact HX7.out)
       clear hwd c0 c1 c2 c3 c4 c5;have c0:=aa (k:=0) HXD.out;have c1:=aa (k:=1) HXD.out;have c2:=aa (k:=2) HXD.out;have c3:=aa (k:=3) HXD.out;have c4:=aa (k:=4) HXD.out;have c5:=aa (k:=5) HXD.out;simp only[aN]at c0 c1 c2 c3 c4 c5;have y0:=(HLD.out.cell (aR p0)).trans p0
       repeat (first | (refine aF rfl ?_; simp only[Act.put,aB,aC,aD]) | (refine aJ rfl (fun K hK=> ?_); go_simp; refine hK _ ?_; clear hK K))
       refine aI ?_;refine bA rfl (fun K hK=> ?_);go_wp2_with (go_at_call 118; refine(re f.path e.path c _ HPF.out HC.out).mono ?_; rintro e8' w8 ⟨rfl,hb8⟩; have HL8:=ab (HLD.out.trans (hb8.mono HLD.out.size)); clear hb8 c0 c1 c2 c3 c4 c5 y0)
       repeat (first | (refine aF rfl ?_; simp only[Act.put,aB,aC,aD]) | (refine aJ rfl (fun K hK=> ?_); go_simp; refine hK _ ?_; clear hK K))
       refine aI ?_;have HB9:=ab (ah HBR.out HL8.out);go_wp2_with fail;go_ret;exact⟨cr (by rw[fq HL4.out HTR.out HAT.out (x:=1) HCA.out (by decide)]),HB9.out⟩
   ·have hk2:k=n:=by omega
    subst hk2;go_wp2_with fail;go_ret;exact⟨cr (by rw[wu HL4.out (by rw[<-HN.out]; exact HTR.out)]),HBR.out⟩
end Go.Proofs.YtpffpjbkbaleiaaGreatDoor
namespace Go.Proofs.YtpffpjbkbaleiaaGreatDoor
open Go Go.RowKit Go.Maps
def uz (p:ByteArray×Int):Value×Value:=(.string p.1, .int .i64 p.2)
def ik (S:Nat->Prop) (w:World) (gv:Value) (gs:List (ByteArray×Int)):Prop:=
 (gv= .map none/\gs=[])\/ ∃b,gv= .map (some b)/\S b/\cO Tryz.prog 9 w b (gs.map uz)
theorem ik.keep {S:Nat->Prop} {w w':World} {gv:Value} {gs:List (ByteArray×Int)} (h:ik S w gv gs) (hs: ∀k,S k->k<w.heap.size->w'.heap[k]? =w.heap[k]?):ik S w' gv gs:=by
 rcases h with h | ⟨b,h1,h0,h2⟩
 ·exact .inl h
 ·exact .inr ⟨b,h1,h0,h2.same (hs b h0 h2.lt)⟩
theorem BN {S:Nat->Prop} {w:World} {gv:Value} {gs:List (ByteArray×Int)} (h:ik S w gv gs) {n:ByteArray} (hn:n.size<=maxLen):
  (Instr.lookup 47 gv (.string n) false).run Tryz.prog w= .ok (.int .i64 (jL gs n)) w:=by
 have hz:(zeroValue 3).run Tryz.prog w= .ok (.int .i64 0) w:=by kernel_rfl
 obtain⟨l,hl⟩:=cE hn
 rcases h with⟨rfl,rfl⟩ | ⟨b,rfl,_,h2⟩
 ·have:=Maps.look_nil false bN (t:=47) (e:=3) eL hz hl
  simpa [jL]using this
 ·unfold jL
  cases hf:gs.find? (fun p=>decide (p.1=n))with
  | none=>
   have:=h2.is.miss bN eL hz ⟨l,hl⟩ (fun q hq e=>by
    obtain⟨x,hx,rfl⟩:=List.mem_map.1 hq;simp only[uz,Value.string.injEq]at e;have:=List.find?_eq_none.1 hf x hx;simp[e]at this) false
   simpa using this
  | some p=>
   have h3:=List.mem_of_find?_eq_some hf;have h4:=List.find?_some hf;simp only[decide_eq_true_eq]at h4;have:=h2.is.hit bN eL ⟨l,hl⟩ (val:= .int .i64 p.2) (List.mem_map.2 ⟨p,h3,by rw[<-h4]; rfl⟩) false
   simpa using this
def jy (v:Value) (b:bI):List Value:=[.string b.ref.name, .int .i64 b.ref.gen, .int .i64 b.ref.size,v]
abbrev iH :=Value×bI
def eD (zs:List iH):List Value:=zs.flatMap fun z=>jy z.1 z.2
theorem tW (zs:List iH) (z:iH):eD (zs++[z])=eD zs++jy z.1 z.2:=by simp[eD]
theorem qR {a:Option Addr} {n c:Nat} {b:bI} : ∀u∈jy (.slice a n c) b,u.oneCell'=true:=by
 intro u hu;simp only[jy,List.mem_cons,List.not_mem_nil,or_false]at hu
 rcases hu with rfl | rfl | rfl | rfl<;> rfl
theorem Tryz.appBlobs :eS Tryz.prog 49 53 4 56:=eS.mk' (z:= .agg #[.string ⟨#[]⟩, .int .i64 0, .int .i64 0, .slice none 0 0]) Tryz.underlying49 (by kernel_rfl) rfl (by decide) (by decide)
structure dZ (w : World) (base : Nat) (v : Value) (zs : List iH) : Prop where
 row:w.ownsRow base 53 4 v zs.length (eD zs)
 dat: ∀z∈zs,w.ownsRow base 5 1 z.1 z.2.con.length (z.2.con.map au)
def fX (k:bD) (c:dL) (gv:Value) (im kb:Nat) (v:Value):List Value:=cY k++dy c++[gv, .map (some im),v, .map (some kb)]
structure em (w : World) (base bb : Nat) (k : bD) (c : dL) (gv : Value) (im kb : Nat) (v : Value) (bs : List bI) : Prop where
 box:w.heap[bb]? =some (.cells (fX k c gv im kb v).toArray 122 (0,0))
 own: ∃zs:List iH,zs.map Prod.snd=bs/\dZ w base v zs
 known:dB w kb (bs.map bI.ref)
structure cU (base bb kb : Nat) (v v' : Value) (w w' : World) : Prop where
 below:Below base w w'
 same: ∀k,k<w.heap.size->k≠bb->k≠kb->v.ownBlock≠some k->w'.heap[k]? =w.heap[k]?
 place: ∀k,v'.ownBlock=some k->v.ownBlock=some k\/w.heap.size<=k
theorem cU.refl (base bb kb:Nat) (v:Value) (w:World):cU base bb kb v v w w:=⟨Below.refl _ _,fun _ _ _ _ _=>rfl,fun _ h=> .inl h⟩
theorem cU.trans {base bb kb:Nat} {v v1 v2:Value} {A B C:World} (h:cU base bb kb v v1 A B) (k:cU base bb kb v1 v2 B C):cU base bb kb v v2 A C:=by
 have hs:=h.below.size;refine⟨h.below.trans k.below,fun i h1 h2 h2' h3=>(k.same i (by omega) h2 h2' (fun e=> ?_)).trans (h.same i h1 h2 h2' h3),fun i e=> ?_⟩
 ·rcases h.place i e with e2 | e2
  ·exact h3 e2
  ·omega
 ·rcases k.place i e with e2 | e2
  ·exact h.place i e2
  ·exact .inr (by omega)
theorem cU.ofBelow {base bb kb:Nat} {v:Value} {w w':World} (h:Below w.heap.size w w') (hb:base<=w.heap.size):cU base bb kb v v w w':=⟨h.mono hb,fun k h1 _ _ _=>h.block k h1,fun _ e=> .inl e⟩
theorem dZ.below {w w':World} {base:Nat} {v:Value} {zs:List iH} (h:dZ w base v zs) (hb:Below w.heap.size w w'):dZ w' base v zs:=⟨ba h.row hb,fun z hz=>ba (h.dat z hz) hb⟩
theorem em.below {w w':World} {base bb im kb:Nat} {k:bD} {c:dL} {gv v:Value} {bs:List bI} (h:em w base bb k c gv im kb v bs) (hb:Below w.heap.size w w'):em w' base bb k c gv im kb v bs:=by
 obtain⟨zs,h1,h2⟩:=h.own;exact⟨(hb.block _ (lt_of_block h.box)).trans h.box,⟨zs,h1,h2.below hb⟩,h.known.same (hb.block _ h.known.map.lt)⟩
theorem em.push {w w1 w2:World} {base bb im kb:Nat} {k:bD} {c:dL} {gv v v' dv:Value} {bs:List bI} {zs:List iH} {b:bI} (hz:zs.map Prod.snd=bs) (h:dZ w base v zs) (hx:w.heap[bb]? =some (.cells (fX k c gv im kb v).toArray 122 (0,0))) (hs:dB w kb ((bs++[b]).map bI.ref))
  (hb:Below w.heap.size w w1) (hn:w1.ownsRow base 5 1 dv b.con.length (b.con.map au)) (hown:w2.ownsRow base 53 4 v' (zs.length+1) (eD zs++jy dv b)) (hg:w1.grownBy w2 v.ownBlock) (hpl: ∀k,v'.ownBlock=some k->v.ownBlock=some k\/w1.heap.size<=k) (hbe:base<=bb) (hbz:base<=w.heap.size):
  em (w2.setCell ⟨bb,12,none⟩ v') base bb k c gv im kb v' (bs++[b])/\cU base bb kb v v' w (w2.setCell ⟨bb,12,none⟩ v'):=by
 have h1:=h.below hb;have hx1:=(hb.block bb (lt_of_block hx)).trans hx;have hlt:=lt_of_block hx1;have hz1:=hb.size;have hne:v.ownBlock≠some bb:=fun e=>by
  obtain⟨cs,hc⟩:=aA h1.row e;exact absurd (aK hx1 hc) (by decide)
 have hne':v'.ownBlock≠some bb:=fun e=>by
  rcases hpl bb e with e | e
  ·exact hne e
  ·omega
 have hb2:=(hg.block bb hlt (fun e=>hne e.symm)).trans hx1;have hdat: ∀(u:Value) (ds:List UInt8),w1.ownsRow base 5 1 u ds.length (ds.map au)->(w2.setCell ⟨bb,12,none⟩ v').ownsRow base 5 1 u ds.length (ds.map au):=by
  intro u ds hd;refine dx hd (fun i hi hu=> ?_);obtain⟨cs,hc⟩:=aA hd hu;rw[Below.heap_setCell _ _ _ _ (show i≠bb from fun e=>absurd (aK (e▸hc) hx1) (by decide))];refine hg.block i hi (fun e=> ?_);obtain⟨cs2,hc2⟩:=aA h1.row e.symm;exact absurd (aK hc hc2) (by decide)
 have hkb:kb<w1.heap.size:=Nat.lt_of_lt_of_le hs.map.lt hz1;have hks:(w2.setCell ⟨bb,12,none⟩ v').heap[kb]? =w.heap[kb]? :=by
  rw[Below.heap_setCell _ _ _ _ (show kb≠bb from fun e=>hs.cells (by rw[e]; exact hx))];refine(hg.block kb hkb (fun e=> ?_)).trans (hb.block kb hs.map.lt);obtain⟨cs,hc⟩:=aA h.row e.symm;exact hs.cells hc
 refine⟨⟨?_,⟨zs++[(dv,b)],by simp[hz], ?_,fun z hz=> ?_⟩,hs.same hks⟩,⟨?_,fun i hi e1 e2 e3=> ?_,fun i e=> ?_⟩⟩
 ·have:=cJ (k:=12) hb2 v'
  simpa [fX,cY,dy]using this
 ·rw[List.length_append,List.length_singleton,tW];exact hown.kept (aE _ _ _ _) (.inr (fun e=>hne' e))
 ·rcases List.mem_append.1 hz with hz | hz
  ·exact hdat _ _ (h1.dat z hz)
  ·rw[List.mem_singleton]at hz;subst hz;exact hdat _ _ hn
 ·exact((hb.mono hbz).grown hg (Nat.le_trans hbz hz1) (fun i hi=>(h.row.lt i hi).1)).grown (aE w2 bb 12 v') (Nat.le_trans hbz (Nat.le_trans hz1 hg.size)) (fun i hi=>by cases hi; exact hbe)
 ·rw[Below.heap_setCell _ _ _ _ (show i≠bb from e1)];exact(hg.block i (by omega) (fun e=>e3 e.symm)).trans (hb.block i hi)
 ·rcases hpl i e with e | e
  ·exact .inl e
  ·exact .inr (by omega)
end Go.Proofs.YtpffpjbkbaleiaaGreatDoor
