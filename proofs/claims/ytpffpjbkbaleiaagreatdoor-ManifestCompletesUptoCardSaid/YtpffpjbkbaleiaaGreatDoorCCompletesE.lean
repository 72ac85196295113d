/- Texts of this proof, one after the other: ItemF, NodA, Lib, FileA, FileB, LoadP, PartB, LookP, WalkA, WalkB, WalkC, Needs, NeedP, LoadA, LookA, FtC, FtD, FtE, FtP, FtQ, BldA. -/
import Derived.Test.YtpffpjbkbaleiaaGreatDoorCCompletesD
set_option maxRecDepth 100000
set_option maxHeartbeats 8000000
namespace Go.Proofs.YtpffpjbkbaleiaaGreatDoor
section
open Go.RowKit
theorem nG (S:Nat->Prop) (l:List cj) (v:Value) (b:Bool) (w:World) (hv:eP S w v l) (henv:oz w) (h:jL l=b):Calls Tryz.prog 47 #[v] w fun e w'=>e= .returned (.bool b)/\Below w.heap.size w w':=by rw[<-h]; exact zb S l v w hv henv
theorem od :eF eq:=⟨by decide,by decide,by decide⟩
theorem zW (S:Nat->Prop) (data:List UInt8) (v:Value) (w:World) (hv:bD S w v data) (henv:oz w):Calls Tryz.prog 18 #[v] w (Ci data w):=by
 obtain⟨_,a,cap,rfl,hn,hm,-⟩:=id hv;unfold maxLen at hm;have HV:=ah hv;have HE:=ah henv;clear hv henv
 by_cases hY:32768<data.length
 ·have HP:=ah (xn hY)
  go_enter Tryz.func18,Tryz.ntmps18
  go_wp2_with fail
  go_ret2
  exact⟨ak _ _,by rw[HP.o]; rfl⟩
 ·have hN:=ah hY
  go_enter Tryz.func18,Tryz.ntmps18
  go_wp2_with fail;refine(yL S data _ w HV.o (by omega)).mono ?_;rintro e w1 ⟨rb,dv,rfl,HN,HT,HK⟩;have hg:=ah HT;have hM:=ah HK;clear HT HK;go_wp2_with fail;refine(Ij rb dv data ⟨0,0,0⟩ 4096 _ hg.o (by omega)).mono ?_;rintro e w2 ⟨n,s1,Hv,rfl,h7,HM⟩;have y1:n<=4096:=by have:=Br data 4096 ⟨0,0,0⟩; rw[Hv]at this; exact this
  have Hz:=ah Hv;have HU:=ah (show vZ w1 rb w2 dv (.slice none 0 0) data s1 []from⟨h7,⟨_,hg.o⟩,⟨[],bM _ _ _ _,rfl⟩,HM⟩);clear Hv h7 HM;go_wp2_with fail
  go_loopw [5,16] (fun v i wr=> ∃(k:Nat) (l:List cj) (s:RS),k<=n/\i= .int .i64 k/\l.length=k/\jo data s1 k=some (l,s)/\vZ w1 rb wr dv v data s l) (fun _ i _=>n-(intOf i).toNat)
  ·exact⟨0,[],s1,aU _,rfl,rfl,rfl,HU.o⟩
  ·obtain⟨k,l,s,hk,rfl,HR,HO,hA⟩:=hrel;have hT:=ah HO;have he:=ah hA;have hI:=ah HR;obtain⟨cells,hG,h8⟩:=hA.row;have hd:=ah hG;have hy:=ah h8;obtain⟨av,cv0,yl,y3,y2⟩:=aH hG;have Ho:=ah hA.rd;subst yl;clear HO hA HR hG h8
   by_cases yv:k<n
   ·go_wp2_with fail;refine(NW rb dv data s 64 _ Ho.o (by omega)).mono ?_;rintro e w3 ⟨nm,s2,HS,rfl,h1,h2⟩;have HG:=ah HS;have Hi:=ah (kD.start Ho.o h1 h2 #[.string ⟨nm.toArray⟩, .int .i64 0, .int .i64 0, .int .i64 0, .int .i64 0, .string ⟨#[]⟩, .slice none 0 0, .string ⟨#[]⟩, .int .i64 0, .int .i64 0]);clear HS h1 h2;go_wp2_with fail;refine(yi rb dv data s2 _ Hi.o.rd).mono ?_
    rintro e w4 ⟨kd,s3,hp,rfl,h1,h2⟩;have H1:=ah hp;have Ha:=ah (Hi.o.call h1 h2);have ck:=Ha.o.cell 1;have fk:=Ha.o.free 1;simp only[gd]at ck;clear hp h1 h2;go_wp2_with fail;obtain⟨kv,hq⟩:=bI (wrap64 (kd:Int):Int);rw[<-hq];have hz:=ah hq;clear hq;obtain⟨w5,hs⟩:=bI (w4.setCell ⟨w3.heap.size,1,none⟩ (.int .i64 kv));rw[<-hs];have m4:=Ha.o.set 1 (.int .i64 kv)
    rw[<-hs]at m4;simp only[aW,cG,cn]at m4;have Hj:=ah m4;clear m4 hs ck fk Hi Ha;refine(yi rb dv data s3 _ Hj.o.rd).mono ?_;rintro e w6 ⟨md,s4,hp,rfl,h1,h2⟩;have H2:=ah hp;have Hb:=ah (Hj.o.call h1 h2);have ck:=Hb.o.cell 2;have fk:=Hb.o.free 2;simp only[gd]at ck;clear hp h1 h2;go_wp2_with fail
    obtain⟨mv,hq⟩:=bI (wrap64 (md:Int):Int);rw[<-hq];have Hr:=ah hq;clear hq;obtain⟨w7,hs⟩:=bI (w6.setCell ⟨w3.heap.size,2,none⟩ (.int .i64 mv));rw[<-hs];have m4:=Hb.o.set 2 (.int .i64 mv);rw[<-hs]at m4;simp only[aW,cG,cn]at m4;have Hk:=ah m4;clear m4 hs ck fk Hj Hb;refine(yi rb dv data s4 _ Hk.o.rd).mono ?_
    rintro e w8 ⟨td,s5,hp,rfl,h1,h2⟩;have H3:=ah hp;have Hc:=ah (Hk.o.call h1 h2);have ck:=Hc.o.cell 3;have fk:=Hc.o.free 3;simp only[gd]at ck;clear hp h1 h2
    go_upto_region 11 with(fail)
    obtain⟨tv,hq⟩:=bI (wrap64 (td:Int):Int);rw[<-hq];have Hs:=ah hq;clear hq;obtain⟨w9,hs⟩:=bI (w8.setCell ⟨w3.heap.size,3,none⟩ (.int .i64 tv));rw[<-hs];have m4:=Hc.o.set 3 (.int .i64 tv);rw[<-hs]at m4;simp only[aW,cG,cn]at m4;have hl:=ah m4;clear m4 hs ck fk Hk Hc;have ck:=hl.o.cell 1;simp only[gd]at ck
    have HH:=ah (xk HG.o H1.o H2.o H3.o);have H9:nm.length<=64:=by have:=Jc data 64 s; rw[HG.o]at this; exact this
    by_cases hC:kv=1
    ·have e1:(kv == 1)=true:=by simp[hC]
     have HY:=ah (show ow kd=1 from hz.o.symm.trans hC);clear hC;go_wp2_with fail;refine(Ij rb dv data s5 963 _ hl.o.rd (by omega)).mono ?_;rintro e wa ⟨n2,s6,hp,rfl,h1,h2⟩;have hW:=ah hp;have y0:n2<=963:=by have:=Br data 963 s5; rw[hp]at this; exact this
     have hf:=ah (hl.o.call h1 h2);clear hp h1 h2 ck hl;go_wp2_with fail;obtain⟨wo,yp⟩:=bI wr;subst yp
     go_loopw [39] (fun i wq=> ∃(j:Nat) (ch:List cH) (s7:RS) (cv:Value),j<=n2/\i= .int .i64 j/\ch.length=j/\jn data s6 j=(ch,s7)/\kD rb w3.heap.size wo wq dv data s7 #[.string ⟨nm.toArray⟩, .int .i64 kv, .int .i64 mv, .int .i64 tv, .int .i64 0, .string ⟨#[]⟩,cv, .string ⟨#[]⟩, .int .i64 0, .int .i64 0]/\wq.ownsRow (w3.heap.size+1) 26 3 cv ch.length (ch.flatMap jp)) (fun i _=>n2-(intOf i).toNat)
     ·exact⟨0,[],s6, .slice none 0 0,aU _,rfl,rfl,rfl,hf.o,bM _ _ _ _⟩
     ·obtain⟨j,ch,s7,cv,hj,rfl,HQ,HL,h4,Hx⟩:=hrel;have HC:=ah HQ;have Hg:=ah HL;have hw:=ah h4;have Hd:=ah Hx;obtain⟨a6,c6,ya,yc,yb⟩:=aH Hx;subst ya;clear HQ HL h4 Hx
      by_cases H8:j<n2
      ·have ck:=hw.o.cell 6;have fk:=hw.o.free 6;simp only[gd]at ck;go_wp2_with fail;refine eJ (fun w'=>w'.cell? ⟨w3.heap.size,6,none⟩=some (.slice a6 ch.length c6)) (by kernel_rfl) (by kernel_rfl) ?_;simp only[bt,bu,az,bo,Nat.reduceAdd,Nat.reduceSub];have Hl:=ah (hw.o.below ((ak _ _).drew))
       iterate 3 (refine cI rfl (by go_simp) (by intro w' yn; go_simp; rfl) ?_; simp only[bN])
       refine cC 3 rfl (fun K hK=> ?_);go_wp2_with (go_at_call 62; refine(vr rb dv data s7 _ Hl.o.rd).mono ?_; rintro e wb ⟨r,s8,hp,rfl,h1,h2,hr⟩; unfold fi);have H4:=ah hp;have HJ:=ah hr;have ho:=ah (Hl.o.call h1 h2);have Hn:=ah (Hd.o.kept (cg (b:=wr.drew) ⟨rfl,rfl,rfl,ai _,fun _ _ _=>rfl⟩ h2) (.inr (by
        intro e;have:=(Hd.o.lt _ e).1;have:=du.lt hg.o;have:=he.o.grown.size;have:=hw.o.ge
        omega)))
       have ck2:=ho.o.cell 6;have HD:=ah (ho.o.below ((ak _ _).alloc (ai _) (.cells #[.string r.name, .int .i64 r.gen, .int .i64 r.size] 26)));have ck3:=HD.o.cell 6;have fk2:=ho.o.free 6;have Hu:w3.heap.size+1<=wb.heap.size:=(aM.1 ho.o.box).1;simp only[gd]at ck2 ck3;clear hp h1 h2 hr ck fk hw Hl;refine⟨ck2, ?_⟩;refine cC 4 rfl (fun K hK=> ?_)
       go_wp2_with fail
       (first | (refine⟨ck3, ?_⟩) | skip)
       refine cC 5 rfl (fun K hK=> ?_);go_wp2_with (at_builtin; go_must (refine bO Tryz.appRefs rfl _ _ rfl (w3.heap.size+1) (.slice a6 ch.length c6) ch.length (ch.flatMap jp) rfl wb [.string r.name, .int .i64 r.gen, .int .i64 r.size] _ rfl rfl (qY (r:=r)) Hn.o (by have:=HC.o; omega) Hu ?_); intro v' wc hb ha _ hu; obtain⟨ae,ce,rfl,-,-⟩:=aH hb)
       have Hm:=ah (ho.o.app ha (fun k hk=>by have:=(Hn.o.lt k hk).1; omega));have HF:=ah (show wc.ownsRow (w3.heap.size+1) 26 3 (.slice ae (ch.length+1) ce) (ch++[r]).length ((ch++[r]).flatMap jp) by rw[ag,bV]; simpa [jp]using hb);have ck4:=Hm.o.cell 6;have fk4:=Hm.o.free 6;simp only[gd]at ck4;clear hb ha hu ck2 ck3 fk2 HD ho Hn Hd
       refine⟨ck4, ?_⟩;refine cI rfl (by go_simp) (by intro w' yn; go_simp; rfl) ?_;simp only[bN];refine cL (by kernel_rfl) ?_;refine eU rfl rfl (fun K hK=> ?_);go_wp2_with fail
       go_roundw
       ·have m4:=Hm.o.set 6 (.slice ae (ch.length+1) ce);simp only[aW,cG,cn]at m4;refine⟨j+1,ch++[r],s8, .slice ae (ch.length+1) ce,by omega,by go_num,by simp[HC.o],uT Hg.o H4.o,m4,HF.o.kept (cK _ _ _ _) (.inr (by
         intro e;have:=(HF.o.lt _ e).1
         omega))⟩
       simp[intOf]; omega
      ·obtain rfl:j=n2:=by omega
       have hB: ∀r∈ch,eF r:=by have:=zp data s6 j;rw[Hg.o]at this; exact this
       have Hp:=ah (qi Hd.o hB);have ck:=hw.o.cell 6;simp only[gd]at ck;clear hB;go_wp2_with fail;refine(uF _ _ ch _ Hp.o).mono ?_;rintro e wb ⟨rfl,Ht⟩;have ho:=ah (hw.o.below Ht);have HI:=ah (show dN (fun k=>w3.heap.size<k) wb (.slice a6 ch.length c6) ch from dN.same (cN.below Hp.o (by omega) Ht (fun _ _ _ h=>h)) (fun k hk hS=>⟨by have:=hS.1; omega,rfl⟩))
       have ck4:=ho.o.cell 4;have fk4:=ho.o.free 4;simp only[gd]at ck4;obtain⟨tw,Hy⟩:=bI (ni ch:Int);rw[<-Hy];have H5:=ah Hy;clear Ht ck Hy Hp
       go_upto_region 23 with(fail)
       obtain⟨wd,He⟩:=bI (wb.setCell ⟨w3.heap.size,4,none⟩ (.int .i64 tw));rw[<-He];have m4:=ho.o.set 4 (.int .i64 tw);rw[<-He]at m4;simp only[aW,cG,cn]at m4;have hc:=ah m4;have hR:=ah (show nj data s=some (⟨⟨nm.toArray⟩,ow kd,ow md,ow td,tw,⟨#[]⟩,ch,eq⟩,s7) by rw[HH.o,xi HY.o hW.o Hg.o,H5.o])
       have hV:=ah (show iC ⟨⟨nm.toArray⟩,kv,mv,tv,tw,⟨#[]⟩,ch,eq⟩from⟨by show ByteArray.size ⟨_⟩<=_; unfold maxLen; simp[ByteArray.size]; omega,by show ByteArray.size ⟨_⟩<=_; unfold maxLen; simp[ByteArray.size],od⟩);have hO:=ah (show dN (wo.heap.size<= ·) wd (.slice a6 ch.length c6) ch from dN.same HI.o (fun k hk hS=>⟨by have:=hw.o.ge; show wo.heap.size<=k; omega,by rw[He]; exact ay _ _ _ _ (by show k≠w3.heap.size; omega)⟩))
       clear m4 He ck4 fk4 ho hw HI;have d0:=hc.o.cell 0;have d1:=hc.o.cell 1;have d2:=hc.o.cell 2;have d3:=hc.o.cell 3;have d4:=hc.o.cell 4;have d5:=hc.o.cell 5;have d6:=hc.o.cell 6;have d7:=hc.o.cell 7;have d8:=hc.o.cell 8;have d9:=hc.o.cell 9;simp only[gd]at d0 d1 d2 d3 d4 d5 d6 d7 d8 d9;have hU:=ah (hd.o.kept hc.o.grown (.inr (by
        intro e;have:=(hd.o.lt _ e).1;have:=du.lt hg.o
        omega)))
       have hZ:w1.heap.size<=wd.heap.size:=an he.o.grown.size hc.o.grown.size;have hX:=ah (show nj data s=some (⟨⟨nm.toArray⟩,kv,mv,tv,tw,⟨#[]⟩,ch,eq⟩,s7) by rw[hR.o,hz.o,Hr.o,Hs.o]; rfl);have h3:l.length<4096:=by have:=hI.o; omega
       go_wp2_with (at_builtin; go_must (refine bO Tryz.appItems rfl _ _ rfl w1.heap.size (.slice av l.length cv0) l.length cells rfl wd [.string ⟨nm.toArray⟩, .int .i64 kv, .int .i64 mv, .int .i64 tv, .int .i64 (tw), .string ⟨#[]⟩, .slice a6 ch.length c6, .string ⟨#[]⟩, .int .i64 0, .int .i64 0] _ rfl rfl (kR (it:=⟨⟨nm.toArray⟩,kv,mv,tv,tw,⟨#[]⟩,ch,eq⟩)) hU.o (by omega) hZ ?_); intro v' we hb ha _ hu; have hP:=ah (he.o.added (it:=⟨⟨nm.toArray⟩,kv,mv,tv,tw,⟨#[]⟩,ch,eq⟩) hc.o hO.o hV.o hy.o hd.o hb ha hu); obtain⟨ae,ce,rfl,-,-⟩:=aH hb; clear hb ha hu)
       go_roundw
       ·exact⟨k+1,l++[⟨⟨nm.toArray⟩,kv,mv,tv,tw,⟨#[]⟩,ch,eq⟩],s7,by omega,by go_num,by simp[hI.o],mR hT.o hX.o,hP.o⟩
       simp[intOf]; omega
    ·have e1:(kv == 1)=false:=by simp[hC]
     by_cases hF:kv=2
     ·have e2:(kv == 2)=true:=by simp[hF]
      have HZ:=ah (show ow kd=2 from hz.o.symm.trans hF);clear hC hF;go_wp2_with fail;refine(vr rb dv data s5 _ hl.o.rd).mono ?_;rintro e wa ⟨r,s6,hp,rfl,h1,h2,hr⟩;have hW:=ah hp;have HJ:=ah hr;have hf:=ah (hl.o.call h1 h2);have c7:=hf.o.cell 7;have c8:=hf.o.cell 8;have c9:=hf.o.cell 9;have f7:=hf.o.free 7;have f8:=hf.o.free 8;have f9:=hf.o.free 9
      simp only[gd]at c7 c8 c9;unfold fi;clear hp h1 h2 hr ck
      go_upto_region 23 with(fail)
      obtain⟨wb,hH⟩:=bI (((wa.setCell ⟨w3.heap.size,7,none⟩ (.string r.name)).setCell ⟨w3.heap.size,8,none⟩ (.int .i64 r.gen)).setCell ⟨w3.heap.size,9,none⟩ (.int .i64 r.size));rw[<-hH];have m4:=((hf.o.set 7 (.string r.name)).set 8 (.int .i64 r.gen)).set 9 (.int .i64 r.size);rw[<-hH]at m4;simp only[aW,cG,cn]at m4
      have hc:=ah m4;have hR:=ah (HH.o.trans (zS HZ.o hW.o));have hV:=ah (show iC ⟨⟨nm.toArray⟩,kv,mv,tv,0,⟨#[]⟩,[],r⟩from⟨by show ByteArray.size ⟨_⟩<=_; unfold maxLen; simp[ByteArray.size]; omega,by show ByteArray.size ⟨_⟩<=_; unfold maxLen; simp[ByteArray.size],HJ.o⟩);have hO:=ah (show dN (wr.heap.size<= ·) wb (.slice none 0 0) []from cN.nil);clear m4 hH c7 c8 c9 f7 f8 f9 hf hl
      have d0:=hc.o.cell 0;have d1:=hc.o.cell 1;have d2:=hc.o.cell 2;have d3:=hc.o.cell 3;have d4:=hc.o.cell 4;have d5:=hc.o.cell 5;have d6:=hc.o.cell 6;have d7:=hc.o.cell 7;have d8:=hc.o.cell 8;have d9:=hc.o.cell 9;simp only[gd]at d0 d1 d2 d3 d4 d5 d6 d7 d8 d9;have hU:=ah (hd.o.kept hc.o.grown (.inr (by
       intro e;have:=(hd.o.lt _ e).1;have:=du.lt hg.o
       omega)))
      have hZ:w1.heap.size<=wb.heap.size:=an he.o.grown.size hc.o.grown.size;have hX:=ah (show nj data s=some (⟨⟨nm.toArray⟩,kv,mv,tv,0,⟨#[]⟩,[],r⟩,s6) by rw[hR.o,hz.o,Hr.o,Hs.o]; rfl);have h3:l.length<4096:=by have:=hI.o; omega
      go_wp2_with (at_builtin; go_must (refine bO Tryz.appItems rfl _ _ rfl w1.heap.size (.slice av l.length cv0) l.length cells rfl wb [.string ⟨nm.toArray⟩, .int .i64 kv, .int .i64 mv, .int .i64 tv, .int .i64 (0), .string ⟨#[]⟩, .slice none 0 0, .string r.name, .int .i64 r.gen, .int .i64 r.size] _ rfl rfl (kR (it:=⟨⟨nm.toArray⟩,kv,mv,tv,0,⟨#[]⟩,[],r⟩)) hU.o (by omega) hZ ?_); intro v' we hb ha _ hu; have hP:=ah (he.o.added (it:=⟨⟨nm.toArray⟩,kv,mv,tv,0,⟨#[]⟩,[],r⟩) hc.o hO.o hV.o hy.o hd.o hb ha hu); obtain⟨ae,ce,rfl,-,-⟩:=aH hb; clear hb ha hu)
      go_roundw
      ·exact⟨k+1,l++[⟨⟨nm.toArray⟩,kv,mv,tv,0,⟨#[]⟩,[],r⟩],s6,by omega,by go_num,by simp[hI.o],mR hT.o hX.o,hP.o⟩
      simp[intOf]; omega
     ·have e2:(kv == 2)=false:=by simp[hF]
      by_cases hL:kv=3
      ·have e3:(kv == 3)=true:=by simp[hL]
       have H0:=ah (show ow kd=3 from hz.o.symm.trans hL);clear hC hF hL;go_wp2_with fail;refine(NW rb dv data s5 512 _ hl.o.rd (by omega)).mono ?_;rintro e wa ⟨lk,s6,hp,rfl,h1,h2⟩;have hW:=ah hp;have H7:lk.length<=512:=by have:=Jc data 512 s5; rw[hp]at this; exact this
       have hf:=ah (hl.o.call h1 h2);have c7:=hf.o.cell 5;have f7:=hf.o.free 5;simp only[gd]at c7;clear hp h1 h2 ck
       go_upto_region 23 with(fail)
       obtain⟨wb,hH⟩:=bI (wa.setCell ⟨w3.heap.size,5,none⟩ (.string ⟨lk.toArray⟩));rw[<-hH];have m4:=hf.o.set 5 (.string ⟨lk.toArray⟩);rw[<-hH]at m4;simp only[aW,cG,cn]at m4;have hc:=ah m4;have hR:=ah (HH.o.trans (xj H0.o hW.o));have hV:=ah (show iC ⟨⟨nm.toArray⟩,kv,mv,tv,0,⟨lk.toArray⟩,[],eq⟩from⟨by show ByteArray.size ⟨_⟩<=_; unfold maxLen; simp[ByteArray.size]; omega,by show ByteArray.size ⟨_⟩<=_; unfold maxLen; simp[ByteArray.size]; omega,od⟩)
       have hO:=ah (show dN (wr.heap.size<= ·) wb (.slice none 0 0) []from cN.nil);clear m4 hH c7 f7 hf hl;have d0:=hc.o.cell 0;have d1:=hc.o.cell 1;have d2:=hc.o.cell 2;have d3:=hc.o.cell 3;have d4:=hc.o.cell 4;have d5:=hc.o.cell 5;have d6:=hc.o.cell 6;have d7:=hc.o.cell 7;have d8:=hc.o.cell 8;have d9:=hc.o.cell 9;simp only[gd]at d0 d1 d2 d3 d4 d5 d6 d7 d8 d9
       have hU:=ah (hd.o.kept hc.o.grown (.inr (by
        intro e;have:=(hd.o.lt _ e).1;have:=du.lt hg.o
        omega)))
       have hZ:w1.heap.size<=wb.heap.size:=an he.o.grown.size hc.o.grown.size;have hX:=ah (show nj data s=some (⟨⟨nm.toArray⟩,kv,mv,tv,0,⟨lk.toArray⟩,[],eq⟩,s6) by rw[hR.o,hz.o,Hr.o,Hs.o]; rfl);have h3:l.length<4096:=by have:=hI.o; omega
       go_wp2_with (at_builtin; go_must (refine bO Tryz.appItems rfl _ _ rfl w1.heap.size (.slice av l.length cv0) l.length cells rfl wb [.string ⟨nm.toArray⟩, .int .i64 kv, .int .i64 mv, .int .i64 tv, .int .i64 (0), .string ⟨lk.toArray⟩, .slice none 0 0, .string ⟨#[]⟩, .int .i64 0, .int .i64 0] _ rfl rfl (kR (it:=⟨⟨nm.toArray⟩,kv,mv,tv,0,⟨lk.toArray⟩,[],eq⟩)) hU.o (by omega) hZ ?_); intro v' we hb ha _ hu; have hP:=ah (he.o.added (it:=⟨⟨nm.toArray⟩,kv,mv,tv,0,⟨lk.toArray⟩,[],eq⟩) hc.o hO.o hV.o hy.o hd.o hb ha hu); obtain⟨ae,ce,rfl,-,-⟩:=aH hb; clear hb ha hu)
       go_roundw
       ·exact⟨k+1,l++[⟨⟨nm.toArray⟩,kv,mv,tv,0,⟨lk.toArray⟩,[],eq⟩],s6,by omega,by go_num,by simp[hI.o],mR hT.o hX.o,hP.o⟩
       simp[intOf]; omega
      ·have e3:(kv == 3)=false:=by simp[hL]
       have hE:=ah (vg hN.o Hz.o (Dm (ve hT.o (HH.o.trans (FA (fun e=>hC (hz.o.trans e)) (fun e=>hF (hz.o.trans e)) (fun e=>hL (hz.o.trans e))))) n (by omega)));clear hC hF hL;go_wp2_with fail
       go_ret2
       have H6:Below w.heap.size w w9:=hM.o.trans ((iq.of_grown (S:=fun k=>k=rb) (cg he.o.grown hl.o.grown) (fun k hk=>by cases hk; rfl)).below hM.o.size (fun k hk=>by subst hk; exact HN));exact⟨H6,by rw[hE.o]; rfl⟩
   ·obtain rfl:k=n:=by omega
    have Hh:=ah (qN hN.o Hz.o hT.o);have HW:=ah (show eP (w.heap.size<= ·) wr (.slice av l.length cv0) l from by have y4:=hM.o.size;refine⟨cells,(cJ hd.o).weak (fun k hk=>by have:=hk.1; omega),hy.o.mono (fun c x _ hx=>hx.same (fun k hk hS=>⟨by have:=hS.1; omega,rfl⟩))⟩)
    have h9:=ah (show Below w.heap.size w wr from hM.o.trans ((iq.of_grown (S:=fun k=>k=rb) he.o.grown (fun k hk=>by cases hk; rfl)).below hM.o.size (fun k hk=>by subst hk; exact HN)));go_wp2_with fail;refine(OU rb dv data s _ Ho.o).mono ?_;rintro e we ⟨rfl,nd,rfl⟩;obtain⟨ev,Hw⟩:=bI (uj data s:Int);rw[<-Hw];have HB:=ah Hw;clear Hw
    by_cases h0:ev=0
    ·subst h0;have hD:=ah (show eP (w.heap.size<= ·) (wr.drewN nd) (.slice av l.length cv0) l from eP.below HW.o (fW (ak _ _) nd));have HA:=ah (HE.o.below (fW h9.o nd))
     cases hh:jL l
     ·have hE:=ah (show iY data=none by rw[Hh.o,hh]; simp);have Hq:=ah hh;clear hh;go_wp2_with fail;refine(nG _ l _ false _ hD.o HA.o Hq.o).mono ?_;rintro e wf ⟨rfl,hJ⟩;have Hf:=ah (aj (fW h9.o nd) hJ);clear hJ;go_wp2_with fail
      go_ret2
      exact⟨Hf.o,by rw[hE.o]; rfl⟩
     ·have hE:=ah (show iY data=some l by rw[Hh.o,hh]; simp[HB.o.symm]);have Hq:=ah hh;clear hh;go_wp2_with fail;refine(nG _ l _ true _ hD.o HA.o Hq.o).mono ?_;rintro e wf ⟨rfl,hJ⟩;have Hf:=ah (aj (fW h9.o nd) hJ);have HX:=ah (eP.below hD.o hJ);clear hJ;go_wp2_with fail
      go_ret2
      exact⟨Hf.o,by rw[hE.o]; exact⟨_,rfl,HX.o⟩⟩
    ·have hE:=ah (show iY data=none by rw[Hh.o,if_neg (fun h=>h0 (HB.o.trans h.1))]);have e6:(ev != 0)=true:=by simp[h0]
     clear h0;go_wp2_with fail
     go_ret2
     exact⟨fW h9.o nd,by rw[hE.o]; rfl⟩
open Go Go.RowKit
def kQ (l:List cj) (k:Nat):List UInt8:=bE l.length++(l.take k).flatMap gx
theorem Bz {l:List cj} {k:Nat} {it:cj} (h:l[k]? =some it):kQ l (k+1)=kQ l k++gx it:=by unfold kQ;rw[bY,h,bV,<-bp]; simp
theorem CR (l:List cj):kQ l l.length=gk l:=by unfold kQ gk; rw[dw]
theorem wQ (l:List cj) (k:Nat):(kQ l k).length<=(gk l).length:=by
 have:(l.flatMap gx).length=((l.take k).flatMap gx).length+((l.drop k).flatMap gx).length:=by rw[<-ag,<-bV,dx]
 unfold kQ gk;rw[ag,ag];omega
def wg (l:List cj) (w:World) (e:Ending) (w':World):Prop:=Below w.heap.size w w'/\
 if jL l=true then(if(gk l).length<=32768 then ∃v,e= .returned (.tuple #[v, .int .i64 0])/\me w' w.heap.size v (gk l)else e= .returned (.tuple #[.slice none 0 0, .int .i64 2]))
 else e= .returned (.tuple #[.slice none 0 0, .int .i64 1])
theorem DH (S:Nat->Prop) (l:List cj) (v:Value) (w:World) (hv:eP S w v l) (henv:oz w) (hsm:(gk l).length<1000000000000) (htm: ∀it∈l,it.time<9223372036854775808):Calls Tryz.prog 15 #[v] w (wg l w):=by
 obtain⟨a,cap,rfl,hc,hm,-⟩:=cN.shape hv lG.len;unfold maxLen at hm;obtain⟨n,hn⟩:=bI l.length;rw[<-hn]at hv hc ⊢;have HV:=ah hv;have HE:=ah henv;have HN:=ah hn;have h0:=ah hsm;have HQ:=ah htm;clear hv henv hn hsm htm
 by_cases hx:jL l=true
 ·have hC:=ah hx;have hG:=ah (nN hx);clear hx;have yp:n<=4096:=by rw[HN.o]; exact hG.o.1
  go_enter Tryz.func15,Tryz.ntmps15
  go_wp2_with fail;refine(nG S l _ true w HV.o HE.o hC.o).mono ?_;rintro e w1 ⟨rfl,hJ⟩;have hN:=ah hJ;clear hJ;go_wp2_with fail;refine(yM w1).mono ?_;rintro e w2 ⟨rfl,Hc,Hl⟩;obtain⟨wb,He⟩:=bI w1.heap.size;rw[<-He]at Hc ⊢;have HC:=ah (aj hN.o Hl);have HU:=ah Hc;have hs:=ah (show w.heap.size<=wb by rw[He]; exact hN.o.size);clear Hc Hl He
  go_wp2_with fail;refine(yq wb n [] w2 HU.o (by simp) (by omega)).mono ?_;rintro e w3 ⟨rfl,Hd,Ho⟩;rw[aI]at Hd;have HX:=ah Hd;have HD:=ah (HC.o.trans (Ho.1.mono hs.o));clear Hd Ho;go_wp2_with fail
  go_loopw [21] (fun i wr=> ∃k:Nat,k<=n/\i= .int .i64 (k:Int)/\sW wr wb (kQ l k)/\Below w.heap.size w wr) (fun i _=>n-(intOf i).toNat)
  ·exact⟨0,aU _,rfl,by have:=HX.o; rw[HN.o]at this; simpa [kQ]using this,HD.o⟩
  ·obtain⟨k,hk,rfl,hw,hb⟩:=hrel;have HW:=ah hw;have HB:=ah hb;clear hw hb
   by_cases H7:k<n
   ·obtain⟨it,hr⟩: ∃it,l[k]? =some it:=⟨l[k]'(by rw[<-HN.o]; exact H7),by simp⟩;obtain⟨b,o,ca,cc,rfl,Ht,Hu,HZ,-,hL⟩:=mT HV.o (ak _ _) hr;have hu: ∀j,j<10->wr.cell? ⟨b,o+k*10+j,none⟩=(fu (.slice ca it.chunks.length cc) it)[j]? :=fun j hj=>(HB.o.cell (p:=⟨b,o+k*10+j,none⟩) HZ).trans (hL j hj)
    have HR:=ah hr;have HO:=ah Ht;have hY:=ah Hu;have HS:=ah (hG.o.2 it (aQ hr));have q0:=hu 0 (by omega);have q1:=hu 1 (by omega);have q2:=hu 2 (by omega);have q3:=hu 3 (by omega);have q4:=hu 4 (by omega);have q5:=hu 5 (by omega);have q6:=hu 6 (by omega);have q7:=hu 7 (by omega);have q8:=hu 8 (by omega);have q9:=hu 9 (by omega);simp only[fu,aB,cQ,cZ]at q0 q1 q2 q3 q4 q5 q6 q7 q8 q9
    have hF:=HS.o;unfold iG at hF;rw[aF]at hF;have hh:=pw.1 hF.1;have hU:=ah (nI hF.2);have h4:=ah hF.2;have htm:=HQ.o it (aQ hr);obtain⟨kd,Hq⟩:=bI it.kind.toNat
    obtain⟨md,Hr⟩:=bI it.mode.toNat
    obtain⟨td,Hv⟩:=bI it.time.toNat
    have H3:=hh.md0;have hE:=hh.md1;have yb:=hh.tm0;have Hs:=tn hh.val hh.nos;have h9:it.kind=(kd:Int):=by rcases hU.o with h | h | h<;> omega
    have hP:it.mode=(md:Int):=by omega
    have Hw:it.time=(td:Int):=by omega
    have H5:kd<=3:=by rcases hU.o with h | h | h<;> omega
    have H9:md<=511:=by omega
    have yc:td<9223372036854775808:=by omega
    have hz:=ah (aA Hq (aA Hr Hv));have ya:it.name.size=(bl it.name).length:=bi _;have yv:IntKind.u64.wrap (kd:Int)=(kd:Int):=by rw[cV]; omega
    have y0:IntKind.u64.wrap (md:Int)=(md:Int):=by rw[cV]; omega
    have y1:IntKind.u64.wrap (td:Int)=(td:Int):=by rw[cV]; omega
    rw[h9]at q1;rw[hP]at q2;rw[Hw]at q3;have hV:=ah (show kd=1\/kd=2\/kd=3 by rcases hU.o with h | h | h<;> omega);have hA:=ah h9;clear hr Ht Hu hu hL hF hh htm Hq Hr Hv H3 hE yb h9 hP Hw;have l1:=wQ l k;have l2:=h0.o;have l3:=iL (n:=it.name.size) (by omega);have l4:=iL (n:=kd) (by omega);have l5:=iL (n:=md) (by omega)
    have l6:=iL (n:=td) (by omega);have hy:=ah (show(kQ l k).length<1000000000000/\(bE it.name.size).length<=10/\(bE kd).length<=10/\(bE md).length<=10/\(bE td).length<=10/\(bl it.name).length<=64/\it.name.size<=64 from⟨by omega,l3,l4,l5,l6,Hs,by omega⟩);clear l1 l2 l3 l4 l5 l6 Hs ya;have yl:wb<wr.heap.size:=by obtain⟨_,h,_⟩:=HW.o; exact am h
    have HA:=ah ((ak wr.heap.size wr).alloc (ai _) (.cells #[.string it.name, .int .i64 (kd:Int), .int .i64 (md:Int), .int .i64 (td:Int), .int .i64 it.size, .string it.link, .slice ca it.chunks.length cc, .string it.node.name, .int .i64 it.node.gen, .int .i64 it.node.size] 28));have ha:=ah (ep wr (.cells #[.string it.name, .int .i64 (kd:Int), .int .i64 (md:Int), .int .i64 (td:Int), .int .i64 it.size, .string it.link, .slice ca it.chunks.length cc, .string it.node.name, .int .i64 it.node.gen, .int .i64 it.node.size] 28))
    have hf:=ah (HW.o.below HA.o);have he:=ah (HB.o.trans (HA.o.mono HB.o.size));go_wp2_with fail;clear q0 q1 q2 q3 q4 q5 q6 q7 q8 q9;refine(AP wb it.name _ _ hf.o (by have:=hy.o; omega) (by have:=hy.o; omega)).mono ?_;rintro e wx ⟨rfl,hp,hd⟩;have ho:=ah ((hd.2 _ (by decide) (by decide) _ _ ha.o).trans ha.o);have hl:=ah hp;have hg:=ah (he.o.trans (hd.1.mono hs.o))
    clear hp hd ha hf he;have ha:=ho;have hf:=hl;have he:=hg;clear ho hl hg;obtain⟨c0,c1,c2,c3,_⟩:=aS ha.o;have c5:=ar (k:=5) ha.o;have c6:=ar (k:=6) ha.o;have c7:=ar (k:=7) ha.o;have c8:=ar (k:=8) ha.o;have c9:=ar (k:=9) ha.o;simp only[gd]at c5 c6 c7 c8 c9;go_wp2_with fail;clear c0 c1 c2 c3 c5 c6 c7 c8 c9;refine(lK wb kd _ _ hf.o (by have:=hy.o; simp only[ag]; omega) (by omega)).mono ?_
    rintro e wx ⟨rfl,hp,hd⟩;have ho:=ah ((hd.2 _ (by decide) (by decide) _ _ ha.o).trans ha.o);have hl:=ah hp;have hg:=ah (he.o.trans (hd.1.mono hs.o));clear hp hd ha hf he;have ha:=ho;have hf:=hl;have he:=hg;clear ho hl hg;obtain⟨c0,c1,c2,c3,_⟩:=aS ha.o;have c5:=ar (k:=5) ha.o;have c6:=ar (k:=6) ha.o;have c7:=ar (k:=7) ha.o
    have c8:=ar (k:=8) ha.o;have c9:=ar (k:=9) ha.o;simp only[gd]at c5 c6 c7 c8 c9;go_wp2_with fail;clear c0 c1 c2 c3 c5 c6 c7 c8 c9;refine(lK wb md _ _ hf.o (by have:=hy.o; simp only[ag]; omega) (by omega)).mono ?_;rintro e wx ⟨rfl,hp,hd⟩;have ho:=ah ((hd.2 _ (by decide) (by decide) _ _ ha.o).trans ha.o);have hl:=ah hp;have hg:=ah (he.o.trans (hd.1.mono hs.o))
    clear hp hd ha hf he;have ha:=ho;have hf:=hl;have he:=hg;clear ho hl hg;obtain⟨c0,c1,c2,c3,_⟩:=aS ha.o;have c5:=ar (k:=5) ha.o;have c6:=ar (k:=6) ha.o;have c7:=ar (k:=7) ha.o;have c8:=ar (k:=8) ha.o;have c9:=ar (k:=9) ha.o;simp only[gd]at c5 c6 c7 c8 c9;go_wp2_with fail;clear c0 c1 c2 c3 c5 c6 c7 c8 c9;have hX:=ah (Bz HR.o)
    have HJ:=ah (show(kQ l (k+1)).length<1000000000000 by have h1:=wQ l (k+1); have h2:=h0.o; omega)
    rcases hV.o with h | h | h
    ·subst h;have hB:=ms (by rw[hA.o]; rfl) h4.o;have hH:=ah hB.2.2.1;obtain⟨_,_,Hn,H2,H1,-⟩:=cN.shape hY.o qA.len;simp only[cY]at Hn;obtain⟨rfl,-,rfl⟩:=Hn;obtain⟨n2,hR⟩:=bI it.chunks.length;have Hh:=ah hR;unfold maxLen at H1;rw[<-hR]at ha hY H2;have Ha:n2<9223372036854775808:=by omega
     have hI:=ah (show gx it=bE it.name.size++(bl it.name++(bE 1++(bE md++(bE td++(bE n2++it.chunks.flatMap fE))))) by unfold gx ly;rw[if_pos (by rw[hA.o]; rfl),<-hz.o.1,<-hz.o.2.1,<-hz.o.2.2,<-hR])
     clear hR hB;refine(lK wb td _ _ hf.o (by have:=hy.o; simp only[ag]; omega) (by omega)).mono ?_;rintro e wx ⟨rfl,hp,hd⟩;have ho:=ah ((hd.2 _ (by decide) (by decide) _ _ ha.o).trans ha.o);have hl:=ah hp;have hg:=ah (he.o.trans (hd.1.mono hs.o));clear hp hd ha hf he;have ha:=ho;have hf:=hl;have he:=hg;clear ho hl hg;obtain⟨c0,c1,c2,c3,_⟩:=aS ha.o
     have c5:=ar (k:=5) ha.o;have c6:=ar (k:=6) ha.o;have c7:=ar (k:=7) ha.o;have c8:=ar (k:=8) ha.o;have c9:=ar (k:=9) ha.o;simp only[gd]at c5 c6 c7 c8 c9;go_wp2_with fail;clear c0 c1 c2 c3 c5 c6 c7 c8 c9;refine(yq wb n2 _ _ hf.o (by have:=hy.o; simp only[ag]; omega) Ha).mono ?_;rintro e wx ⟨rfl,hp,hd⟩;have ho:=ah ((hd.2 _ (by decide) (by decide) _ _ ha.o).trans ha.o)
     have hl:=ah hp;have hg:=ah (he.o.trans (hd.1.mono hs.o));clear hp hd ha hf he;have ha:=ho;have hf:=hl;have he:=hg;clear ho hl hg;obtain⟨c0,c1,c2,c3,_⟩:=aS ha.o;have c5:=ar (k:=5) ha.o;have c6:=ar (k:=6) ha.o;have c7:=ar (k:=7) ha.o;have c8:=ar (k:=8) ha.o;have c9:=ar (k:=9) ha.o;simp only[gd]at c5 c6 c7 c8 c9
     go_wp2_with fail;clear c0 c1 c2 c3 c5 c6 c7 c8 c9;obtain⟨D,Hk,Hj⟩: ∃D,sW wx wb D/\D++it.chunks.flatMap fE=kQ l (k+1):=⟨_,hf.o,by rw[hX.o,hI.o]; simp[List.append_assoc]⟩;have HH:=ah Hk;have Hg:=ah Hj;clear Hk Hj
     go_loopw [56] (fun j w6=> ∃m:Nat,m<=n2/\j= .int .i64 (m:Int)/\sW w6 wb (D++(it.chunks.take m).flatMap fE)/\Below w.heap.size w w6) (fun j _=>n2-(intOf j).toNat)
     ·exact⟨0,aU _,rfl,by simpa using HH.o,he.o⟩
     ·obtain⟨m,yn,rfl,Hy,Hm⟩:=hrel;have Hi:=ah Hy;have hO:=ah Hm;clear Hy Hm
      by_cases H6:m<n2
      ·obtain⟨r,hS⟩: ∃r,it.chunks[m]? =some r:=⟨it.chunks[m]'(by rw[<-Hh.o]; exact H6),by simp⟩;have HL:=ah hS;have HT:=ah ((hH.o r (aQ hS)).1);obtain⟨b2,o2,rfl,-,p0,p1,p2⟩:=nE hY.o hO.o hS;have HI:=ah (show(D++(it.chunks.take m).flatMap fE).length<1098000000000 by
        have h1:=congrArg List.length Hg.o;have h2:=HJ.o;have h3:(it.chunks.flatMap fE).length=((it.chunks.take m).flatMap fE).length+((it.chunks.drop m).flatMap fE).length:=by rw[<-ag,<-bV,dx]
        rw[ag]at h1 ⊢
        omega)
       clear hS;have Hf:=ah ((ak wr.heap.size wr).alloc (ai _) (.cells #[.string r.name, .int .i64 r.gen, .int .i64 r.size] 26));have HP:=ah (show(it.chunks.take (m+1)).flatMap fE=(it.chunks.take m).flatMap fE++fE r by rw[bY,HL.o,bV]; simp)
       have HM:=ah (tZ wb r _ _ (Hi.o.below Hf.o) HI.o HT.o);have HF:=ah (hO.o.trans (Hf.o.mono hO.o.size));go_wp2_with fail;refine HM.o.mono ?_;rintro e w8 ⟨rfl,Hz,Hp⟩;have HY:=ah Hz;have HG:=ah (HF.o.trans (Hp.1.mono hs.o));clear Hz Hp p0 p1 p2;go_wp2_with fail
       go_roundw
       ·refine⟨m+1,by omega,by go_num, ?_,HG.o⟩;rw[HP.o,<-bp];exact HY.o
       simp[intOf]; omega
      ·have H8:m=n2:=by omega
       subst H8;have h7:=ah (show sW _ wb (kQ l (k+1)) by have:=Hi.o; rw[Hh.o,dw,Hg.o]at this; exact this);go_wp2_with fail
       go_roundw
       ·exact⟨k+1,by omega,by go_num,h7.o,hO.o⟩
       simp[intOf]; omega
    ·subst h;have hB:=qB (by rw[hA.o]; rfl) h4.o;have hH:=ah hB.2.2.2;have hI:=ah (show gx it=bE it.name.size++(bl it.name++(bE 2++(bE md++(bE td++fE it.node)))) by unfold gx ly;rw[if_neg (by rw[hA.o]; decide),if_pos (by rw[hA.o]; rfl),<-hz.o.1,<-hz.o.2.1,<-hz.o.2.2])
     clear hB;refine(lK wb td _ _ hf.o (by have:=hy.o; simp only[ag]; omega) (by omega)).mono ?_;rintro e wx ⟨rfl,hp,hd⟩;have ho:=ah ((hd.2 _ (by decide) (by decide) _ _ ha.o).trans ha.o);have hl:=ah hp;have hg:=ah (he.o.trans (hd.1.mono hs.o));clear hp hd ha hf he;have ha:=ho;have hf:=hl;have he:=hg;clear ho hl hg;obtain⟨c0,c1,c2,c3,_⟩:=aS ha.o
     have c5:=ar (k:=5) ha.o;have c6:=ar (k:=6) ha.o;have c7:=ar (k:=7) ha.o;have c8:=ar (k:=8) ha.o;have c9:=ar (k:=9) ha.o;simp only[gd]at c5 c6 c7 c8 c9;go_wp2_with fail;clear c0 c1 c2 c3 c5 c6 c7 c8 c9;refine(tZ wb it.node _ _ hf.o (by have:=hy.o; simp only[ag]; omega) hH.o).mono ?_;rintro e wx ⟨rfl,hp,hd⟩;have ho:=ah ((hd.2 _ (by decide) (by decide) _ _ ha.o).trans ha.o)
     have hl:=ah hp;have hg:=ah (he.o.trans (hd.1.mono hs.o));clear hp hd ha hf he;have ha:=ho;have hf:=hl;have he:=hg;clear ho hl hg;obtain⟨c0,c1,c2,c3,_⟩:=aS ha.o;have c5:=ar (k:=5) ha.o;have c6:=ar (k:=6) ha.o;have c7:=ar (k:=7) ha.o;have c8:=ar (k:=8) ha.o;have c9:=ar (k:=9) ha.o;simp only[gd]at c5 c6 c7 c8 c9
     go_wp2_with fail;clear c0 c1 c2 c3 c5 c6 c7 c8 c9
     go_roundw
     ·refine⟨k+1,by omega,by go_num, ?_,he.o⟩;rw[hX.o,hI.o]
      simpa [List.append_assoc]using hf.o
     simp[intOf]; omega
    ·subst h;have hB:=rz (by rw[hA.o]; rfl) h4.o;have hH:=ah hB.2.2.2.2.1;have hI:=ah (show gx it=bE it.name.size++(bl it.name++(bE 3++(bE md++(bE td++(bE it.link.size++bl it.link))))) by unfold gx ly;rw[if_neg (by rw[hA.o]; decide),if_neg (by rw[hA.o]; decide),<-hz.o.1,<-hz.o.2.1,<-hz.o.2.2])
     clear hB;refine(lK wb td _ _ hf.o (by have:=hy.o; simp only[ag]; omega) (by omega)).mono ?_;rintro e wx ⟨rfl,hp,hd⟩;have ho:=ah ((hd.2 _ (by decide) (by decide) _ _ ha.o).trans ha.o);have hl:=ah hp;have hg:=ah (he.o.trans (hd.1.mono hs.o));clear hp hd ha hf he;have ha:=ho;have hf:=hl;have he:=hg;clear ho hl hg;obtain⟨c0,c1,c2,c3,_⟩:=aS ha.o
     have c5:=ar (k:=5) ha.o;have c6:=ar (k:=6) ha.o;have c7:=ar (k:=7) ha.o;have c8:=ar (k:=8) ha.o;have c9:=ar (k:=9) ha.o;simp only[gd]at c5 c6 c7 c8 c9;go_wp2_with fail;clear c0 c1 c2 c3 c5 c6 c7 c8 c9;refine(AP wb it.link _ _ hf.o (by have:=hy.o; simp only[ag]; omega) (by have:=hH.o; omega)).mono ?_;rintro e wx ⟨rfl,hp,hd⟩
     have ho:=ah ((hd.2 _ (by decide) (by decide) _ _ ha.o).trans ha.o);have hl:=ah hp;have hg:=ah (he.o.trans (hd.1.mono hs.o));clear hp hd ha hf he;have ha:=ho;have hf:=hl;have he:=hg;clear ho hl hg;obtain⟨c0,c1,c2,c3,_⟩:=aS ha.o;have c5:=ar (k:=5) ha.o;have c6:=ar (k:=6) ha.o;have c7:=ar (k:=7) ha.o;have c8:=ar (k:=8) ha.o
     have c9:=ar (k:=9) ha.o;simp only[gd]at c5 c6 c7 c8 c9;go_wp2_with fail;clear c0 c1 c2 c3 c5 c6 c7 c8 c9
     go_roundw
     ·refine⟨k+1,by omega,by go_num, ?_,he.o⟩;rw[hX.o,hI.o]
      simpa [List.append_assoc]using hf.o
     simp[intOf]; omega
   ·have H4:k=n:=by omega
    subst H4;have h7:=ah (show sW wr wb (gk l) by have:=HW.o; rw[HN.o,CR]at this; exact this);go_wp2_with fail;refine(Lw wb (gk l) wr h7.o (by have:=h0.o; omega)).mono ?_;rintro e w9 ⟨h8,hM⟩;obtain⟨m,hE⟩:=bI ((gk l).length);rw[<-hE]at hM;have hW:=ah hE;have hT:=ah (HB.o.trans (h8.mono HB.o.size));have H0:=HB.o.size
    by_cases hD:m<=1048576
    ·rw[if_pos hD]at hM;obtain⟨v9,rfl,Hb⟩:=hM;obtain⟨a9,c9,Hx,-,-⟩:=aH Hb;rw[<-hE]at Hx;subst Hx;have HK:=ah (gB Hb H0);clear hE Hb h8
     by_cases hq:m<=32768
     ·have hP:(m:Int)<=32768:=by omega
      go_wp2_with fail
      go_ret2
      refine⟨hT.o, ?_⟩;rw[if_pos hC.o,<-hW.o,if_pos hq];exact⟨_,rfl,HK.o⟩
     ·have hP:(32768:Int)<(m:Int):=by omega
      have hZ:=ah hq;clear hq;go_wp2_with fail
      go_ret2
      refine⟨hT.o, ?_⟩;rw[if_pos hC.o,<-hW.o,if_neg hZ.o]
      rfl
    ·rw[if_neg hD]at hM;subst hM;have hZ:=ah (show ¬m<=32768 by omega);clear hE h8 hD;go_wp2_with fail
     go_ret2
     refine⟨hT.o, ?_⟩;rw[if_pos hC.o,<-hW.o,if_neg hZ.o]
     rfl
 ·have hC:=ah (show jL l=false by simpa using hx);clear hx
  go_enter Tryz.func15,Tryz.ntmps15
  go_wp2_with fail;refine(nG S l _ false w HV.o HE.o hC.o).mono ?_;rintro e w1 ⟨rfl,hJ⟩;have hN:=ah hJ;clear hJ;go_wp2_with fail
  go_ret2
  refine⟨hN.o, ?_⟩;rw[hC.o]
  rfl
end
section
open Go.RowKit Go.Maps
def dG (S:Nat->Prop) (w:World):List (Value×Value)->List (ByteArray×List UInt8)->Prop
 | [],[]=>True
 | (k,v)::m,(n,bs)::cs=>k= .string n/\bD S w v bs/\dG S w m cs
 | _,_=>False
theorem dG.mono {S:Nat->Prop} {w w':World} : ∀ {m:List (Value×Value)} {cs:List (ByteArray×List UInt8)},dG S w m cs->(∀v bs,bD S w v bs->bD S w' v bs)->dG S w' m cs
 | [],[],_,_=>trivial
 | [],_::_,h,_=>h
 | _::_,[],h,_=>h
 | (_,_)::_,(_,_)::_,h,hm=>⟨h.1,hm _ _ h.2.1,dG.mono h.2.2 hm⟩
def di :List (ByteArray×List UInt8)->ByteArray->Option (List UInt8)
 | [],_=>none
 | (k,bs)::cs,n=>if k=n then some bs else di cs n
theorem dG.hit {S:Nat->Prop} {w:World} {n:ByteArray} {bs:List UInt8} : ∀ {m:List (Value×Value)} {cs:List (ByteArray×List UInt8)},dG S w m cs->di cs n=some bs-> ∃v,(Value.string n,v)∈m/\bD S w v bs
 | [],[],_,hf=>by simp[di]at hf
 | [],_::_,h,_=>False.elim h
 | _::_,[],h,_=>False.elim h
 | (k,v)::m,(n',bs')::cs,h,hf=>by
  simp only[di]at hf
  split at hf
  ·rename_i e;simp only[aX]at hf;subst hf e;exact⟨v,by rw[h.1]; simp,h.2.1⟩
  ·obtain⟨v',h1,h2⟩:=dG.hit h.2.2 hf;exact⟨v',by simp[h1],h2⟩
theorem dG.miss {S:Nat->Prop} {w:World} {n:ByteArray} : ∀ {m:List (Value×Value)} {cs:List (ByteArray×List UInt8)},dG S w m cs->di cs n=none-> ∀p∈m,p.1≠Value.string n
 | [],[],_,_,_,hp=>by simp at hp
 | [],_::_,h,_,_,_=>False.elim h
 | _::_,[],h,_,_,_=>False.elim h
 | (k,v)::m,(n',bs')::cs,h,hf,p,hp=>by
  simp only[di]at hf
  split at hf
  ·simp at hf
  ·rename_i e
   rcases aT.1 hp with rfl | hp
   ·intro e2;have:=h.1.symm.trans e2;simp only[eD]at this;exact e this
   ·exact dG.miss h.2.2 hf p hp
def gy (S:Nat->Prop) (w:World) (cv:Value) (cs:List (ByteArray×List UInt8)):Prop:=
 (cv= .map none/\cs=[])\/ ∃b m,cv= .map (some b)/\S b/\jJ Tryz.prog 9 w b m/\dG S w m cs
theorem gy.below {S:Nat->Prop} {w w':World} {cv:Value} {cs:List (ByteArray×List UInt8)} (h:gy S w cv cs) (hb:Below w.heap.size w w'):gy S w' cv cs:=by
 rcases h with h | ⟨b,m,h1,h0,h2,h3⟩
 ·exact .inl h
 ·exact .inr ⟨b,m,h1,h0,h2.same (hb.block b h2.lt),h3.mono (fun v bs hv=>cD.below hv (by omega) hb)⟩
theorem qP :Keyed Tryz.prog 9:=string_keyed ee
theorem qO {n:ByteArray} (h:n.size<=maxLen): ∃l,keyOf Tryz.prog 9 (.string n)=some l:=⟨.string n.data.toList,by simp[keyOf,mapKey,Tryz.underlying9,h]⟩
theorem gy.hitL {S:Nat->Prop} {w:World} {cv:Value} {cs:List (ByteArray×List UInt8)} (h:gy S w cv cs) {n:ByteArray} {bs:List UInt8} (hn:n.size<=maxLen) (hf:di cs n=some bs):
  ∃v,(Instr.lookup 133 cv (.string n) true).run Tryz.prog w= .ok (.tuple #[v, .bool true]) w/\bD S w v bs:=by
 rcases h with⟨_,rfl⟩ | ⟨b,m,rfl,_,h2,h3⟩
 ·simp[di]at hf
 ·obtain⟨v,hv,hb⟩:=h3.hit hf;exact⟨v,h2.hit qP (t:=133) (e:=29) (by kernel_rfl) (qO hn) hv true,hb⟩
theorem gy.missL {S:Nat->Prop} {w:World} {cv:Value} {cs:List (ByteArray×List UInt8)} (h:gy S w cv cs) {n:ByteArray} (hn:n.size<=maxLen) (hf:di cs n=none):
  (Instr.lookup 133 cv (.string n) true).run Tryz.prog w= .ok (.tuple #[.slice none 0 0, .bool false]) w:=by
 obtain⟨l,hl⟩:=qO hn
 rcases h with⟨rfl,_⟩ | ⟨b,m,rfl,_,h2,h3⟩
 ·exact Maps.look_nil true qP (t:=133) (e:=29) (by kernel_rfl) (by kernel_rfl) hl
 ·exact h2.miss qP (t:=133) (e:=29) (by kernel_rfl) (by kernel_rfl) (qO hn) (h3.miss hf) true
def iK (cs:List (ByteArray×List UInt8)) (r:cH):Except Int (List UInt8):=match di cs r.name with
 | none=> .error 10
 | some bs=>if(bs.length:Int)=r.size then .ok bs else .error 9
def iz (cs:List (ByteArray×List UInt8)) (r:cH):Except Int (List cj):=match iK cs r with
 | .error e=> .error e
 | .ok bs=>match iY bs with
  | none=> .error 9
  | some l=> .ok l
def Cf (cs:List (ByteArray×List UInt8)) (r:cH) (S:Nat->Prop) (w:World) (e:Ending) (w':World):Prop:=Below w.heap.size w w'/\match iK cs r with
 | .error x=>e= .returned (.tuple #[.slice none 0 0, .int .i64 x])/\x≠0
 | .ok bs=> ∃v,e= .returned (.tuple #[v, .int .i64 0])/\bD S w' v bs
theorem zq (S:Nat->Prop) (cv:Value) (cs:List (ByteArray×List UInt8)) (r:cH) (w:World) (hc:gy S w cv cs) (hr:eF r):Calls Tryz.prog 129 #[cv,fi r] w (Cf cs r S w):=by
 have ha:=hr.nm;have HC:=ah (hc.below ((ak _ _).alloc (ai _) (.cells #[.string r.name, .int .i64 r.gen, .int .i64 r.size] 26)));have HB:=ah ((ak w.heap.size w).alloc (ai _) (.cells #[.string r.name, .int .i64 r.gen, .int .i64 r.size] 26));unfold fi;clear hc hr
 cases hf:di cs r.name with
 | none=>
  have hb:=HC.o.missL ha hf;have HF:=ah (show iK cs r= .error 10 by unfold iK; rw[hf]);clear hf ha
  go_enter Tryz.func129,Tryz.ntmps129
  go_wp2_with fail
  go_ret2
  exact⟨HB.o,by rw[HF.o]; exact⟨rfl,by decide⟩⟩
 | some bs=>
  obtain⟨v,hb,hv⟩:=HC.o.hitL ha hf;have HV:=ah hv;obtain⟨_,a,cap,rfl,hn,hm,-⟩:=hv;unfold maxLen at hm
  by_cases hl:(bs.length:Int)=r.size
  ·have HF:=ah (show iK cs r= .ok bs by unfold iK; rw[hf]; simp only[if_pos hl]);have e1:((bs.length:Int) != r.size)=false:=by simp[hl]
   clear hf ha hl
   go_enter Tryz.func129,Tryz.ntmps129
   go_wp2_with fail
   go_ret2
   exact⟨HB.o,by rw[HF.o]; exact⟨_,rfl,HV.o⟩⟩
  ·have HF:=ah (show iK cs r= .error 9 by unfold iK; rw[hf]; simp only[if_neg hl]);have e1:((bs.length:Int) != r.size)=true:=by simp[hl]
   clear hf ha hl
   go_enter Tryz.func129,Tryz.ntmps129
   go_wp2_with fail
   go_ret2
   exact⟨HB.o,by rw[HF.o]; exact⟨rfl,by decide⟩⟩
def Bg (cs:List (ByteArray×List UInt8)) (r:cH) (w:World) (e:Ending) (w':World):Prop:=Below w.heap.size w w'/\match iz cs r with
 | .error x=>e= .returned (.tuple #[.slice none 0 0, .int .i64 x])/\x≠0
 | .ok l=> ∃v,e= .returned (.tuple #[v, .int .i64 0])/\eP (w.heap.size<= ·) w' v l
theorem tI (S:Nat->Prop) (cv:Value) (cs:List (ByteArray×List UInt8)) (r:cH) (w:World) (hc:gy S w cv cs) (hr:eF r) (henv:oz w):Calls Tryz.prog 83 #[cv,fi r] w (Bg cs r w):=by
 have HB:=ah ((ak w.heap.size w).alloc (ai _) (.cells #[.string r.name, .int .i64 r.gen, .int .i64 r.size] 26));have HC:=ah (hc.below HB.o);have HR:=ah hr;have HE:=ah (henv.below HB.o);unfold fi;clear hc hr henv
 go_enter Tryz.func83,Tryz.ntmps83
 go_wp2_with fail;refine(zq S cv cs r _ HC.o HR.o).mono ?_;rintro e w1 ⟨hf,ha⟩;have he:=ah (aj HB.o hf);have ho:=ah (HE.o.below hf);clear hf
 cases hb:iK cs r with
 | error x=>
  rw[hb]at ha;obtain⟨rfl,hx⟩:=ha;have HN:=ah (show iz cs r= .error x by unfold iz; rw[hb]);have HX:=ah hx;have e1:(x != 0)=true:=by simp[hx]
  clear hb hx;go_wp2_with fail
  go_ret2
  exact⟨he.o,by rw[HN.o]; exact⟨rfl,HX.o⟩⟩
 | ok bs=>
  rw[hb]at ha;obtain⟨v,rfl,hv⟩:=ha;have HV:=ah hv;obtain⟨_,a,cap,rfl,hn,hm,-⟩:=hv;unfold maxLen at hm;have hh:=ah hb;clear hb;go_wp2_with fail;refine(zW S bs _ w1 HV.o ho.o).mono ?_;rintro e w2 ⟨hj,ha⟩;have hg:=ah (aj he.o hj);clear hj
  cases hd:iY bs with
  | none=>
   rw[hd]at ha;simp only at ha;subst ha;have HN:=ah (show iz cs r= .error 9 by unfold iz; rw[hh.o]; simp only[hd]);clear hd;go_wp2_with fail
   go_ret2
   exact⟨hg.o,by rw[HN.o]; exact⟨rfl,by decide⟩⟩
  | some l=>
   rw[hd]at ha;simp only at ha;obtain⟨v,rfl,hv⟩:=ha;have hl:=he.o.size;have hp:=ah (show eP (w.heap.size<= ·) w2 v l from by obtain⟨cells,h1,h2⟩:=hv;exact⟨cells,h1.weak (fun k hk=>an hl hk),h2.mono (fun c x _ hx=>hx.same (fun k _ hS=>⟨an hl hS,rfl⟩))⟩)
   obtain⟨a2,c2,rfl,-,-,-⟩:=cN.shape hv lG.len;have HN:=ah (show iz cs r= .ok l by unfold iz; rw[hh.o]; simp only[hd]);clear hd hv;go_wp2_with fail
   go_ret2
   exact⟨hg.o,by rw[HN.o]; exact⟨_,rfl,hp.o⟩⟩
end
section
open Go Go.RowKit
def kA (cs:List (ByteArray×List UInt8)):List cH->List UInt8->Except Int (List UInt8)
 | [],acc=> .ok acc
 | r::rs,acc=>match iK cs r with
  | .error x=> .error x
  | .ok bs=>kA cs rs (acc++bs)
def Bc (cs:List (ByteArray×List UInt8)) (rs:List cH) (w:World) (e:Ending) (w':World):Prop:=Below w.heap.size w w'/\match kA cs rs []with
 | .error x=>e= .returned (.tuple #[.slice none 0 0, .int .i64 x])/\x≠0
 | .ok bs=> ∃v,e= .returned (.tuple #[v, .int .i64 0])/\me w' w.heap.size v bs
theorem NY (S:Nat->Prop) (v:Value) (rs:List cH) (n:Nat) (w:World) (hv:dN S w v rs) (h:ni rs=(n:Int)):Calls Tryz.prog 63 #[v] w fun e w'=>e= .returned (.int .i64 (n:Int))/\Below w.heap.size w w':=by rw[<-h]; exact uF S v rs w hv
theorem vi (S:Nat->Prop) (cv rv:Value) (cs:List (ByteArray×List UInt8)) (rs:List cH) (w:World) (hc:gy S w cv cs) (hv:dN S w rv rs) (ht0:0<=ni rs) (ht1:ni rs<=1048576) (hn6:rs.length<=1048576) (hrs: ∀r∈rs,lF r=true):
  Calls Tryz.prog 97 #[cv,rv] w (Bc cs rs w):=by
 obtain⟨a,cap,rfl,hz,h2,-⟩:=cN.shape hv qA.len;obtain⟨t,ht⟩:=bI ((ni rs).toNat);have hM:ni rs=(t:Int):=by omega
 have h7:t<=1048576:=by omega
 obtain⟨n,hn⟩:=bI rs.length;rw[<-hn]at hv hz hn6 ⊢;unfold maxLen at h2;have HC:=ah hc;have HV:=ah hv;have HN:=ah hn;have hZ:=ah hM;have hX:=ah hrs;clear hrs;obtain⟨h8,⟨i9,z9,hD,hE,hF,hG,h0⟩,-,-⟩:=Tryz.appBytes;have hp:i9.bytes*t<=281474976710656:=by rw[hG]; omega
 have H9:=ah (aA hD (aA hE (aA hF hp)));clear hc hv hn ht0 ht1 ht hM hD hE hF hG h0 hp
 go_enter Tryz.func97,Tryz.ntmps97
 have hY:=ah (show t<=maxLen by unfold maxLen; omega);go_wp2_with fail;refine(NY S _ rs t w HV.o hZ.o).mono ?_;rintro e w1 ⟨rfl,hH⟩;have hs:=ah hH;clear hH;go_wp2_with (first | ((refine wpList_make_own _ rfl _ _ 29 rfl w.heap.size 5 i9 z9 1 dm H9.o.1 H9.o.2.1 H9.o.2.2.1 .i64 .i64 (t:Int) t rfl rfl rfl H9.o.2.2.2 hY.o hs.o.size ?_); intro w4 he hI; have hT:=ah he; have hP:=ah hI; clear he hI))
 have hN:=ah ((jD hP.o).mono hs.o.size |> hs.o.trans)
 go_loopw [16,6] (fun i x wr=> ∃(k:Nat) (acc:List UInt8),k<=n/\i= .int .i64 (k:Int)/\kA cs rs []=kA cs (rs.drop k) acc/\acc.length<=k*32768/\me wr w.heap.size x acc/\Below w.heap.size w wr) (fun i _ _=>n-(intOf i).toNat)
 ·exact⟨0,[],aU _,rfl,rfl,by simp,hT.o,hN.o⟩
 ·obtain⟨k,acc,hk,rfl,hf,h4,ho,hb⟩:=hrel;obtain⟨ax,cx,rfl,h9,Ha⟩:=aH ho;have HF:=ah hf;have HO:=ah ho;have HB:=ah hb;clear hf ho hb
  by_cases hJ:k<n
  ·obtain⟨r,hr⟩: ∃r,rs[k]? =some r:=⟨rs[k]'(by rw[<-HN.o]; exact hJ),by simp⟩;obtain⟨b,o,rfl,hA,p0,p1,p2⟩:=nE HV.o HB.o hr;have HA:=ah ((ak wr.heap.size wr).alloc (ai _) (.cells #[.string r.name, .int .i64 r.gen, .int .i64 r.size] 26));have hh:=zq S cv cs r _ ((HC.o.below HB.o).below HA.o) hA;have hL:=(mV.1 (hX.o r (aQ hr))).2.2.2
   have hq:=ah (HB.o.trans (HA.o.mono HB.o.size));have hV:=ah (cW HO.o HA.o);have hB:=ah (show rs.drop k=r::rs.drop (k+1) by
    rw[cA (by rw[<-HN.o]; exact hJ)]
    congr 1
    exact(aD.1 hr).2)
   unfold Cf at hh
   cases ha:iK cs r with
   | error x=>
    rw[ha]at hh;have hu:=ah hh;have hw:=ah (show kA cs rs []= .error x by rw[HF.o,hB.o,kA,ha]);clear ha hh hr hA hL;go_wp2_with fail;refine hu.o.mono ?_;rintro e w5 ⟨hj,rfl,hx⟩;have hl:=ah (hq.o.trans (hj.mono hq.o.size));clear hj;go_wp2_with fail
    go_ret2
    refine⟨hl.o, ?_⟩;rw[hw.o];exact⟨rfl,hx⟩
   | ok bs=>
    rw[ha]at hh;have hu:=ah hh;have hw:=ah (show kA cs rs []=kA cs (rs.drop (k+1)) (acc++bs) by rw[HF.o,hB.o,kA,ha]);have h1:bs.length<=32768:=by
     unfold iK at ha
     cases hf:di cs r.name with
     | none=>rw[hf]at ha; cases ha
     | some y=>
      rw[hf]at ha;simp only at ha
      split at ha
      ·cases ha; omega
      ·cases ha
    clear ha hh hr hA hL;go_wp2_with fail;refine hu.o.mono ?_;rintro e w5 ⟨hj,v5,rfl,hy⟩;obtain⟨_,a5,c5,rfl,-,-,-⟩:=id hy
    obtain⟨m,hm⟩:=bI bs.length;have HM:=ah hm;have hl:=ah (hq.o.trans (hj.mono hq.o.size));have hC:=ah (cW hV.o hj);have hO:=ah (show cD S w5 1 (.slice a5 m c5) m (bs.map aY) by rw[hm]; exact hy);rw[<-hm]at h1 ⊢;have hW:=ah (show ∀u∈bs.map aY,u.oneCell'=true from fy bs);have hS:=ah (show acc.length+m<1099511627775 by omega);clear hj hy hm p0 p1 p2
    go_wp2_with (at_builtin; go_must (refine ew Tryz.appBytes rfl _ _ rfl w.heap.size (.slice ax acc.length cx) acc.length (acc.map aY) rfl hC.o _ m (bs.map aY) rfl hO.o hW.o hS.o hl.o.size ?_); intro v6 wz hg hd; have hU:=ah hg; have hR:=ah hd; clear hg hd)
    go_roundw
    ·refine⟨k+1,acc++bs,by omega,by go_num,hw.o, ?_, ?_,hl.o.grown hR.o hl.o.size (fun k e=>(oY hC.o e).1)⟩
     ·rw[ag,<-HM.o]; omega
     ·unfold me;rw[ag,aL,<-HM.o];exact hU.o
    simp[intOf]; omega
  ·have h3:k=n:=by omega
   subst h3;go_wp2_with fail
   go_ret2
   refine⟨HB.o, ?_⟩;rw[HF.o,HN.o,jd];exact⟨_,rfl,HO.o⟩
theorem yg {l:List cH} (hl:l.length<=1048576) (h: ∀r∈l,lF r=true): ∀k,k<=l.length->0<=ni (l.take k)/\ni (l.take k)<=(k:Int)*32768
 | 0,_=>by simp[ni]
 | k+1,hk=>by
  have ih:=yg hl h k (by omega);have hr:l[k]? =some (l[k]'(by omega)):=by simp
  have hz:=(mV.1 (h _ (List.getElem_mem (by omega:k<l.length)))).2.2.2;rw[dZ hr,AN];unfold wrap64;omega
end
section
open Go.RowKit
def jS (dir name:ByteArray):ByteArray:=if dir.size=0 then name else dir++⟨#[47]⟩++name
def mO (cs:List (ByteArray×List UInt8)) (it:cj):List UInt8×Int:=
 if it.kind=1 then(match kA cs it.chunks []with | .error x=>([],x) | .ok bs=>(bs,0))else([],0)
def iR (cs:List (ByteArray×List UInt8)) (rec:ByteArray->cH->List dd->Int×List dd) (dir:ByteArray):List cj->List dd->Int×List dd
 | [],acc=>(0,acc)
 | it::r,acc=>
  if dH (bl (jS dir it.name))=true/\acc.length<4096 then
   let acc1:=acc++[⟨jS dir it.name,it.kind,it.mode,it.time,(mO cs it).1,it.link⟩]
   let p:=if it.kind=2 then rec (jS dir it.name) it.node acc1 else((mO cs it).2,acc1)
   if p.1=0 then iR cs rec dir r p.2 else p
  else(2,acc)
def ie (cs:List (ByteArray×List UInt8)):Nat->ByteArray->cH->List dd->Int×List dd
 | 0,_,_,acc=>(0,acc)
 | f+1,dir,ref,acc=>match iz cs ref with
  | .error x=>(x,acc)
  | .ok l=>iR cs (ie cs f) dir l acc
def lI (cs:List (ByteArray×List UInt8)) (root:cH):Except Int (List dd):=
 if lF root=true then(if(ie cs 514 ⟨#[]⟩ root []).1=0 then .ok (ie cs 514 ⟨#[]⟩ root []).2 else .error (ie cs 514 ⟨#[]⟩ root []).1)else .error 1
def LO (xs:List ByteArray) (w:World) (e:Ending) (w':World):Prop:=
 ∃a cap,e= .returned (.tuple #[.slice a xs.length cap, .int .i64 0])/\xs.length<=cap/\cap<=maxLen/\lP (w.heap.size<= ·) w' (.slice a xs.length cap) xs/\Below w.heap.size w w'
theorem sw : ∀ {xs ys:List ByteArray},xs.map bl=ys.map bl->xs=ys
 | [],[],_=>rfl
 | [],_::_,h=>by simp at h
 | _::_,[],h=>by simp at h
 | x::xs,y::ys,h=>by simp only[bW,gL]at h;rw[kr h.1,sw h.2]
def jR (l:List UInt8):List ByteArray:=(dg 47 l).map fun p=>⟨p.toArray⟩
theorem Ar (l:List UInt8):(jR l).map bl=dg 47 l:=by
 unfold jR;rw[je];have:(bl ∘ fun p:List UInt8=>(⟨p.toArray⟩:ByteArray))=id:=by funext p; exact iX p
 rw[this,List.map_id]
theorem Ex (s:ByteArray) (w:World) (he:oz w) (hv:dH (bl s)=true):Calls Tryz.prog 82 #[.string s] w (LO (jR (bl s)) w):=by
 refine(rk s w he).mono ?_;rintro e w' (⟨_,v,xs,rfl,hx,hs,hb⟩ | ⟨hf,_⟩)
 ·have:xs=jR (bl s):=sw (hx.trans (Ar _).symm);subst this;obtain⟨a,cap,rfl,h1,h2,_⟩:=hs.shape;exact⟨a,cap,rfl,h1,h2,hs,hb⟩
 ·rw[hv]at hf; cases hf
theorem Ln (s:ByteArray) (w:World) (he:oz w) (hv:dH (bl s)=false):Calls Tryz.prog 82 #[.string s] w fun e w'=>e= .returned (.tuple #[.slice none 0 0, .int .i64 1])/\Below w.heap.size w w':=by
 refine(rk s w he).mono ?_;rintro e w' (⟨ht,_⟩ | ⟨_,rfl,hb⟩)
 ·rw[hv]at ht; cases ht
 ·exact⟨rfl,hb⟩
def pA (cs:List (ByteArray×List UInt8)):List ByteArray->cj->Except Int cj
 | [],it=> .ok it
 | c::r,it=>if it.kind=2 then(match iz cs it.node with
  | .error x=> .error x
  | .ok l=>match l.find? (fun y=>decide (y.name=c))with
   | none=> .error 4
   | some y=>pA cs r y)else .error 4
def nz (root:cH):cj:=⟨⟨#[]⟩,2,0,0,0,⟨#[]⟩,[],root⟩
def lm (cs:List (ByteArray×List UInt8)) (root:cH) (path:ByteArray):Except Int cj:=
 if dH (bl path)=true/\lF root=true then pA cs (jR (bl path)) (nz root)else .error 1
structure nt (w : World) (base wb eb sb : Nat) (fv v : Value) (ex rs : List cH) : Prop where
 box:w.heap[wb]? =some (.cells #[fv, .map (some eb), .map (some sb),v] 191 (0,0))
 exs:jX w eb ex
 see:jX w sb rs
 row:w.ownsRow base 26 3 v rs.length (rs.flatMap jp)
 ne:eb≠sb
def pk (wb eb sb:Nat) (v:Value) (k:Nat):Prop:=k=wb\/k=eb\/k=sb\/v.ownBlock=some k
section
variable {w w' : World} {base wb eb sb : Nat} {fv v : Value} {ex rs : List cH}
theorem jX.cells {b:Nat} {l:List cH} (h:jX w b l) {cs:Array Value} {t:TypeId} {z:Nat×Nat} :w.heap[b]? ≠some (.cells cs t z):=fun e=>by obtain⟨es,clock,hb,_⟩:=h.map;rw[hb]at e; cases e
theorem nt.wne (h:nt w base wb eb sb fv v ex rs):wb≠eb/\wb≠sb:=⟨fun e=>h.exs.cells (e▸h.box),fun e=>h.see.cells (e▸h.box)⟩
theorem bJ {e:TypeId} {sz:Nat} {n:Nat} {xs:List Value} {k:Nat} (h:w.ownsRow base e sz v n xs) (hk:v.ownBlock=some k): ∃cs,w.heap[k]? =some (.cells cs e (0,0)):=by
 obtain⟨_,h2⟩:=h
 rcases h2 with⟨rfl,rfl⟩ | ⟨g,cap,cur,rfl,_,hh,_⟩
 ·cases hk
 ·have:g=k:=by simpa [Value.ownBlock]using hk
  subst this;exact⟨cur,hh⟩
theorem nt.own (h:nt w base wb eb sb fv v ex rs) {k:Nat} (hk:v.ownBlock=some k):k≠wb/\k≠eb/\k≠sb:=by
 obtain⟨cs,hc⟩:=bJ h.row hk;refine⟨fun e=> ?_,fun e=> ?_,fun e=> ?_⟩
 ·subst e;have:=hc.symm.trans h.box;simp at this
 ·subst e; exact h.exs.cells hc
 ·subst e; exact h.see.cells hc
theorem nt.keep (h:nt w base wb eb sb fv v ex rs) (hs: ∀k,k<w.heap.size->pk wb eb sb v k->w'.heap[k]? =w.heap[k]?):nt w' base wb eb sb fv v ex rs:=by
 refine⟨(hs wb (am h.box) (.inl rfl)).trans h.box,h.exs.same (hs eb h.exs.map.lt (.inr (.inl rfl))),h.see.same (hs sb h.see.map.lt (.inr (.inr (.inl rfl)))), ?_,h.ne⟩;obtain⟨hl,h2⟩:=h.row;refine⟨hl, ?_⟩
 rcases h2 with h2 | ⟨g,cap,cur,rfl,hg,hh,h3⟩
 ·exact .inl h2
 ·exact .inr ⟨g,cap,cur,rfl,hg,(hs g (am hh) (.inr (.inr (.inr rfl)))).trans hh,h3⟩
theorem nt.below (h:nt w base wb eb sb fv v ex rs) (hb:Below w.heap.size w w'):nt w' base wb eb sb fv v ex rs:=h.keep (fun k hk _=>hb.block k hk)
theorem nt.ok (h:nt w base wb eb sb fv v ex rs): ∀r∈rs,eF r:=h.see.ok
theorem nt.shape (h:nt w base wb eb sb fv v ex rs): ∃a cap,v= .slice a rs.length cap:=by obtain⟨a,cap,h1,_⟩:=aH h.row;exact⟨a,cap,h1⟩
end
def dC (r:cH) (rs:List cH):List cH:=if r∈rs then rs else rs++[r]
def LW (base wb eb sb:Nat) (fv v:Value) (ex rs:List cH) (w w':World):Prop:=
 ∃v',nt w' base wb eb sb fv v' ex rs/\iq (pk wb eb sb v) w w'/\ ∀k,v'.ownBlock=some k->v.ownBlock=some k\/w.heap.size<=k
theorem vm (base wb eb sb:Nat) (fv v:Value) (ex rs:List cH) (r:cH) (w:World) (h:nt w base wb eb sb fv v ex rs) (hr:eF r) (hl:rs.length<1099511627775) (hbase:base<=w.heap.size):
  Calls Tryz.prog 161 #[.pointer (some ⟨wb,0,none⟩),fi r] w fun e w'=>e= .returned (.tuple #[])/\LW base wb eb sb fv v ex (dC r rs) w w':=by
 obtain⟨av,cv,rfl⟩:=h.shape;obtain⟨W,hW⟩:=bI ((w.alloc (.cells #[.string r.name, .int .i64 r.gen, .int .i64 r.size] 26)).drew);have hB:Below w.heap.size w W:=by rw[hW]; exact(eW).drew
 have hv:=ah hB;have HK:=ah (h.below hB);have bx:W.heap[w.heap.size]? =some (.cells #[.string r.name, .int .i64 r.gen, .int .i64 r.size] 26 (0,0)):=by rw[hW]; exact aG w _
 have hI:=ah bx;have HR:=ah hr;have HW:=ah hW;have q0:=bQ (k:=0) bx;have q1:=bQ (k:=1) bx;have q2:=bQ (k:=2) bx;have c2:=bQ (k:=2) HK.o.box;have hs:=HK.o.see.look hr;simp only[gd]at q0 q1 q2 c2;have hZ:wb<w.heap.size:=am h.box;have H0:=ah h;unfold fi at hs ⊢;clear h hr bx hB
 by_cases hm:r∈rs
 ·have e1:decide (r∈rs)=true:=by simp[hm]
  have HM:=ah (show dC r rs=rs by unfold dC; rw[if_pos hm]);rw[e1]at hs;clear e1 hm
  go_enter Tryz.func161,Tryz.ntmps161
  go_wp2_with fail;refine bL [some 7] (by kernel_rfl) (by kernel_rfl) (by kernel_rfl) ?_;simp only[ed,aR,aZ];rw[<-HW.o];clear hW
  repeat (first | (refine cy rfl ?_; simp only[bN]) | (refine cU rfl (fun K hK=> ?_); go_simp; refine hK _ ?_; clear hK K))
  refine cT ?_;go_wp2_with fail
  go_end0
  exact⟨rfl, .slice av rs.length cv,by rw[HM.o]; exact HK.o,iq.of_below hv.o,fun k hk=> .inl hk⟩
 ·have e1:decide (r∈rs)=false:=by simp[hm]
  have HM:=ah (show dC r rs=rs++[r] by unfold dC; rw[if_neg hm]);have hN:=ah hm;rw[e1]at hs;clear e1 hm
  go_enter Tryz.func161,Tryz.ntmps161
  go_wp2_with fail;refine bL [some 7] (by kernel_rfl) (by kernel_rfl) (by kernel_rfl) ?_;simp only[ed,aR,aZ];rw[<-HW.o];clear hW
  repeat (first | (refine cy rfl ?_; simp only[bN]) | (refine cU rfl (fun K hK=> ?_); go_simp; refine hK _ ?_; clear hK K))
  refine cT ?_;go_wp2_with fail;refine bL [some 5,none] (by kernel_rfl) (by kernel_rfl) (by kernel_rfl) ?_;simp only[ed,aR,aZ,bA,bR];have hM:=ah (HK.o.below ((ak _ W).drew))
  repeat (first | (refine cy rfl ?_; simp only[bN]) | (refine cU rfl (fun K hK=> ?_); go_simp; refine hK _ ?_; clear hK K))
  refine cT ?_;refine eu rfl (fun K hK=> ?_);go_wp2_with (at_mapUpdate; go_must (refine mM rfl _ _ _ rfl sb rs hM.o.see rfl r HR.o rfl rfl hN.o ?_); intro w2 hn hF);have hY:sb<w.heap.size:=H0.o.see.map.lt;have hX:eb<w.heap.size:=H0.o.exs.map.lt;have hV:=hv.o.size;obtain⟨W3,hq⟩:=bI w2.drew;have he:W.grownBy W3 (some sb):=by rw[hq]; exact cg (b:=W.drew) ⟨rfl,rfl,rfl,ai _,fun _ _ _=>rfl⟩ (cg hF ⟨rfl,rfl,rfl,ai _,fun _ _ _=>rfl⟩)
  have h0:=he.size;have hf:=ah (show jX W3 sb (rs++[r]) by rw[hq]; exact hn.same rfl);have hC:=ah (HK.o.exs.same (w':=W3) (he.block eb HK.o.exs.map.lt (by simp; exact HK.o.ne)));have hA:=ah (HK.o.row.kept he (.inr (fun e=>(HK.o.own e).2.2 rfl)));have hp:=ah (nr he HK.o.box HK.o.wne.2);have hy:=ah (nr he hI.o (by omega));have hJ:=ah he;have c3:=bQ (k:=3) hp.o
  have f3:=dE (k:=3) hp.o;obtain⟨r0,r1,r2,_⟩:=aS hy.o;simp only[gd]at c3;clear q0 q1 q2 c2 hs hn hF he;refine eJ (fun w'=>w'.cell? ⟨wb,3,none⟩=some (.slice av rs.length cv)/\w'.cell? ⟨w.heap.size,0,none⟩=some (.string r.name)/\w'.cell? ⟨w.heap.size,1,none⟩=some (.int .i64 r.gen)/\w'.cell? ⟨w.heap.size,2,none⟩=some (.int .i64 r.size)) (by kernel_rfl) (by kernel_rfl) ?_
  simp only[bt,bu,az,bo,Nat.reduceAdd,Nat.reduceSub];rw[<-hq];clear hq
  iterate 6 (refine cI rfl (by go_simp) (by rintro w' ⟨hR,hS,hT,hU⟩; go_simp; rfl) ?_; simp only[bN])
  have hh:wb<W3.heap.size:=am hp.o;have hc:w.heap.size<W3.heap.size:=am hy.o;have ho:=ah ((ak W3.heap.size W3).alloc (ai _) (.cells #[.string r.name, .int .i64 r.gen, .int .i64 r.size] 26));have hE:=aA ((ho.o.cell (p:=⟨wb,3,none⟩) hh).trans c3) (aA ((ho.o.cell (p:=⟨w.heap.size,0,none⟩) hc).trans r0) (aA ((ho.o.cell (p:=⟨w.heap.size,1,none⟩) hc).trans r1) ((ho.o.cell (p:=⟨w.heap.size,2,none⟩) hc).trans r2)))
  have hP:=ah hE;clear hE;refine cC 6 rfl (fun K hK=> ?_);go_wp2_with fail
  (first | (refine⟨hP.o, ?_⟩) | skip)
  refine cC 7 rfl (fun K hK=> ?_);go_wp2_with (at_builtin; go_must (refine bO Tryz.appRefs rfl _ _ rfl base (.slice av rs.length cv) rs.length (rs.flatMap jp) rfl W3 [.string r.name, .int .i64 r.gen, .int .i64 r.size] _ rfl rfl (qY (r:=r)) hA.o (by omega) (by omega) ?_); intro v' wc hb ha _ hG; obtain⟨ae,ce,rfl,-,-⟩:=aH hb);have hu: ∀k,(Value.slice av rs.length cv).ownBlock=some k->k≠wb/\k≠eb/\k≠sb:=fun k hk=>H0.o.own hk
  have hj:(Value.slice av rs.length cv).ownBlock≠some w.heap.size:=fun e=>by have:=(H0.o.row.lt _ e).2; omega
  have hd:=ah ((ha.block wb hh (fun e=>(hu wb e.symm).1 rfl)).trans hp.o);have hz:=ah ((ha.block w.heap.size hc (fun e=>hj e.symm)).trans hy.o);have hw:=ah (hC.o.same (ha.block eb hC.o.map.lt (fun e=>(hu eb e.symm).2.1 rfl)));have hg:=ah (hf.o.same (ha.block sb hf.o.map.lt (fun e=>(hu sb e.symm).2.2 rfl)));have hL:=ah ha;have hD:=ah hG
  have hO:=ah (show wc.ownsRow base 26 3 (.slice ae (rs.length+1) ce) (rs++[r]).length ((rs++[r]).flatMap jp) by rw[ag,bV]; simpa [jp]using hb);have c4:=bQ (k:=3) hd.o;have f4:=dE (k:=3) hd.o;obtain⟨s0,s1,s2,_⟩:=aS hz.o;simp only[gd]at c4;clear hb ha hG c3 f3 r0 r1 r2 hu hj;refine⟨⟨c4,s0,s1,s2⟩, ?_⟩
  iterate 2 (refine cI rfl (by go_simp) (by rintro w' ⟨hR,hS,hT,hU⟩; go_simp; rfl) ?_; simp only[bN])
  refine cL (by kernel_rfl) ?_;refine eU rfl rfl (fun K hK=> ?_);go_wp2_with fail
  go_end0
  refine⟨rfl, .slice ae (rs.length+1) ce, ?_, ?_, ?_⟩
  ·rw[HM.o];have hH:=H0.o.wne;have hx:=jm (k:=3) hd.o (.slice ae (rs.length+1) ce);simp only[aW,cG,cn]at hx;refine⟨hx,hw.o.same (ay _ _ _ _ (kT hH.1)),hg.o.same (ay _ _ _ _ (kT hH.2)),hO.o.kept (cK _ _ _ _) (.inr (fun e=> ?_)),H0.o.ne⟩
   rcases hD.o wb e with h1 | h1
   ·exact(H0.o.own h1).1 rfl
   ·omega
  ·refine iq.trans (iq.of_below hv.o) (iq.trans (S:=pk wb eb sb (.slice av rs.length cv)) (iq.of_grown hJ.o (fun k hk=>by cases hk; exact .inr (.inr (.inl rfl)))) (iq.trans (S:=pk wb eb sb (.slice av rs.length cv)) (iq.of_grown hL.o (fun k hk=> .inr (.inr (.inr hk)))) (iq.of_grown (S:=pk wb eb sb (.slice av rs.length cv)) (cK wc wb 3 _) (fun k hk=>by cases hk; exact .inl rfl)) (fun i _ h=>h)) (fun i _ h=>h)) (fun i _ h=>h)
  ·intro k hk
   rcases hD.o k hk with h1 | h1
   ·exact .inl h1
   ·exact .inr (by omega)
def gj (cs rs:List cH):List cH:=cs.foldl (fun rs r=>dC r rs) rs
def kH (f:cH->List cH×List cH->Option (Int×(List cH×List cH))):List cj->List cH×List cH->Option (Int×(List cH×List cH))
 | [],st=>some (0,st)
 | it::l,st=>if it.kind≠2 then kH f l (st.1,gj it.chunks st.2)else
  (f it.node (st.1,gj it.chunks st.2)).bind fun p=>if p.1≠0 then some p else kH f l p.2
def jx (visit:cH->Except Int (List cj)):Nat->cH->List cH×List cH->Option (Int×(List cH×List cH))
 | 0,_,_=>none
 | n+1,r,st=>if r∈st.1 then some (0,(st.1,dC r st.2))else match visit r with
  | .error x=>some (x,(st.1++[r],dC r st.2))
  | .ok l=>kH (jx visit n) l (st.1++[r],dC r st.2)
theorem qQ (r:cH) (rs:List cH):rs.length<=(dC r rs).length:=by
 unfold dC
 split
 ·exact ai _
 ·simp
theorem rD : ∀(cs rs:List cH),rs.length<=(gj cs rs).length
 | [],_=>ai _
 | c::cs,rs=>an (qQ c rs) (rD cs (dC c rs))
theorem DI (cs:List cH) (c:cH) (rs:List cH):gj (cs++[c]) rs=dC c (gj cs rs):=by unfold gj; rw[eR]; rfl
theorem xz (cs rs:List cH) (j:Nat):(gj (cs.take j) rs).length<=(gj cs rs).length:=by
 have:gj cs rs=gj (cs.drop j) (gj (cs.take j) rs):=by unfold gj;rw[<-eR,dx]
 rw[this];exact rD _ _
theorem og {f:cH->List cH×List cH->Option (Int×(List cH×List cH))} (hf: ∀r st x st',f r st=some (x,st')->st.2.length<=st'.2.length):
  ∀(l:List cj) (st:List cH×List cH) (x:Int) (st':List cH×List cH),kH f l st=some (x,st')->st.2.length<=st'.2.length
 | [],st,x,st',h=>by simp only[kH,aX,cF]at h;obtain⟨_,rfl⟩:=h;exact ai _
 | it::l,st,x,st',h=>by
  rw[kH]at h
  split at h
  ·exact an (rD it.chunks st.2) (og hf l _ x st' h)
  ·rw[dF]at h;obtain⟨⟨y,st2⟩,h1,h2⟩:=h;have h3:=hf _ _ _ _ h1;have h4:=rD it.chunks st.2;simp only at h2 h3
   split at h2
   ·simp only[aX,cF]at h2;obtain⟨_,rfl⟩:=h2;exact an h4 h3
   ·exact an (an h4 h3) (og hf l _ x st' h2)
theorem pK (visit:cH->Except Int (List cj)): ∀(n:Nat) (r:cH) (st:List cH×List cH) (x:Int) (st':List cH×List cH),jx visit n r st=some (x,st')->st.2.length<=st'.2.length
 | 0,_,_,_,_,h=>by simp[jx]at h
 | n+1,r,st,x,st',h=>by
  have hm:=qQ r st.2;rw[jx]at h
  split at h
  ·simp only[aX,cF]at h;obtain⟨_,rfl⟩:=h;exact hm
  ·split at h
   ·simp only[aX,cF]at h;obtain⟨_,rfl⟩:=h;exact hm
   ·exact an hm (og (pK visit n) _ _ x st' h)
def PV (res:Except Int (List cj)) (w:World) (e:Ending) (w':World):Prop:=Below w.heap.size w w'/\match res with
 | .error x=>e= .returned (.tuple #[.slice none 0 0, .int .i64 x])/\x≠0
 | .ok l=> ∃v,e= .returned (.tuple #[v, .int .i64 0])/\eP (w.heap.size<= ·) w' v l
theorem nt.notown {w:World} {base wb eb sb:Nat} {fv v:Value} {ex rs:List cH} (h:nt w base wb eb sb fv v ex rs) {k:Nat} {cs:Array Value} {t:TypeId} {z:Nat×Nat} (hb:w.heap[k]? =some (.cells cs t z)) (h1:t≠191) (h2:t≠26): ¬pk wb eb sb v k:=by
 rintro(e | e | e | e)
 ·subst e;have:=hb.symm.trans h.box;simp at this;exact h1 this.2.1
 ·subst e; exact h.exs.cells hb
 ·subst e; exact h.see.cells hb
 ·obtain⟨cs',hc⟩:=bJ h.row e;have:=hb.symm.trans hc;simp at this;exact h2 this.2.1
structure wj (w : World) (B h5 h6 base wb eb sb : Nat) (fv v itv : Value) (l : List cj) (wr : World) (v2 : Value) (ex rs : List cH) : Prop where
 at':nt wr base wb eb sb fv v2 ex rs
 gr:iq (pk wb eb sb v) w wr
 own: ∀k,v2.ownBlock=some k->v.ownBlock=some k\/w.heap.size<=k
 apart: ∀k,v2.ownBlock=some k->k<h5\/h6<=k
 lo:wb<h5/\eb<h5/\sb<h5
 ord:w.heap.size<=h5/\h5<=h6/\h6<=wr.heap.size
 its:eP (fun k=>h5<=k/\k<h6) wr itv l
theorem eP.same {S:Nat->Prop} {w w':World} {v:Value} {l:List cj} (h:eP S w v l) (hs: ∀k,k<w.heap.size->S k->w'.heap[k]? =w.heap[k]?):eP S w' v l:=by obtain⟨cells,hr,ha⟩:=h;have h2:=hr.mono (T:=fun k=>k<w.heap.size/\S k) (fun k hk hS=>⟨hk,hS⟩) (by omega);have h3:=h2.same (w':=w') (fun k hk=>hs k hk.1 hk.2);exact⟨cells,h3.weak (fun k hk=>hk.2),ha.mono (fun c x _ hx=>hx.same (fun k hk hS=>⟨hS,hs k hk hS⟩))⟩
section
variable {w wr w' : World} {B h5 h6 base wb eb sb : Nat} {fv v itv v2 v3 : Value} {l : List cj} {ex rs ex3 rs3 : List cH}
theorem wj.below (h:wj w B h5 h6 base wb eb sb fv v itv l wr v2 ex rs) (hb:Below wr.heap.size wr w'):wj w B h5 h6 base wb eb sb fv v itv l w' v2 ex rs:=
 ⟨h.at'.below hb,h.gr.trans (iq.of_below hb (S:=fun _=>False)) (fun _ _ h=>False.elim h),h.own,h.apart,h.lo,⟨h.ord.1,h.ord.2.1,an h.ord.2.2 hb.size⟩,h.its.below hb⟩
theorem wj.notown (h:wj w B h5 h6 base wb eb sb fv v itv l wr v2 ex rs) {k:Nat} (hk:h5<=k/\k<h6): ¬pk wb eb sb v2 k:=by
 have:=h.lo;rintro(e | e | e | e)
 ·omega
 ·omega
 ·omega
 ·have:=h.apart k e; omega
theorem wj.step (h:wj w B h5 h6 base wb eb sb fv v itv l wr v2 ex rs) (hr:LW base wb eb sb fv v2 ex3 rs3 wr w'): ∃v3,wj w B h5 h6 base wb eb sb fv v itv l w' v3 ex3 rs3/\iq (pk wb eb sb v2) wr w':=by
 obtain⟨v3,h1,h2,h3⟩:=hr;have hz:=h.gr.size;refine⟨v3,⟨h1,h.gr.trans h2 (fun i hi ho=> ?_),fun k hk=> ?_,fun k hk=> ?_,h.lo,⟨h.ord.1,h.ord.2.1,an h.ord.2.2 h2.size⟩,h.its.same (fun k hk hS=>h2.block k hk (h.notown hS))⟩,h2⟩
 ·rcases ho with e | e | e | e
  ·exact .inl e
  ·exact .inr (.inl e)
  ·exact .inr (.inr (.inl e))
  ·rcases h.own i e with e | e
   ·exact .inr (.inr (.inr e))
   ·omega
 ·rcases h3 k hk with e | e
  ·exact h.own k e
  ·exact .inr (by omega)
 ·rcases h3 k hk with e | e
  ·exact h.apart k e
  ·have:=h.ord; exact .inr (by omega)
end
def LT (visit:cH->Except Int (List cj)) (F:Nat) (cv:Value) (I:World->Prop) (B n:Nat):Prop:= ∀(r:cH) (st:List cH×List cH) (x:Int) (st':List cH×List cH) (base wb eb sb:Nat) (v:Value) (w:World),jx visit n r st=some (x,st')->st'.2.length<1099511627775->
 nt w base wb eb sb (.func (.func F) #[cv] #[]) v st.1 st.2->eF r->I w->(B<=base/\B<=wb/\B<=eb/\B<=sb)->base<=w.heap.size->
 Calls Tryz.prog 133 #[.pointer (some ⟨wb,0,none⟩),fi r] w fun e w'=>e= .returned (.int .i64 x)/\LW base wb eb sb (.func (.func F) #[cv] #[]) v st'.1 st'.2 w w'
def LS (visit:cH->Except Int (List cj)) (F:Nat) (cv:Value) (I:World->Prop):Prop:= ∀(W:World) (r:cH),I W->eF r->Calls Tryz.prog F #[cv,fi r] W (PV (visit r) W)
def GN (I:World->Prop) (B:Nat):Prop:= ∀w w':World,I w->iq (B<= ·) w w'->I w'
theorem FU {B base wb eb sb:Nat} {w:World} {fv v:Value} {ex rs:List cH} (h:nt w base wb eb sb fv v ex rs) (hB:B<=base/\B<=wb/\B<=eb/\B<=sb) {k:Nat} (hk:pk wb eb sb v k):B<=k:=by
 rcases hk with e | e | e | e
 ·omega
 ·omega
 ·omega
 ·have:=(h.row.lt k e).1; omega
theorem xc {S T:Nat->Prop} {w w':World} (h:iq S w w') (hs: ∀k,S k->T k):iq T w w':=⟨h.os,h.tape,h.output,h.size,fun k hk hn=>h.block k hk (fun hS=>hn (hs k hS))⟩
theorem eP.lt {S:Nat->Prop} {w:World} {v:Value} {l:List cj} (h:eP S w v l):eP (fun k=>S k/\k<w.heap.size) w v l:=by obtain⟨cells,hr,ha⟩:=h;exact⟨cells,hr.mono (fun k hk hS=>⟨hS,hk⟩) (by omega),ha.mono (fun c x _ hx=>hx.same (fun k hk hS=>⟨⟨hS,hk⟩,rfl⟩))⟩
theorem xH {f:cH->List cH×List cH->Option (Int×(List cH×List cH))} {it:cj} {l:List cj} {ex rs:List cH} {q:Int×(List cH×List cH)} (h:kH f (it::l) (ex,rs)=some q):
  (it.kind≠2/\kH f l (ex,gj it.chunks rs)=some q)\/(it.kind=2/\ ∃y st2,f it.node (ex,gj it.chunks rs)=some (y,st2)/\((y≠0/\q=(y,st2))\/(y=0/\kH f l st2=some q))):=by
 rw[kH]at h
 split at h
 ·rename_i hk;exact .inl ⟨hk,h⟩
 ·rename_i hk;rw[dF]at h;obtain⟨⟨y,st2⟩,h1,h2⟩:=h;refine .inr ⟨Decidable.not_not.1 hk,y,st2,h1, ?_⟩;simp only at h2
  split at h2
  ·rename_i hy;exact .inl ⟨hy,(bK h2).symm⟩
  ·rename_i hy;exact .inr ⟨Decidable.not_not.1 hy,h2⟩
theorem Kx {visit:cH->Except Int (List cj)} {n:Nat} {it:cj} {l:List cj} {ex rs:List cH} {x:Int} {st':List cH×List cH} (h:kH (jx visit n) (it::l) (ex,rs)=some (x,st')):(gj it.chunks rs).length<=st'.2.length:=by
 rcases xH h with⟨_,h2⟩ | ⟨_,y,st2,h1,h2⟩
 ·exact og (pK visit n) l _ x st' h2
 ·have h3:=pK visit n _ _ _ _ h1
  rcases h2 with⟨_,h2⟩ | ⟨_,h2⟩
  ·obtain⟨_,rfl⟩:=kq h2;exact h3
  ·exact an h3 (og (pK visit n) l _ x st' h2)
def oK (visit:cH->Except Int (List cj)) (n:Nat) (root:cH):Option (Except Int (List cH)):=
 if lF root=true then(jx visit n root ([],[])).map fun p=>if p.1=0 then .ok p.2.2 else .error p.1 else some (.error 1)
def Bf (res:Except Int (List cH)) (w:World) (e:Ending) (w':World):Prop:=Below w.heap.size w w'/\match res with
 | .error x=>e= .returned (.tuple #[.slice none 0 0, .int .i64 x])/\x≠0
 | .ok rs=> ∃v,e= .returned (.tuple #[v, .int .i64 0])/\dN (w.heap.size<= ·) w' v rs
theorem Og {w:World} {B:Nat} {fv:Value} :nt (((w.alloc (.map #[] 0)).alloc (.map #[] 0)).alloc (.cells #[fv, .map (some w.heap.size), .map (some (w.heap.size+1)), .slice none 0 0] 191)) B (w.heap.size+1+1) w.heap.size (w.heap.size+1) fv (.slice none 0 0) [] []:=by
 have e1:(w.alloc (.map #[] 0)).heap.size=w.heap.size+1:=by simp
 have e2:((w.alloc (.map #[] 0)).alloc (.map #[] 0)).heap.size=w.heap.size+1+1:=by simp
 have h1:=jX.made w;have h2:=jX.made (w.alloc (.map #[] 0));rw[e1]at h2;have h3:=aG ((w.alloc (.map #[] 0)).alloc (.map #[] 0)) (.cells #[fv, .map (some w.heap.size), .map (some (w.heap.size+1)), .slice none 0 0] 191);rw[e2]at h3;refine⟨h3, ?_,h2.same (cS _ _ _ (by rw[e2]; omega)),bM _ _ _ _,by omega⟩;exact h1.same ((cS _ _ _ (by rw[e2]; omega)).trans (cS _ _ _ (by rw[e1]; omega)))
structure lO (B : Nat) (cv : Value) (cs : List (ByteArray × List UInt8)) (w : World) : Prop where
 cont:gy (· <B) w cv cs
 env:oz w
 lt:1<B/\3<B/\4<B
 size:B<=w.heap.size
theorem cD.lt' {S:Nat->Prop} {w:World} {sz:Nat} {v:Value} {n:Nat} {cells:List Value} (h:cD S w sz v n cells) (hs:0<sz):cD (· <w.heap.size) w sz v n cells:=h.mono (fun _ hk _=>hk) hs
theorem gy.lt {S:Nat->Prop} {w:World} {cv:Value} {cs:List (ByteArray×List UInt8)} (h:gy S w cv cs):gy (· <w.heap.size) w cv cs:=by
 rcases h with h | ⟨b,m,h1,h0,h2,h3⟩
 ·exact .inl h
 ·refine .inr ⟨b,m,h1,h2.lt,h2, ?_⟩;clear h1 h2 h0
  induction m generalizing cs with
  | nil=>cases cs with
   | nil=>trivial
   | cons=>exact h3
  | cons p m ih=>cases cs with
   | nil=>exact h3
   | cons q cs=>exact⟨h3.1,cD.lt' h3.2.1 (by omega),ih h3.2.2⟩
theorem lO.keep {B:Nat} {cv:Value} {cs:List (ByteArray×List UInt8)} :GN (lO B cv cs) B:=by
 intro w w' h hg;have hb:Below B w w':=hg.below h.size (fun k hk=>hk);refine⟨?_,h.env.belowB hb h.lt.1 h.lt.2.1 h.lt.2.2,h.lt,an h.size hg.size⟩
 rcases h.cont with h1 | ⟨b,m,h1,h0,h2,h3⟩
 ·exact .inl h1
 ·exact .inr ⟨b,m,h1,h0,h2.same (hb.block b h0),h3.mono (fun v bs hv=>cD.same hv (fun k hk=>hb.block k hk))⟩
theorem lO.visit {B:Nat} {cv:Value} {cs:List (ByteArray×List UInt8)} :LS (iz cs) 83 cv (lO B cv cs):=fun W r hI hr=>(tI (· <B) cv cs r W hI.cont hr hI.env).mono fun _ _ h=>h
theorem lO.start {S:Nat->Prop} {w:World} {cv:Value} {cs:List (ByteArray×List UInt8)} (h:gy S w cv cs) (he:oz w):lO w.heap.size cv cs w:=⟨h.lt,he,he.lt,ai _⟩
theorem qU : ∀ {l U:List cH},l.Nodup->(∀x∈l,x∈U)->l.length<=U.length
 | [],_,_,_=>aU _
 | a::l,U,hn,hs=>by obtain⟨h1,h2⟩:=jA.1 hn;have ha:a∈U:=hs a (by simp);have h3:=qU (l:=l) (U:=U.erase a) h2 (fun x hx=>(List.mem_erase_of_ne (fun e=>by subst e; exact h1 hx)).2 (hs x (by simp[hx])));have h4:=List.length_erase_of_mem ha;have h5:0<U.length:=List.length_pos_of_mem ha;simp only[az];omega
def qM (it:cj):List cH:=it.chunks++[it.node]
def Qn (l:List cj):List cH:=l.flatMap qM
def sA (cs:List (ByteArray×List UInt8)):List cH:=cs.flatMap fun p=>match iY p.2 with
 | some l=>Qn l
 | none=>[]
theorem JN {cs:List (ByteArray×List UInt8)} {n:ByteArray} {bs:List UInt8} (h:di cs n=some bs): ∃k,(k,bs)∈cs:=by
 induction cs with
 | nil=>simp[di]at h
 | cons p cs ih=>
  obtain⟨k,b⟩:=p;simp only[di]at h
  split at h
  ·simp only[aX]at h; subst h; exact⟨k,by simp⟩
  ·obtain⟨k',hk⟩:=ih h;exact⟨k',by simp[hk]⟩
theorem ur {cs:List (ByteArray×List UInt8)} {r:cH} {l:List cj} (h:iz cs r= .ok l): ∃k bs,(k,bs)∈cs/\iY bs=some l:=by
 unfold iz at h
 cases hc:iK cs r with
 | error x=>rw[hc]at h; simp at h
 | ok bs=>
  rw[hc]at h;simp only at h
  cases hi:iY bs with
  | none=>rw[hi]at h; simp at h
  | some l'=>
   rw[hi]at h;simp only[dr]at h;subst h;unfold iK at hc
   cases hf:di cs r.name with
   | none=>rw[hf]at hc; simp at hc
   | some b=>
    rw[hf]at hc;simp only at hc
    split at hc
    ·simp only[dr]at hc; subst hc;obtain⟨k,hk⟩:=JN hf;exact⟨k,b,hk,hi⟩
    ·simp at hc
theorem FP {cs:List (ByteArray×List UInt8)} {r:cH} {l:List cj} (h:iz cs r= .ok l) {it:cj} (hit:it∈l): ∀c∈qM it,c∈sA cs:=fun c hc=>by obtain⟨k,bs,h1,h2⟩:=ur h;refine cO.2 ⟨(k,bs),h1, ?_⟩;simp only[h2];exact cO.2 ⟨it,hit,hc⟩
structure yA (U : List cH) (st : List cH × List cH) : Prop where
 e1:st.1.Nodup
 e2: ∀x∈st.1,x∈U
 l1:st.2.Nodup
 l2: ∀x∈st.2,x∈U
theorem qR {r:cH} {rs:List cH} (h:rs.Nodup):(dC r rs).Nodup:=by
 unfold dC
 split
 ·exact h
 ·rename_i hm;exact gR.2 ⟨h,by simp,fun a ha b hb e=>by simp only[aE]at hb; subst hb e; exact hm ha⟩
theorem nC {r x:cH} {rs:List cH} :x∈dC r rs<->x∈rs\/x=r:=by
 unfold dC
 split
 ·rename_i hm;exact⟨.inl,fun h=>by rcases h with h | rfl; exact h; exact hm⟩
 ·simp
theorem tD : ∀(cs:List cH) {rs:List cH},rs.Nodup->(gj cs rs).Nodup
 | [],_,h=>h
 | _c::cs,_,h=>tD cs (qR h)
theorem pZ : ∀(cs:List cH) {rs:List cH} {x:cH},x∈gj cs rs<->x∈rs\/x∈cs
 | [],rs,x=>by simp[gj]
 | c::cs,rs,x=>by
  show x∈gj cs (dC c rs)<->_
  rw[pZ cs,nC,aT,or_assoc]
theorem yA.men {U:List cH} {st:List cH×List cH} (h:yA U st) {cs:List cH} (hc: ∀c∈cs,c∈U):yA U (st.1,gj cs st.2):=
 ⟨h.e1,h.e2,tD cs h.l1,fun x hx=>by
  rcases(pZ cs).1 hx with hx | hx
  ·exact h.l2 x hx
  ·exact hc x hx⟩
def PH (U:List cH) (f:cH->List cH×List cH->Option (Int×(List cH×List cH))) (n:Nat):Prop:= ∀r st,r∈U->yA U st->U.length<n+st.1.length-> ∃x st',f r st=some (x,st')/\yA U st'/\st.1.length<=st'.1.length
theorem sM {U:List cH} {f:cH->List cH×List cH->Option (Int×(List cH×List cH))} {n:Nat} (hf:PH U f n):
  ∀(l:List cj) (st:List cH×List cH),(∀it∈l,∀c∈qM it,c∈U)->yA U st->U.length<n+st.1.length-> ∃x st',kH f l st=some (x,st')/\yA U st'/\st.1.length<=st'.1.length
 | [],st,_,hi,_=>⟨0,st,rfl,hi,ai _⟩
 | it::l,st,hl,hi,hn=>by
  have hi2:=hi.men (cs:=it.chunks) (fun c hc=>hl it (by simp) _ (by simp[qM,hc]));rw[kH]
  split
  ·exact sM hf l _ (fun x hx=>hl x (by simp[hx])) hi2 hn
  ·obtain⟨x,st2,h1,h2,h3⟩:=hf it.node _ (hl it (by simp) _ (by simp[qM])) hi2 hn;rw[h1,Option.bind_some];simp only at h3
   split
   ·exact⟨x,st2,rfl,h2,h3⟩
   ·obtain⟨y,st3,k1,k2,k3⟩:=sM hf l st2 (fun x hx=>hl x (by simp[hx])) h2 (by omega);exact⟨y,st3,k1,k2,an h3 k3⟩
def qq (cs:List (ByteArray×List UInt8)):Nat:=(sA cs).length+2
theorem JD {data:List UInt8} {s s1:RS} {it:cj} (h:nj data s=some (it,s1)):it.chunks.length<=963:=by
 unfold nj px at h
 split at h
 ·simp only[aX,cF]at h;obtain⟨rfl,_⟩:=h;simp only[wC];exact Br _ _ _
 ·split at h
  ·simp only[aX,cF]at h;obtain⟨rfl,_⟩:=h;simp
  ·split at h
   ·simp only[aX,cF]at h;obtain⟨rfl,_⟩:=h;simp
   ·simp at h
theorem zT {data:List UInt8} {s0:RS} : ∀ {k:Nat} {l:List cj} {s:RS},jo data s0 k=some (l,s)->l.length=k/\ ∀it∈l,it.chunks.length<=963
 | 0,l,s,h=>by simp only[jo,aX,cF]at h;obtain⟨rfl,_⟩:=h;exact⟨rfl,by simp⟩
 | k+1,l,s,h=>by
  rw[mS,dF]at h;obtain⟨⟨l0,s1⟩,h1,h2⟩:=h;rw[iu]at h2;obtain⟨⟨it,s2⟩,h3,h4⟩:=h2;simp only[cF]at h4;obtain⟨rfl,_⟩:=h4;obtain⟨k1,k2⟩:=zT h1;refine⟨by simp[k1],fun x hx=> ?_⟩
  rcases aN.1 hx with hx | hx
  ·exact k2 x hx
  ·simp only[aE]at hx; subst hx; exact JD h3
theorem zV {data:List UInt8} {l:List cj} (h:iY data=some l):l.length<=4096/\ ∀it∈l,it.chunks.length<=963:=by
 unfold iY at h
 split at h
 ·simp at h
 ·rw[dF]at h;obtain⟨⟨l0,s1⟩,h1,h2⟩:=h
  split at h2
  ·simp only[aX]at h2;subst h2;obtain⟨k1,k2⟩:=zT h1;exact⟨by rw[k1]; exact Br _ _ _,k2⟩
  ·simp at h2
theorem mP {α β:Type} (f:α->List β) (m:Nat): ∀(l:List α),(∀x∈l,(f x).length<=m)->(l.flatMap f).length<=l.length*m
 | [],_=>by simp
 | a::l,h=>by have h1:=mP f m l (fun x hx=>h x (by simp[hx]));have h2:=h a (by simp);rw[bm,ag,az,Nat.succ_mul];omega
theorem zw {cs:List (ByteArray×List UInt8)} :(sA cs).length<=cs.length*3948544:=mP _ _ cs (fun p _=>by
 cases h:iY p.2 with
 | none=>simp
 | some l=>
  obtain⟨h1,h2⟩:=zV h;simp only;have h3:=mP qM 964 l (fun it hit=>by have:=h2 it hit; simp[qM]; omega);exact an h3 (an (dh 964 h1) (by decide)))
theorem sL {cs:List (ByteArray×List UInt8)} {r:cH} {l:List cj} (h:iz cs r= .ok l):l.length<=4096/\jL l=true/\ ∀it∈l,it.chunks.length<=963:=by
 obtain⟨k,bs,_,h2⟩:=ur h;have h3:=zV h2;refine⟨h3.1, ?_,h3.2⟩;unfold iY at h2
 split at h2
 ·simp at h2
 ·rw[dF]at h2;obtain⟨⟨l0,s1⟩,_,h4⟩:=h2
  split at h4
  ·rename_i h5;simp only[aX]at h4;subst h4;exact h5.2
  ·simp at h4
open Go Go.RowKit
def lA (w:World) (base eb:Nat) (v:Value) (acc:List dd):Prop:=
 w.heap[eb]? =some (.cells #[v] 46 (0,0))/\ ∃ys:List oU,ys.map Prod.snd=acc/\w.ownsRow base 79 6 v ys.length (iE ys)/\ ∀y∈ys,w.ownsRow base 5 1 y.1 y.2.data.length (y.2.data.map aY)
structure ss (base eb : Nat) (v v' : Value) (w w' : World) : Prop where
 below:Below base w w'
 same: ∀k,k<w.heap.size->k≠eb->v.ownBlock≠some k->w'.heap[k]? =w.heap[k]?
 place: ∀k,v'.ownBlock=some k->v.ownBlock=some k\/w.heap.size<=k
theorem ss.refl (base eb:Nat) (v:Value) (w:World):ss base eb v v w w:=⟨ak _ _,fun _ _ _ _=>rfl,fun _ h=> .inl h⟩
theorem ss.trans {base eb:Nat} {v v1 v2:Value} {A B C:World} (h:ss base eb v v1 A B) (k:ss base eb v1 v2 B C) (hs:A.heap.size<=B.heap.size):ss base eb v v2 A C:=
 ⟨h.below.trans k.below,fun i h1 h2 h3=>(k.same i (by omega) h2 (fun e=>by
  rcases h.place i e with e2 | e2
  ·exact h3 e2
  ·omega)).trans (h.same i h1 h2 h3),fun i e=>by
  rcases k.place i e with e2 | e2
  ·exact h.place i e2
  ·exact .inr (by omega)⟩
theorem ss.ofBelow {base eb:Nat} {v:Value} {w w':World} (h:Below w.heap.size w w') (hb:base<=w.heap.size):ss base eb v v w w':=⟨h.mono hb,fun k h1 _ _=>h.block k h1,fun _ e=> .inl e⟩
theorem lA.below {w w':World} {base eb:Nat} {v:Value} {acc:List dd} (h:lA w base eb v acc) (hb:Below w.heap.size w w'):lA w' base eb v acc:=by obtain⟨h1,ys,h2,h3,h4⟩:=h;exact⟨er hb h1,ys,h2,cW h3 hb,fun y hy=>cW (h4 y hy) hb⟩
theorem bU {w:World} {k:Nat} {cs cs':Array Value} {t t':TypeId} {z z':Nat×Nat} (h:w.heap[k]? =some (.cells cs t z)) (h':w.heap[k]? =some (.cells cs' t' z')):t=t':=by have:=h.symm.trans h';simp at this;exact this.2.1
theorem ff {w w':World} {base sz n:Nat} {e:TypeId} {v:Value} {xs:List Value} (h:w.ownsRow base e sz v n xs) (hs: ∀k,k<w.heap.size->v.ownBlock=some k->w'.heap[k]? =w.heap[k]?):w'.ownsRow base e sz v n xs:=by
 obtain⟨hl,h2⟩:=h;refine⟨hl, ?_⟩
 rcases h2 with h2 | ⟨g,cap,cur,rfl,hg,hh,h3⟩
 ·exact .inl h2
 ·exact .inr ⟨g,cap,cur,rfl,hg,(hs g (am hh) rfl).trans hh,h3⟩
theorem lA.push {w w2:World} {base eb:Nat} {v v' dv:Value} {ys:List oU} {e:dd} (hx:w.heap[eb]? =some (.cells #[v] 46 (0,0))) (hr:w.ownsRow base 79 6 v ys.length (iE ys)) (hd: ∀y∈ys,w.ownsRow base 5 1 y.1 y.2.data.length (y.2.data.map aY)) (hn:w.ownsRow base 5 1 dv e.data.length (e.data.map aY))
  (hown:w2.ownsRow base 79 6 v' (ys.length+1) (iE ys++vC dv e)) (hg:w.grownBy w2 v.ownBlock) (hpl: ∀k,v'.ownBlock=some k->v.ownBlock=some k\/w.heap.size<=k) (hbe:base<=eb) (hbz:base<=w.heap.size):
  lA (w2.setCell ⟨eb,0,none⟩ v') base eb v' (ys.map Prod.snd++[e])/\ss base eb v v' w (w2.setCell ⟨eb,0,none⟩ v'):=by
 have hj:=am hx;have he:v.ownBlock≠some eb:=fun h=>by obtain⟨cs,hc⟩:=bJ hr h;exact absurd (bU hx hc) (by decide)
 have hb:v'.ownBlock≠some eb:=fun h=>by
  rcases hpl eb h with h | h
  ·exact he h
  ·omega
 have hf:=(hg.block eb hj (fun h=>he h.symm)).trans hx;have ha: ∀(u:Value) (bs:List UInt8),w.ownsRow base 5 1 u bs.length (bs.map aY)->(w2.setCell ⟨eb,0,none⟩ v').ownsRow base 5 1 u bs.length (bs.map aY):=by intro u bs h;refine ff h (fun k hk hu=> ?_);obtain⟨cs,hc⟩:=bJ h hu;rw[ay _ _ _ _ (show k≠eb from fun e=>absurd (bU (e▸hc) hx) (by decide))];refine hg.block k hk (fun e=> ?_);obtain⟨cs2,hh⟩:=bJ hr e.symm;exact absurd (bU hc hh) (by decide)
 refine⟨⟨?_,ys++[(dv,e)],by simp, ?_,fun y hy=> ?_⟩,⟨?_,fun k hk h1 h2=> ?_,hpl⟩⟩
 ·have:=jm (k:=0) hf v'
  simpa using this
 ·rw[ag,bB,wV];exact hown.kept (cK _ _ _ _) (.inr (fun h=>hb h))
 ·rcases aN.1 hy with hy | hy
  ·exact ha _ _ (hd y hy)
  ·rw[aE]at hy;subst hy;exact ha _ _ hn
 ·exact((ak base w).grown hg hbz (fun k hk=>(hr.lt k hk).1)).grown (cK w2 eb 0 v') (an hbz hg.size) (fun k hk=>by cases hk; exact hbe)
 ·rw[ay _ _ _ _ (show k≠eb from h1)];exact hg.block k hk (fun e=>h2 e.symm)
structure vA (w : World) (h5 h6 base eb : Nat) (v itv : Value) (l : List cj) (wr : World) (v2 : Value) (acc : List dd) : Prop where
 box:lA wr base eb v2 acc
 kp:ss base eb v v2 w wr
 apart: ∀k,v2.ownBlock=some k->k<h5\/h6<=k
 lo:eb<h5
 ord:w.heap.size<=h5/\h5<=h6/\h6<=wr.heap.size
 its:eP (fun k=>h5<=k/\k<h6) wr itv l
theorem vA.step {w wr w':World} {h5 h6 base eb:Nat} {v itv v2 v3:Value} {l:List cj} {acc acc3:List dd} (h:vA w h5 h6 base eb v itv l wr v2 acc) (h1:lA w' base eb v3 acc3) (h2:ss base eb v2 v3 wr w'):vA w h5 h6 base eb v itv l w' v3 acc3:=by
 have ho:=h.ord;have hl:=h.lo;have hz:=h2.below.size;refine⟨h1,h.kp.trans h2 (by omega),fun k hk=> ?_,hl,⟨ho.1,ho.2.1,by omega⟩,h.its.same (fun k hk hS=>h2.same k hk (by omega) (fun e=> ?_))⟩
 ·rcases h2.place k hk with e | e
  ·exact h.apart k e
  ·exact .inr (by omega)
 ·have:=h.apart k e;omega
theorem vA.below {w wr w':World} {h5 h6 base eb:Nat} {v itv v2:Value} {l:List cj} {acc:List dd} (h:vA w h5 h6 base eb v itv l wr v2 acc) (hb:Below wr.heap.size wr w') (hbz:base<=wr.heap.size):vA w h5 h6 base eb v itv l w' v2 acc:=
 h.step (h.box.below hb) (ss.ofBelow hb hbz)
theorem vu {w:World} {b:Nat} {a0 a1 a2 x0 x1 x2:Value} {t:TypeId} (h:w.heap[b]? =some (.cells #[a0,a1,a2] t (0,0))):
  (((w.setCell ⟨b,0,none⟩ x0).setCell ⟨b,1,none⟩ x1).setCell ⟨b,2,none⟩ x2).heap[b]? =some (.cells #[x0,x1,x2] t (0,0)):=by
 have:=jm (k:=2) (jm (k:=1) (jm (k:=0) h x0) x1) x2
 simpa using this
theorem Jb {w:World} {b:Nat} {a0 a1 a2 a3 a4 a5 a6 a7 a8 a9 x0 x1 x2 x3 x4 x5 x6 x7 x8 x9:Value} {t:TypeId} (h:w.heap[b]? =some (.cells #[a0,a1,a2,a3,a4,a5,a6,a7,a8,a9] t (0,0))):
  ((((((((((w.setCell ⟨b,0,none⟩ x0).setCell ⟨b,1,none⟩ x1).setCell ⟨b,2,none⟩ x2).setCell ⟨b,3,none⟩ x3).setCell ⟨b,4,none⟩ x4).setCell ⟨b,5,none⟩ x5).setCell ⟨b,6,none⟩ x6).setCell ⟨b,7,none⟩ x7).setCell ⟨b,8,none⟩ x8).setCell ⟨b,9,none⟩ x9).heap[b]? =some (.cells #[x0,x1,x2,x3,x4,x5,x6,x7,x8,x9] t (0,0)):=by
 have:=jm (k:=9) (jm (k:=8) (jm (k:=7) (jm (k:=6) (jm (k:=5) (jm (k:=4) (jm (k:=3) (jm (k:=2) (jm (k:=1) (jm (k:=0) (h) x0) x1) x2) x3) x4) x5) x6) x7) x8) x9
 simpa using this
theorem il {B b:Nat} {a w:World} {x0 x1 x2:Value} (h:Below B a w) (hb:B<=b):Below B a (((w.setCell ⟨b,0,none⟩ x0).setCell ⟨b,1,none⟩ x1).setCell ⟨b,2,none⟩ x2):=(cz (cz (cz h hb x0) hb x1) hb x2)
theorem js {B b:Nat} {a w:World} {x0 x1 x2 x3 x4 x5 x6 x7 x8 x9:Value} (h:Below B a w) (hb:B<=b):Below B a ((((((((((w.setCell ⟨b,0,none⟩ x0).setCell ⟨b,1,none⟩ x1).setCell ⟨b,2,none⟩ x2).setCell ⟨b,3,none⟩ x3).setCell ⟨b,4,none⟩ x4).setCell ⟨b,5,none⟩ x5).setCell ⟨b,6,none⟩ x6).setCell ⟨b,7,none⟩ x7).setCell ⟨b,8,none⟩ x8).setCell ⟨b,9,none⟩ x9):=(cz (cz (cz (cz (cz (cz (cz (cz (cz (cz h hb x0) hb x1) hb x2) hb x3) hb x4) hb x5) hb x6) hb x7) hb x8) hb x9)
theorem et {b k:Nat} {w:World} {x0 x1 x2:Value} (hk:k≠b):(((w.setCell ⟨b,0,none⟩ x0).setCell ⟨b,1,none⟩ x1).setCell ⟨b,2,none⟩ x2).heap[k]? =w.heap[k]? :=(ay _ _ _ _ hk).trans ((ay _ _ _ _ hk).trans (ay _ _ _ _ hk))
theorem pU {b k:Nat} {w:World} {x0 x1 x2 x3 x4 x5 x6 x7 x8 x9:Value} (hk:k≠b):((((((((((w.setCell ⟨b,0,none⟩ x0).setCell ⟨b,1,none⟩ x1).setCell ⟨b,2,none⟩ x2).setCell ⟨b,3,none⟩ x3).setCell ⟨b,4,none⟩ x4).setCell ⟨b,5,none⟩ x5).setCell ⟨b,6,none⟩ x6).setCell ⟨b,7,none⟩ x7).setCell ⟨b,8,none⟩ x8).setCell ⟨b,9,none⟩ x9).heap[k]? =w.heap[k]? :=(ay _ _ _ _ hk).trans ((ay _ _ _ _ hk).trans ((ay _ _ _ _ hk).trans ((ay _ _ _ _ hk).trans ((ay _ _ _ _ hk).trans ((ay _ _ _ _ hk).trans ((ay _ _ _ _ hk).trans ((ay _ _ _ _ hk).trans ((ay _ _ _ _ hk).trans (ay _ _ _ _ hk)))))))))
def xg (c:ByteArray):List cj->Nat->Int
 | [],_=> -1
 | x::t,k=>if x.name=c then(k:Int)else xg c t (k+1)
theorem zP {c:ByteArray} {l:List cj} {k:Nat} {x:cj} (h:l[k]? =some x):xg c (l.drop k) k=if x.name=c then(k:Int)else xg c (l.drop (k+1)) (k+1):=by obtain⟨hk,rfl⟩:=aD.1 h;rw[cA hk,xg]
theorem zQ (c:ByteArray): ∀(l:List cj) (k:Nat),(l.find? (fun y=>decide (y.name=c))=none/\xg c l k= -1)\/ ∃(j:Nat) (y:cj),l[j]? =some y/\l.find? (fun y=>decide (y.name=c))=some y/\xg c l k=((k+j:Nat):Int)
 | [],_=> .inl ⟨rfl,rfl⟩
 | x::t,k=>by
  by_cases h:x.name=c
  ·exact .inr ⟨0,x,rfl,by rw[List.find?_cons_of_pos (by simp[h])],by rw[xg,if_pos h]; rfl⟩
  ·rw[List.find?_cons_of_neg (by simp[h]),xg,if_neg h]
   rcases zQ c t (k+1)with⟨h1,h2⟩ | ⟨j,y,h1,h2,h3⟩
   ·exact .inl ⟨h1,h2⟩
   ·exact .inr ⟨j+1,y,by simpa using h1,h2,by rw[h3]; congr 1; omega⟩
theorem Ac (it:cj) (cv:Value) (c:ByteArray) (pb:Nat) (w:World) (hc:w.cell? ⟨pb,0,none⟩=some (.string c)):
  Calls Tryz.prog 85 #[rZ cv it, .pointer (some ⟨pb,0,none⟩)] w fun e w'=>e= .returned (.bool (decide (it.name=c)))/\Below w.heap.size w w':=by
 have ha:=bP hc;simp only at ha;have hb: ¬pb=w.heap.size:=by omega
 unfold rZ
 go_enter Tryz.func85,Tryz.ntmps85
 go_wp2_with fail;go_ret;refine⟨bX ?_,eW⟩;rw[dq];simp only[eN,kf,aJ];exact⟨fun h=>kr h,fun h=>by rw[h]⟩
theorem yG (S:Nat->Prop) (l:List cj) (c:ByteArray) (pb:Nat) (v:Value) (w:World) (hv:eP S w v l) (hc:w.cell? ⟨pb,0,none⟩=some (.string c)):
  Calls Tryz.prog 84 #[v, .func (.func 85) #[] #[.pointer (some ⟨pb,0,none⟩)]] w fun e w'=>e= .returned (.int .i64 (xg c l 0))/\Below w.heap.size w w':=by
 obtain⟨a,cap,rfl,ho,hm,-⟩:=cN.shape hv lG.len;unfold maxLen at hm;have HV:=ah hv;have HC:=ah hc;clear hv hc
 go_enter Tryz.func84,Tryz.ntmps84
 go_wp2_with fail
 go_loopw [8] (fun i wr=> ∃k:Nat,k<=l.length/\i= .int .i64 k/\Below w.heap.size w wr/\xg c l 0=xg c (l.drop k) k) (fun i _=>l.length-(intOf i).toNat)
 ·exact⟨0,aU _,rfl,ak _ _,rfl⟩
 ·obtain⟨k,hk,rfl,hb,hd⟩:=hrel;have HB:=ah hb;have HD:=ah hd;clear hb hd
  by_cases hl:k<l.length
  ·obtain⟨it,hr⟩: ∃it,l[k]? =some it:=⟨l[k],by simp[hl]⟩;obtain⟨b,o,ca,cc,rfl,-,-,hn,-,ha⟩:=mT HV.o HB.o hr;have q0:=ha 0 (by omega);have q1:=ha 1 (by omega);have q2:=ha 2 (by omega);have q3:=ha 3 (by omega);have q4:=ha 4 (by omega);have q5:=ha 5 (by omega);have q6:=ha 6 (by omega);have q7:=ha 7 (by omega);have q8:=ha 8 (by omega);have q9:=ha 9 (by omega)
   simp only[fu,aB,cQ,cZ]at q0 q1 q2 q3 q4 q5 q6 q7 q8 q9;have hj:=ah ((HB.o.cell (p:=⟨pb,0,none⟩) (bP HC.o)).trans HC.o);have HR:=ah hr;clear ha hr
   by_cases hg:it.name=c
   ·have he:=ah hg;clear hg;go_wp2_with (go_at_call 85; refine(Ac it (.slice ca it.chunks.length cc) c pb _ hj.o).mono ?_; rintro e w1 ⟨rfl,hf⟩; rw[cR he.o]; have hh:=ah hf; clear hf);go_ret;exact⟨dP (by rw[HD.o,zP HR.o,if_pos he.o]),aj HB.o hh.o⟩
   ·have he:=ah hg;clear hg;go_wp2_with (go_at_call 85; refine(Ac it (.slice ca it.chunks.length cc) c pb _ hj.o).mono ?_; rintro e w1 ⟨rfl,hf⟩; rw[cB he.o]; have hh:=ah hf; clear hf)
    go_roundw
    ·exact⟨k+1,by omega,by go_num,aj HB.o hh.o,by rw[HD.o,zP HR.o,if_neg he.o]⟩
    simp[intOf]; omega
  ·go_wp2_with fail;go_ret;exact⟨dP (by rw[HD.o,dT (by omega)]; rfl),HB.o⟩
end
section
open Go.RowKit
theorem CL (a:Option Addr) (c:Nat) (w:World):(convert 29 9 (.slice a 0 c)).run Tryz.prog w= .ok (.string ⟨#[]⟩) w:=by cases a<;> kernel_rfl
theorem zu {S:Nat->Prop} {w:World} {v:Value} {bs:List UInt8} (hd:el S w v bs):(convert 29 9 v).run Tryz.prog w= .ok (.string (strOfNums (bs.map fun b=>(b.toNat:Int)))) w:=by
 obtain⟨_,a,cap,rfl,hn,hm,h0⟩:=hd
 rcases h0 with h0 | ⟨b,o,rfl,_,hc⟩
 ·obtain rfl:=bq h0;exact CL a cap w
 ·exact run_convert_bytes_arg (P:=Tryz.prog) w 29 5 dm Tryz.underlying5 b o bs.length cap (bs.map fun b=>(b.toNat:Int)) (by simp) (fun i hi=>by rw[hc i (u8V bs[i]) (by simp[hi])];simp[u8V,List.getD,hi]) 9 ee
open Go.RowKit Go.Maps
theorem lp (p q:ByteArray) (w:World) (he:oz w) (hv:dH (bl p)=true) (hq:q=⟨(cr (bl p)).toArray⟩):
  Calls Tryz.prog 72 #[.string p] w fun e w'=>e= .returned (.tuple #[.string q, .bool true])/\Below w.heap.size w w':=by
 rw[hq]; exact FV p w he hv
theorem oG (q:ByteArray):q.toList.isEmpty=decide (bl q=[]):=by rw[eN,dq]; simp
theorem rO (S:Nat->Prop) (en:dd) (v:Value) (b:Bool) (w:World) (hd:el S w v en.data) (hok:jP en) (henv:oz w) (h:ig en=b):Calls Tryz.prog 117 #[wU v en] w fun e w'=>e= .returned (.bool b)/\Below w.heap.size w w':=by rw[<-h]; exact GF S en v w hd hok henv
theorem zn : ∀ {m pre:List dd} (r:List dd),Tr (pre++m)->oV pre (m++r)=oV (pre++m) r
 | [],pre,r,_=>by simp
 | e::m,pre,r,h=>by have h1:Tr (pre++[e]):=Tr.pre (M:=m) (by simpa using h);have h2:=(qC h1.pre e).2 h1;have h3:=zn (m:=m) (pre:=pre++[e]) r (by simpa using h);rw[aK,oV,if_pos h2,h3];simp
theorem Cz {L:List dd} (hl:L.length<=4096) {k:Nat} (h:Tr (L.take k)):iD L=oV (L.take k) (L.drop k):=by have h1:=zn (m:=L.take k) (pre:=[]) (L.drop k) (by simpa using h);rw[dx,aI]at h1;unfold iD;rw[if_neg (by omega),h1]
theorem zy {α:Type} {L:List α} {k:Nat} {e:α} (h:L[k]? =some e):L.drop k=e::L.drop (k+1):=by obtain⟨h1,h2⟩:=aD.1 h;rw[cA h1,h2]
theorem jF {L:List dd} (hl:L.length<=4096) {k:Nat} (h:Tr (L.take k)) {e:dd} (he:L[k]? =some e) {x:Int} (hx:fX (L.take k) e=x) (h0:x≠0):iD L=x:=by rw[Cz hl h,zy he,oV,hx,if_neg h0]
theorem mw {L:List dd} {k:Nat} (h:Tr (L.take k)) {e:dd} (he:L[k]? =some e) (hx:fX (L.take k) e=0):Tr (L.take (k+1)):=by rw[bY,he];exact(qC h e).1 hx
theorem wA {L:List dd} (hl:L.length<=4096) (h:Tr (L.take L.length)):iD L=0:=by rw[Cz hl h,jd]; rfl
theorem zo {L:List dd} (hl:4096<L.length):iD L=2:=by unfold iD; rw[if_pos hl]
def xt (e:dd):Value×Value:=(.string e.path, .int .i64 e.kind)
theorem ln :Tryz.prog.underlying 47=some (.map 9 3):=Tryz.underlying47
theorem FK (w:World) (n:Nat) (hn:n<=4096):(Instr.makeMap 47 (some (.int .i64 (n:Int)))).run Tryz.prog w= .ok (.map (some w.heap.size)) (w.alloc (.map #[] 0)):=by
 have h1:IntKind.i64.wrap (n:Int)=n:=by rw[bF]; omega
 simp[Instr.makeMap,asInt,asIntOf]
theorem rA {w:World} {mb:Nat} {M:List dd} (h:ik Tryz.prog 9 w mb (M.map xt)) {p:ByteArray} (hp:p.size<=maxLen) {f:dd} (hf:kV M p=some f):
  (Instr.lookup 47 (.map (some mb)) (.string p) true).run Tryz.prog w= .ok (.tuple #[.int .i64 f.kind, .bool true]) w:=by
 obtain⟨h1,h2⟩:=sF hf;have h3:(Value.string p,Value.int .i64 f.kind)∈M.map xt:=aP.2 ⟨f,h1,by rw[<-h2]; rfl⟩;have:=h.is.hit fw ln (gY hp) h3 true
 simpa only[if_true]using this
theorem xu {w:World} {mb:Nat} {M:List dd} (h:ik Tryz.prog 9 w mb (M.map xt)) {p:ByteArray} (hp:p.size<=maxLen) (hf:kV M p=none):
  (Instr.lookup 47 (.map (some mb)) (.string p) true).run Tryz.prog w= .ok (.tuple #[.int .i64 0, .bool false]) w:=by
 have hz:(zeroValue 3).run Tryz.prog w= .ok (.int .i64 0) w:=by kernel_rfl
 have:=h.is.miss fw ln hz (gY hp) (fun q hq e=>by obtain⟨x,hx,rfl⟩:=aP.1 hq;simp only[xt,eD]at e;exact xa hf x hx e) true
 simpa only[if_true]using this
theorem rB {M:List dd} {e:dd} (h:Tr (M++[e])): ∀q∈M.map xt,q.1≠Value.string e.path:=by intro q hq hc;obtain⟨x,hx,rfl⟩:=aP.1 hq;simp only[xt,eD]at hc;have hn:=h.ord.nodup;rw[aL,gR]at hn;exact hn.2.2 x.path (aP.2 ⟨x,hx,rfl⟩) e.path (by simp) hc
theorem zt (a b:ByteArray) (o:Int) (w:World) (ha:a.size<=maxLen) (h:ft (bl a) (bl b)=o):Calls Tryz.prog 118 #[.string a, .string b] w fun e w'=>e= .returned (.int .i64 o)/\Below w.heap.size w w':=by rw[<-h]; exact CI a b w (by unfold maxLen at ha; omega)
theorem Cl {L:List dd} {k:Nat} {f e:dd} (hf:L[k]? =some f):nP (L.take (k+1)) e=decide (ft (bl f.path) (bl e.path)<0):=by
 have:(L.take (k+1)).getLast? =some f:=by rw[bY,hf]; simp
 unfold nP;rw[this]; rfl
def PT (L:List dd) (mb:Nat) (w:World) (k:Nat) (wr:World):Prop:=Tr (L.take k)/\ik Tryz.prog 9 wr mb ((L.take k).map xt)/\Below w.heap.size w wr
theorem JC (S:Nat->Prop) (L:List dd) (v:Value) (w:World) (hv:dY S w v L) (henv:oz w):Calls Tryz.prog 71 #[v] w fun e w'=>e= .returned (.int .i64 (iD L))/\Below w.heap.size w w':=by
 have HV:=ah hv;have HE:=ah henv;obtain⟨a,cap,rfl,hc,hm,-⟩:=cN.shape hv mj.len;unfold maxLen at hm;obtain⟨n,hn⟩:=bI L.length;have HN:=ah hn;rw[<-hn]at hc HV ⊢;clear hv henv
 by_cases hU:4096<n
 ·have Hk:(4096:Int)<(n:Int):=by omega
  have HC:=ah (zo (by rw[<-hn]; exact hU));clear hU hn
  go_enter Tryz.func71,Tryz.ntmps71
  go_wp2_with fail;go_ret;exact⟨dP (by rw[HC.o]),ak _ _⟩
 ·have Hk:(n:Int)<=(4096:Int):=by omega
  have Hp:=FK w n (by omega);have hT:=ah (show L.length<=4096 by omega);clear hU hn
  go_enter Tryz.func71,Tryz.ntmps71
  go_wp2_with fail;obtain⟨W0,h9⟩:=bI (w.alloc (.map #[] 0));rw[<-h9];have Hj:=ah (show ik Tryz.prog 9 W0 w.heap.size [] by rw[h9]; exact ik.made w);have Hi:=ah (show Below w.heap.size w W0 by rw[h9]; exact eW);clear h9;clear Hp
  go_loopw [18] (fun i wr=> ∃k:Nat,k<=n/\i= .int .i64 k/\PT L w.heap.size w k wr) (fun i _=>n-(intOf i).toNat)
  ·exact⟨0,aU _,rfl,⟨fp,by simp,by simp⟩,Hj.o,Hi.o⟩
  ·obtain⟨k,hk,rfl,Hh,Hf,Hd⟩:=hrel;have hI:=ah Hh;have hw:=ah Hf;have hJ:=ah Hd;clear Hh Hf Hd
   by_cases Ho:k<n
   ·obtain⟨e,he⟩: ∃e,L[k]? =some e:=⟨L[k]'(by rw[<-HN.o]; exact Ho),by simp⟩;obtain⟨b,o,dv,rfl,-,hb,hd,Hg,-,q0,q1,q2,q3,q4,q5⟩:=jN (HV.o.below hJ.o) he;have hp:=ah he;have HD:=ah hd;have hO:=ah Hg;obtain⟨a1,cap1,rfl,Hq,Hl⟩:=hd.slice;unfold maxLen at Hl;clear he hd Hg
    cases hV:ig e
    ·have hB:=ah hV;have hG:=ah (show fX (L.take k) e=1 by unfold fX; rw[hV]; rfl);clear hV;go_wp2_with fail;obtain⟨W,hW⟩:=bI (wr.alloc (.cells #[.string e.path, .int .i64 e.kind, .int .i64 e.mode, .int .i64 e.time, .slice a1 e.data.length cap1, .string e.link] 79));rw[<-hW];have HX:=ah (show W.heap[wr.heap.size]? =some (.cells #[.string e.path, .int .i64 e.kind, .int .i64 e.mode, .int .i64 e.time, .slice a1 e.data.length cap1, .string e.link] 79 (0,0)) by rw[hW]; exact ep wr _)
     have hu:=ah (show Below wr.heap.size wr W by rw[hW]; exact eW);have hM:=ah (aj hJ.o hu.o);clear hW;refine(rO S e _ false _ (HD.o.below hu.o) hO.o (HE.o.below hM.o) hB.o).mono ?_;rintro e7 w7 ⟨rfl,hE⟩;have hg:=ah (aj hM.o hE);clear hE;go_wp2_with fail;go_ret;exact⟨dP (by rw[jF hT.o hI.o hp.o (x:=1) hG.o (by decide)]),hg.o⟩
    ·have hB:=ah hV;obtain⟨q,hq⟩: ∃q:ByteArray,q=⟨(cr (bl e.path)).toArray⟩:=⟨_,rfl⟩;have hZ:=ah (show bl q=cr (bl e.path) by rw[hq]; exact iX _);have HQ:=ah hq;have hX:=ah (show q.size<=maxLen by have h1:=fF (dj hV);have h2:=mH (dj hV);rw[bi,hZ.o]; unfold maxLen; omega)
     clear hV hq
     rcases eC k with Ha | Ha
     ·have e9:decide (0<k)=false:=by simp; omega
      have e8:(k:Int)<=0:=by omega
      have h3:=ah (show(ig e && nP (L.take k) e)=true by rw[Ha,hB.o]; rfl);clear Ha;go_wp2_with fail;obtain⟨W,hW⟩:=bI (wr.alloc (.cells #[.string e.path, .int .i64 e.kind, .int .i64 e.mode, .int .i64 e.time, .slice a1 e.data.length cap1, .string e.link] 79));rw[<-hW];have HX:=ah (show W.heap[wr.heap.size]? =some (.cells #[.string e.path, .int .i64 e.kind, .int .i64 e.mode, .int .i64 e.time, .slice a1 e.data.length cap1, .string e.link] 79 (0,0)) by rw[hW]; exact ep wr _)
      have hu:=ah (show Below wr.heap.size wr W by rw[hW]; exact eW);have hM:=ah (aj hJ.o hu.o);clear hW;refine(rO S e _ true _ (HD.o.below hu.o) hO.o (HE.o.below hM.o) hB.o).mono ?_;rintro e7 w7 ⟨rfl,hE⟩;have hP:=ah ((hE.block wr.heap.size (mf HX.o)).trans HX.o);have hN:=ah (hu.o.trans (hE.mono hu.o.size));obtain⟨c0,c1,c2,c3,c4,c5,_⟩:=aS hP.o
      clear hE;go_wp2_with fail;refine bL [some 11,none,some 2] (by kernel_rfl) (by kernel_rfl) (by kernel_rfl) ?_;simp only[ed,aR,aZ,bA,bR];obtain⟨wd,hF⟩:=bI w7.drew;rw[<-hF];have hL:=ah (show Below wr.heap.size wr wd by rw[hF]; exact hN.o.trans ((ak w7.heap.size w7).drew.mono hN.o.size))
      have hR:=ah (show wd.heap[wr.heap.size]? =some (.cells #[.string e.path, .int .i64 e.kind, .int .i64 e.mode, .int .i64 e.time, .slice a1 e.data.length cap1, .string e.link] 79 (0,0)) by rw[hF]; exact hP.o);clear hF c0 c1 c2 c3 c4 c5;obtain⟨c0,c1,c2,c3,c4,c5,_⟩:=aS hR.o
      repeat (first | (refine cy rfl ?_; simp only[bN]) | (refine cU rfl (fun K hK=> ?_); go_simp; refine hK _ ?_; clear hK K))
      refine cT ?_;refine ws rfl ?_;simp only[bN]
      repeat (first | (refine cy rfl ?_; simp only[bN]) | (refine cU rfl (fun K hK=> ?_); go_simp; refine hK _ ?_; clear hK K))
      refine cT ?_;clear c0 c1 c2 c3 c4 c5;have hl:=ah hL.o;have ho:=ah hR.o;have hr:=ah (aj hJ.o hL.o);obtain⟨c0,c1,c2,c3,c4,c5,_⟩:=aS ho.o;go_wp2_with fail
      by_cases h0:cr (bl e.path)=[]
      ·have e1:q.toList.isEmpty=true:=by rw[oG,hZ.o,cR h0]
       have hH:=ah (mw hI.o hp.o (show fX (L.take k) e=0 by unfold fX; rw[if_pos h3.o]; unfold ny; rw[if_pos h0]));clear h0;refine(lp e.path q _ (HE.o.below hr.o) (dj hB.o) HQ.o).mono ?_;rintro e9 w9 ⟨rfl,ha⟩;have hz:=ah (hl.o.trans (ha.mono hl.o.size));have hg:=ah (aj hr.o ha);have hC:=ah ((ha.block wr.heap.size (mf ho.o)).trans ho.o)
       have hs:=ah (hw.o.same (hz.o.block w.heap.size hw.o.lt));clear ha;obtain⟨c0,c1,c2,c3,c4,c5,_⟩:=aS hC.o;go_wp2_with (at_mapUpdate; go_must (refine jY fw rfl _ _ _ _ rfl ln w.heap.size _ hs.o rfl (.string e.path) (.int .i64 e.kind) rfl rfl (gY hO.o.pth) (rB (by have h1:=hH.o; rw[bY,hp.o]at h1; exact h1)) ?_); intro w10 hj hh)
       have hA:=ah hj;have hy:=ah hh;clear hj hh c0 c1 c2 c3 c4 c5;go_wp2_with fail
       go_roundw
       ·refine⟨k+1,by omega,by go_num,hH.o, ?_, ?_⟩
        ·rw[bY,hp.o,aL]; exact hA.o
        ·exact hg.o.grown hy.o hg.o.size (fun k e=>by cases e; exact ai _)
       simp[intOf]; omega
      ·have e1:q.toList.isEmpty=false:=by rw[oG,hZ.o,cB h0]
       have hS:=ah (show ∀x,(match kV (L.take k) q with | none=>(4:Int) | some f=>if f.kind=2 then 0 else 13)=x->fX (L.take k) e=x from fun x hx=>by unfold fX; rw[if_pos h3.o]; unfold ny; rw[if_neg h0,<-HQ.o]; exact hx);clear h0
       cases hf:kV (L.take k) q with
       | none=>
        have HF:=ah hf;have hG:=ah (hS.o 4 (by rw[hf]));clear hf;refine(lp e.path q _ (HE.o.below hr.o) (dj hB.o) HQ.o).mono ?_;rintro e9 w9 ⟨rfl,ha⟩;have hz:=ah (hl.o.trans (ha.mono hl.o.size));have hg:=ah (aj hr.o ha);have hC:=ah ((ha.block wr.heap.size (mf ho.o)).trans ho.o);have hs:=ah (hw.o.same (hz.o.block w.heap.size hw.o.lt));clear ha
        obtain⟨c0,c1,c2,c3,c4,c5,_⟩:=aS hC.o;have h4:=xu hs.o hX.o HF.o;go_wp2_with fail;go_ret;exact⟨dP (by rw[jF hT.o hI.o hp.o (x:=4) hG.o (by decide)]),hg.o⟩
       | some f=>
        have HF:=ah hf
        by_cases hD:f.kind=2
        ·have e3:(f.kind != 2)=false:=by simp[hD]
         have hH:=ah (mw hI.o hp.o (hS.o 0 (by rw[hf]; simp only[if_pos hD])));clear hf hD;refine(lp e.path q _ (HE.o.below hr.o) (dj hB.o) HQ.o).mono ?_;rintro e9 w9 ⟨rfl,ha⟩;have hz:=ah (hl.o.trans (ha.mono hl.o.size));have hg:=ah (aj hr.o ha);have hC:=ah ((ha.block wr.heap.size (mf ho.o)).trans ho.o);have hs:=ah (hw.o.same (hz.o.block w.heap.size hw.o.lt))
         clear ha;obtain⟨c0,c1,c2,c3,c4,c5,_⟩:=aS hC.o;have h4:=rA hs.o hX.o HF.o;go_wp2_with (at_mapUpdate; go_must (refine jY fw rfl _ _ _ _ rfl ln w.heap.size _ hs.o rfl (.string e.path) (.int .i64 e.kind) rfl rfl (gY hO.o.pth) (rB (by have h1:=hH.o; rw[bY,hp.o]at h1; exact h1)) ?_); intro w10 hj hh);have hA:=ah hj
         have hy:=ah hh;clear hj hh c0 c1 c2 c3 c4 c5;go_wp2_with fail
         go_roundw
         ·refine⟨k+1,by omega,by go_num,hH.o, ?_, ?_⟩
          ·rw[bY,hp.o,aL]; exact hA.o
          ·exact hg.o.grown hy.o hg.o.size (fun k e=>by cases e; exact ai _)
         simp[intOf]; omega
        ·have e3:(f.kind != 2)=true:=by simp[hD]
         have hG:=ah (hS.o 13 (by rw[hf]; simp only[if_neg hD]));clear hf hD;refine(lp e.path q _ (HE.o.below hr.o) (dj hB.o) HQ.o).mono ?_;rintro e9 w9 ⟨rfl,ha⟩;have hz:=ah (hl.o.trans (ha.mono hl.o.size));have hg:=ah (aj hr.o ha);have hC:=ah ((ha.block wr.heap.size (mf ho.o)).trans ho.o);have hs:=ah (hw.o.same (hz.o.block w.heap.size hw.o.lt))
         clear ha;obtain⟨c0,c1,c2,c3,c4,c5,_⟩:=aS hC.o;have h4:=rA hs.o hX.o HF.o;go_wp2_with fail;go_ret;exact⟨dP (by rw[jF hT.o hI.o hp.o (x:=13) hG.o (by decide)]),hg.o⟩
     ·obtain⟨j,rfl⟩: ∃j,k=j+1:=⟨k-1,by omega⟩;obtain⟨f,hf⟩: ∃f,L[j]? =some f:=⟨L[j]'(by rw[<-HN.o]; omega),by simp⟩;obtain⟨b',o',dv',He,-,-,-,h8,-,p0,-⟩:=jN (HV.o.below hJ.o) hf;simp only[aX,jq,and_true]at He;obtain⟨rfl,rfl⟩:=He;have Hc:=ah h8.pth;obtain⟨c,hc⟩: ∃c,ft (bl f.path) (bl e.path)=c:=⟨_,rfl⟩
      have HC:=ah hc;have e9:decide (0<j+1)=true:=by simp
      have Hr:j<n:=by omega
      have Hm:(j:Int)<(n:Int):=by omega
      have Hn:decide (j<n)=true:=by simp; omega
      have Hs:IntKind.i64.wrap (j:Int)=j:=by rw[bF]; omega
      have Hb:=ah (show nP (L.take (j+1)) e=decide (c<0) by rw[Cl hf,hc]);clear hf h8 hc Ha
      by_cases h7:c<0
      ·have h3:=ah (show(ig e && nP (L.take (j+1)) e)=true by rw[hB.o,Hb.o,cR h7]; rfl);have e8:decide (0<=c)=false:=by simp; omega
       go_wp2_with fail;obtain⟨W,hW⟩:=bI (wr.alloc (.cells #[.string e.path, .int .i64 e.kind, .int .i64 e.mode, .int .i64 e.time, .slice a1 e.data.length cap1, .string e.link] 79));rw[<-hW];have HX:=ah (show W.heap[wr.heap.size]? =some (.cells #[.string e.path, .int .i64 e.kind, .int .i64 e.mode, .int .i64 e.time, .slice a1 e.data.length cap1, .string e.link] 79 (0,0)) by rw[hW]; exact ep wr _)
       have hu:=ah (show Below wr.heap.size wr W by rw[hW]; exact eW);have hM:=ah (aj hJ.o hu.o);clear hW;refine(rO S e _ true _ (HD.o.below hu.o) hO.o (HE.o.below hM.o) hB.o).mono ?_;rintro e7 w7 ⟨rfl,hE⟩;have hP:=ah ((hE.block wr.heap.size (mf HX.o)).trans HX.o);have hN:=ah (hu.o.trans (hE.mono hu.o.size));obtain⟨c0,c1,c2,c3,c4,c5,_⟩:=aS hP.o
       clear hE;go_wp2_with fail;refine bL [some 11,none,some 2] (by kernel_rfl) (by kernel_rfl) (by kernel_rfl) ?_;simp only[ed,aR,aZ,bA,bR];obtain⟨wd,hF⟩:=bI w7.drew;rw[<-hF];have hL:=ah (show Below wr.heap.size wr wd by rw[hF]; exact hN.o.trans ((ak w7.heap.size w7).drew.mono hN.o.size))
       have hR:=ah (show wd.heap[wr.heap.size]? =some (.cells #[.string e.path, .int .i64 e.kind, .int .i64 e.mode, .int .i64 e.time, .slice a1 e.data.length cap1, .string e.link] 79 (0,0)) by rw[hF]; exact hP.o);clear hF c0 c1 c2 c3 c4 c5;obtain⟨c0,c1,c2,c3,c4,c5,_⟩:=aS hR.o;have y0:=(hL.o.cell (bP p0)).trans p0
       repeat (first | (refine cy rfl ?_; simp only[bN]) | (refine cU rfl (fun K hK=> ?_); go_simp; refine hK _ ?_; clear hK K))
       refine cT ?_;refine eu rfl (fun K hK=> ?_);go_wp2_with (go_at_call 118; refine(zt f.path e.path c _ Hc.o HC.o).mono ?_; rintro e8' w8 ⟨rfl,hY⟩; have hl:=ah (hL.o.trans (hY.mono hL.o.size)); have ho:=ah ((hY.block wr.heap.size (mf hR.o)).trans hR.o); clear hY c0 c1 c2 c3 c4 c5 y0)
       repeat (first | (refine cy rfl ?_; simp only[bN]) | (refine cU rfl (fun K hK=> ?_); go_simp; refine hK _ ?_; clear hK K))
       refine cT ?_;have hr:=ah (aj hJ.o hl.o);obtain⟨c0,c1,c2,c3,c4,c5,_⟩:=aS ho.o;go_wp2_with fail
       by_cases h0:cr (bl e.path)=[]
       ·have e1:q.toList.isEmpty=true:=by rw[oG,hZ.o,cR h0]
        have hH:=ah (mw hI.o hp.o (show fX (L.take (j+1)) e=0 by unfold fX; rw[if_pos h3.o]; unfold ny; rw[if_pos h0]));clear h0;refine(lp e.path q _ (HE.o.below hr.o) (dj hB.o) HQ.o).mono ?_;rintro e9 w9 ⟨rfl,ha⟩;have hz:=ah (hl.o.trans (ha.mono hl.o.size));have hg:=ah (aj hr.o ha);have hC:=ah ((ha.block wr.heap.size (mf ho.o)).trans ho.o)
        have hs:=ah (hw.o.same (hz.o.block w.heap.size hw.o.lt));clear ha;obtain⟨c0,c1,c2,c3,c4,c5,_⟩:=aS hC.o;go_wp2_with (at_mapUpdate; go_must (refine jY fw rfl _ _ _ _ rfl ln w.heap.size _ hs.o rfl (.string e.path) (.int .i64 e.kind) rfl rfl (gY hO.o.pth) (rB (by have h1:=hH.o; rw[bY,hp.o]at h1; exact h1)) ?_); intro w10 hj hh)
        have hA:=ah hj;have hy:=ah hh;clear hj hh c0 c1 c2 c3 c4 c5;go_wp2_with fail
        go_roundw
        ·refine⟨j+1+1,by omega,by go_num,hH.o, ?_, ?_⟩
         ·rw[bY,hp.o,aL]; exact hA.o
         ·exact hg.o.grown hy.o hg.o.size (fun k e=>by cases e; exact ai _)
        simp[intOf]; omega
       ·have e1:q.toList.isEmpty=false:=by rw[oG,hZ.o,cB h0]
        have hS:=ah (show ∀x,(match kV (L.take (j+1)) q with | none=>(4:Int) | some g=>if g.kind=2 then 0 else 13)=x->fX (L.take (j+1)) e=x from fun x hx=>by unfold fX; rw[if_pos h3.o]; unfold ny; rw[if_neg h0,<-HQ.o]; exact hx);clear h0
        cases hf:kV (L.take (j+1)) q with
        | none=>
         have HF:=ah hf;have hG:=ah (hS.o 4 (by rw[hf]));clear hf;refine(lp e.path q _ (HE.o.below hr.o) (dj hB.o) HQ.o).mono ?_;rintro e9 w9 ⟨rfl,ha⟩;have hz:=ah (hl.o.trans (ha.mono hl.o.size));have hg:=ah (aj hr.o ha);have hC:=ah ((ha.block wr.heap.size (mf ho.o)).trans ho.o);have hs:=ah (hw.o.same (hz.o.block w.heap.size hw.o.lt))
         clear ha;obtain⟨c0,c1,c2,c3,c4,c5,_⟩:=aS hC.o;have h4:=xu hs.o hX.o HF.o;go_wp2_with fail;go_ret;exact⟨dP (by rw[jF hT.o hI.o hp.o (x:=4) hG.o (by decide)]),hg.o⟩
        | some g=>
         have HF:=ah hf
         by_cases hD:g.kind=2
         ·have e3:(g.kind != 2)=false:=by simp[hD]
          have hH:=ah (mw hI.o hp.o (hS.o 0 (by rw[hf]; simp only[if_pos hD])));clear hf hD;refine(lp e.path q _ (HE.o.below hr.o) (dj hB.o) HQ.o).mono ?_;rintro e9 w9 ⟨rfl,ha⟩;have hz:=ah (hl.o.trans (ha.mono hl.o.size));have hg:=ah (aj hr.o ha);have hC:=ah ((ha.block wr.heap.size (mf ho.o)).trans ho.o);have hs:=ah (hw.o.same (hz.o.block w.heap.size hw.o.lt))
          clear ha;obtain⟨c0,c1,c2,c3,c4,c5,_⟩:=aS hC.o;have h4:=rA hs.o hX.o HF.o;go_wp2_with (at_mapUpdate; go_must (refine jY fw rfl _ _ _ _ rfl ln w.heap.size _ hs.o rfl (.string e.path) (.int .i64 e.kind) rfl rfl (gY hO.o.pth) (rB (by have h1:=hH.o; rw[bY,hp.o]at h1; exact h1)) ?_); intro w10 hj hh);have hA:=ah hj
          have hy:=ah hh;clear hj hh c0 c1 c2 c3 c4 c5;go_wp2_with fail
          go_roundw
          ·refine⟨j+1+1,by omega,by go_num,hH.o, ?_, ?_⟩
           ·rw[bY,hp.o,aL]; exact hA.o
           ·exact hg.o.grown hy.o hg.o.size (fun k e=>by cases e; exact ai _)
          simp[intOf]; omega
         ·have e3:(g.kind != 2)=true:=by simp[hD]
          have hG:=ah (hS.o 13 (by rw[hf]; simp only[if_neg hD]));clear hf hD;refine(lp e.path q _ (HE.o.below hr.o) (dj hB.o) HQ.o).mono ?_;rintro e9 w9 ⟨rfl,ha⟩;have hz:=ah (hl.o.trans (ha.mono hl.o.size));have hg:=ah (aj hr.o ha);have hC:=ah ((ha.block wr.heap.size (mf ho.o)).trans ho.o);have hs:=ah (hw.o.same (hz.o.block w.heap.size hw.o.lt))
          clear ha;obtain⟨c0,c1,c2,c3,c4,c5,_⟩:=aS hC.o;have h4:=rA hs.o hX.o HF.o;go_wp2_with fail;go_ret;exact⟨dP (by rw[jF hT.o hI.o hp.o (x:=13) hG.o (by decide)]),hg.o⟩
      ·have hG:=ah (show fX (L.take (j+1)) e=1 by unfold fX; rw[Hb.o,cB h7]; simp);have e8:decide (0<=c)=true:=by simp; omega
       have e7:0<=c:=by omega
       go_wp2_with fail;obtain⟨W,hW⟩:=bI (wr.alloc (.cells #[.string e.path, .int .i64 e.kind, .int .i64 e.mode, .int .i64 e.time, .slice a1 e.data.length cap1, .string e.link] 79));rw[<-hW];have HX:=ah (show W.heap[wr.heap.size]? =some (.cells #[.string e.path, .int .i64 e.kind, .int .i64 e.mode, .int .i64 e.time, .slice a1 e.data.length cap1, .string e.link] 79 (0,0)) by rw[hW]; exact ep wr _)
       have hu:=ah (show Below wr.heap.size wr W by rw[hW]; exact eW);have hM:=ah (aj hJ.o hu.o);clear hW;refine(rO S e _ true _ (HD.o.below hu.o) hO.o (HE.o.below hM.o) hB.o).mono ?_;rintro e7 w7 ⟨rfl,hE⟩;have hP:=ah ((hE.block wr.heap.size (mf HX.o)).trans HX.o);have hN:=ah (hu.o.trans (hE.mono hu.o.size));obtain⟨c0,c1,c2,c3,c4,c5,_⟩:=aS hP.o
       clear hE;go_wp2_with fail;refine bL [some 11,none,some 2] (by kernel_rfl) (by kernel_rfl) (by kernel_rfl) ?_;simp only[ed,aR,aZ,bA,bR];obtain⟨wd,hF⟩:=bI w7.drew;rw[<-hF];have hL:=ah (show Below wr.heap.size wr wd by rw[hF]; exact hN.o.trans ((ak w7.heap.size w7).drew.mono hN.o.size))
       have hR:=ah (show wd.heap[wr.heap.size]? =some (.cells #[.string e.path, .int .i64 e.kind, .int .i64 e.mode, .int .i64 e.time, .slice a1 e.data.length cap1, .string e.link] 79 (0,0)) by rw[hF]; exact hP.o);clear hF c0 c1 c2 c3 c4 c5;obtain⟨c0,c1,c2,c3,c4,c5,_⟩:=aS hR.o;have y0:=(hL.o.cell (bP p0)).trans p0
       repeat (first | (refine cy rfl ?_; simp only[bN]) | (refine cU rfl (fun K hK=> ?_); go_simp; refine hK _ ?_; clear hK K))
       refine cT ?_;refine eu rfl (fun K hK=> ?_);go_wp2_with (go_at_call 118; refine(zt f.path e.path c _ Hc.o HC.o).mono ?_; rintro e8' w8 ⟨rfl,hY⟩; have hl:=ah (hL.o.trans (hY.mono hL.o.size)); clear hY c0 c1 c2 c3 c4 c5 y0)
       repeat (first | (refine cy rfl ?_; simp only[bN]) | (refine cU rfl (fun K hK=> ?_); go_simp; refine hK _ ?_; clear hK K))
       refine cT ?_;have hg:=ah (aj hJ.o hl.o);go_wp2_with fail;go_ret;exact⟨dP (by rw[jF hT.o hI.o hp.o (x:=1) hG.o (by decide)]),hg.o⟩
   ·have hD:k=n:=by omega
    subst hD;go_wp2_with fail;go_ret;exact⟨dP (by rw[wA hT.o (by rw[<-HN.o]; exact hI.o)]),hJ.o⟩
open Go Go.RowKit Go.Maps
def CY (p:ByteArray×Int):Value×Value:=(.string p.1, .int .i64 p.2)
def kZ (S:Nat->Prop) (w:World) (gv:Value) (gs:List (ByteArray×Int)):Prop:=
 (gv= .map none/\gs=[])\/ ∃b,gv= .map (some b)/\S b/\ik Tryz.prog 9 w b (gs.map CY)
theorem kZ.keep {S:Nat->Prop} {w w':World} {gv:Value} {gs:List (ByteArray×Int)} (h:kZ S w gv gs) (hs: ∀k,S k->k<w.heap.size->w'.heap[k]? =w.heap[k]?):kZ S w' gv gs:=by
 rcases h with h | ⟨b,h1,h0,h2⟩
 ·exact .inl h
 ·exact .inr ⟨b,h1,h0,h2.same (hs b h0 h2.lt)⟩
theorem CZ {S:Nat->Prop} {w:World} {gv:Value} {gs:List (ByteArray×Int)} (h:kZ S w gv gs) {n:ByteArray} (hn:n.size<=maxLen):
  (Instr.lookup 47 gv (.string n) false).run Tryz.prog w= .ok (.int .i64 (mQ gs n)) w:=by
 have hz:(zeroValue 3).run Tryz.prog w= .ok (.int .i64 0) w:=by kernel_rfl
 obtain⟨l,hl⟩:=gY hn
 rcases h with⟨rfl,rfl⟩ | ⟨b,rfl,_,h2⟩
 ·have:=Maps.look_nil false fw (t:=47) (e:=3) ln hz hl
  simpa [mQ]using this
 ·unfold mQ
  cases hf:gs.find? (fun p=>decide (p.1=n))with
  | none=>
   have:=h2.is.miss fw ln hz ⟨l,hl⟩ (fun q hq e=>by obtain⟨x,hx,rfl⟩:=aP.1 hq;simp only[CY,eD]at e;have:=eZ.1 hf x hx;simp[e]at this) false
   simpa using this
  | some p=>
   have h3:=dR hf;have h4:=jz hf;simp only[aJ]at h4;have:=h2.is.hit fw ln ⟨l,hl⟩ (val:= .int .i64 p.2) (aP.2 ⟨p,h3,by rw[<-h4]; rfl⟩) false
   simpa using this
def nT (v:Value) (b:dt):List Value:=[.string b.ref.name, .int .i64 b.ref.gen, .int .i64 b.ref.size,v]
abbrev mN :=Value×dt
def ks (zs:List mN):List Value:=zs.flatMap fun z=>nT z.1 z.2
theorem uP (zs:List mN) (z:mN):ks (zs++[z])=ks zs++nT z.1 z.2:=by simp[ks]
theorem ub {a:Option Addr} {n c:Nat} {b:dt} : ∀u∈nT (.slice a n c) b,u.oneCell'=true:=by
 intro u hu;simp only[nT,aT,dz,or_false]at hu
 rcases hu with rfl | rfl | rfl | rfl<;> rfl
theorem Tryz.appBlobs :kw Tryz.prog 49 53 4 56:=kw.mk' (z:= .agg #[.string ⟨#[]⟩, .int .i64 0, .int .i64 0, .slice none 0 0]) Tryz.underlying49 (by kernel_rfl) rfl (by decide) (by decide)
structure iw (w : World) (base : Nat) (v : Value) (zs : List mN) : Prop where
 row:w.ownsRow base 53 4 v zs.length (ks zs)
 dat: ∀z∈zs,w.ownsRow base 5 1 z.1 z.2.con.length (z.2.con.map aY)
def nw (k:dl) (c:fC) (gv:Value) (im kb:Nat) (v:Value):List Value:=eT k++fZ c++[gv, .map (some im),v, .map (some kb)]
structure kL (w : World) (base bb : Nat) (k : dl) (c : fC) (gv : Value) (im kb : Nat) (v : Value) (bs : List dt) : Prop where
 box:w.heap[bb]? =some (.cells (nw k c gv im kb v).toArray 122 (0,0))
 own: ∃zs:List mN,zs.map Prod.snd=bs/\iw w base v zs
 known:jX w kb (bs.map dt.ref)
structure jr (base bb kb : Nat) (v v' : Value) (w w' : World) : Prop where
 below:Below base w w'
 same: ∀k,k<w.heap.size->k≠bb->k≠kb->v.ownBlock≠some k->w'.heap[k]? =w.heap[k]?
 place: ∀k,v'.ownBlock=some k->v.ownBlock=some k\/w.heap.size<=k
theorem jr.refl (base bb kb:Nat) (v:Value) (w:World):jr base bb kb v v w w:=⟨ak _ _,fun _ _ _ _ _=>rfl,fun _ h=> .inl h⟩
theorem jr.trans {base bb kb:Nat} {v v1 v2:Value} {A B C:World} (h:jr base bb kb v v1 A B) (k:jr base bb kb v1 v2 B C):jr base bb kb v v2 A C:=by
 have hs:=h.below.size;refine⟨h.below.trans k.below,fun i h1 h2 ha h3=>(k.same i (by omega) h2 ha (fun e=> ?_)).trans (h.same i h1 h2 ha h3),fun i e=> ?_⟩
 ·rcases h.place i e with e2 | e2
  ·exact h3 e2
  ·omega
 ·rcases k.place i e with e2 | e2
  ·exact h.place i e2
  ·exact .inr (by omega)
theorem jr.ofBelow {base bb kb:Nat} {v:Value} {w w':World} (h:Below w.heap.size w w') (hb:base<=w.heap.size):jr base bb kb v v w w':=⟨h.mono hb,fun k h1 _ _ _=>h.block k h1,fun _ e=> .inl e⟩
theorem iw.below {w w':World} {base:Nat} {v:Value} {zs:List mN} (h:iw w base v zs) (hb:Below w.heap.size w w'):iw w' base v zs:=⟨cW h.row hb,fun z hz=>cW (h.dat z hz) hb⟩
theorem kL.below {w w':World} {base bb im kb:Nat} {k:dl} {c:fC} {gv v:Value} {bs:List dt} (h:kL w base bb k c gv im kb v bs) (hb:Below w.heap.size w w'):kL w' base bb k c gv im kb v bs:=by obtain⟨zs,h1,h2⟩:=h.own;exact⟨(hb.block _ (am h.box)).trans h.box,⟨zs,h1,h2.below hb⟩,h.known.same (hb.block _ h.known.map.lt)⟩
theorem kL.push {w w1 w2:World} {base bb im kb:Nat} {k:dl} {c:fC} {gv v v' dv:Value} {bs:List dt} {zs:List mN} {b:dt} (hz:zs.map Prod.snd=bs) (h:iw w base v zs) (hx:w.heap[bb]? =some (.cells (nw k c gv im kb v).toArray 122 (0,0))) (hs:jX w kb ((bs++[b]).map dt.ref))
  (hb:Below w.heap.size w w1) (hn:w1.ownsRow base 5 1 dv b.con.length (b.con.map aY)) (hown:w2.ownsRow base 53 4 v' (zs.length+1) (ks zs++nT dv b)) (hg:w1.grownBy w2 v.ownBlock) (hpl: ∀k,v'.ownBlock=some k->v.ownBlock=some k\/w1.heap.size<=k) (hbe:base<=bb) (hbz:base<=w.heap.size):
  kL (w2.setCell ⟨bb,12,none⟩ v') base bb k c gv im kb v' (bs++[b])/\jr base bb kb v v' w (w2.setCell ⟨bb,12,none⟩ v'):=by
 have h1:=h.below hb;have he:=er hb hx;have hp:=am he;have hh:=hb.size;have hj:v.ownBlock≠some bb:=fun e=>by obtain⟨cs,hc⟩:=bJ h1.row e;exact absurd (bU he hc) (by decide)
 have hf:v'.ownBlock≠some bb:=fun e=>by
  rcases hpl bb e with e | e
  ·exact hj e
  ·omega
 have hk:=(hg.block bb hp (fun e=>hj e.symm)).trans he;have ha: ∀(u:Value) (ds:List UInt8),w1.ownsRow base 5 1 u ds.length (ds.map aY)->(w2.setCell ⟨bb,12,none⟩ v').ownsRow base 5 1 u ds.length (ds.map aY):=by intro u ds hd;refine ff hd (fun i hi hu=> ?_);obtain⟨cs,hc⟩:=bJ hd hu;rw[ay _ _ _ _ (show i≠bb from fun e=>absurd (bU (e▸hc) he) (by decide))];refine hg.block i hi (fun e=> ?_);obtain⟨cs2,hl⟩:=bJ h1.row e.symm;exact absurd (bU hc hl) (by decide)
 have hm:kb<w1.heap.size:=aO hs.map.lt hh;have ho:(w2.setCell ⟨bb,12,none⟩ v').heap[kb]? =w.heap[kb]? :=by rw[ay _ _ _ _ (show kb≠bb from fun e=>hs.cells (by rw[e]; exact hx))];refine(hg.block kb hm (fun e=> ?_)).trans (hb.block kb hs.map.lt);obtain⟨cs,hc⟩:=bJ h.row e.symm;exact hs.cells hc
 refine⟨⟨?_,⟨zs++[(dv,b)],by simp[hz], ?_,fun z hz=> ?_⟩,hs.same ho⟩,⟨?_,fun i hi e1 e2 e3=> ?_,fun i e=> ?_⟩⟩
 ·have:=jm (k:=12) hk v'
  simpa [nw,eT,fZ]using this
 ·rw[ag,bB,uP];exact hown.kept (cK _ _ _ _) (.inr (fun e=>hf e))
 ·rcases aN.1 hz with hz | hz
  ·exact ha _ _ (h1.dat z hz)
  ·rw[aE]at hz;subst hz;exact ha _ _ hn
 ·exact((hb.mono hbz).grown hg (an hbz hh) (fun i hi=>(h.row.lt i hi).1)).grown (cK w2 bb 12 v') (an hbz (an hh hg.size)) (fun i hi=>by cases hi; exact hbe)
 ·rw[ay _ _ _ _ (show i≠bb from e1)];exact(hg.block i (by omega) (fun e=>e3 e.symm)).trans (hb.block i hi)
 ·rcases hpl i e with e | e
  ·exact .inl e
  ·exact .inr (by omega)
end
end Go.Proofs.YtpffpjbkbaleiaaGreatDoor
