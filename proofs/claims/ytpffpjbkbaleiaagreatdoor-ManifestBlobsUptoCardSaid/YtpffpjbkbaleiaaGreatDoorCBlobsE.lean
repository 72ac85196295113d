/- Texts of this proof, one after the other: ItemF, NodA, Lib, FileA, FileB, LoadP, PartB, LookP, WalkA, WalkB, WalkC, Needs, NeedP, LoadA, LookA, FtC, FtD, FtE, FtP, FtQ, BldA. -/
import Derived.Test.YtpffpjbkbaleiaaGreatDoorCBlobsD
set_option maxRecDepth 100000
set_option maxHeartbeats 8000000
namespace Go.Proofs.YtpffpjbkbaleiaaGreatDoor
open Go.RowKit
theorem ni (S:Nat->Prop) (l:List cg) (v:Value) (b:Bool) (w:World) (hv:ew S w v l) (henv:nY w) (h:jy l=b):Calls Tryz.prog 47 #[v] w fun e w'=>e= .returned (.bool b)/\Below w.heap.size w w':=by
 rw[<-h]; exact yK S l v w hv henv
theorem nN :dY er:=⟨by decide,by decide,by decide⟩
theorem zy (S:Nat->Prop) (data:List UInt8) (v:Value) (w:World) (hv:bH S w v data) (henv:nY w):Calls Tryz.prog 18 #[v] w (BG data w):=by
 obtain⟨_,a,cap,rfl,hn,hm,-⟩:=id hv;unfold maxLen at hm;have HV:=am hv;have HE:=am henv;clear hv henv
 by_cases hX:32768<data.length
 ·have HP:=am (EP hX)
  go_enter Tryz.func18,Tryz.ntmps18
  go_wp2_with fail
  go_ret2
  exact⟨au _ _,by rw[HP.o]; rfl⟩
 ·have hN:=am hX
  go_enter Tryz.func18,Tryz.ntmps18
  go_wp2_with fail;refine(yw S data _ w HV.o (by omega)).mono ?_;rintro e w1 ⟨rb,dv,rfl,HM,HS,HJ⟩;have hg:=am HS;have hM:=am HJ;clear HS HJ;go_wp2_with fail;refine(Gs rb dv data ⟨0,0,0⟩ 4096 _ hg.o (by omega)).mono ?_;rintro e w2 ⟨n,s1,Hu,rfl,h4,HL⟩;have y0:n<=4096:=by have:=AO data 4096 ⟨0,0,0⟩; rw[Hu]at this; exact this
  have Hy:=am Hu;have HT:=am (show vN w1 rb w2 dv (.slice none 0 0) data s1 []from⟨h4,⟨_,hg.o⟩,⟨[],bM _ _ _ _,rfl⟩,HL⟩);clear Hu h4 HL;go_wp2_with fail
  go_loopw [5,16] (fun v i wr=> ∃(k:Nat) (l:List cg) (s:RS),k<=n/\i= .int .i64 k/\l.length=k/\ka data s1 k=some (l,s)/\vN w1 rb wr dv v data s l) (fun _ i _=>n-(intOf i).toNat)
  case atStart=>exact⟨0,[],s1,aW _,rfl,rfl,rfl,HT.o⟩
  case round=>
   obtain⟨k,l,s,hk,rfl,HQ,HN,hA⟩:=hrel;have hR:=am HN;have he:=am hA;have hI:=am HQ;obtain⟨cells,hG,h7⟩:=hA.row;have hd:=am hG;have hy:=am h7;obtain⟨av,cv0,yc,y2,y1⟩:=aH hG;have Hn:=am hA.rd;subst yc;clear HN hA HQ hG h7
   by_cases yp:k<n
   ·go_wp2_with fail;refine(Nc rb dv data s 64 _ Hn.o (by omega)).mono ?_;rintro e w3 ⟨nm,s2,HR,rfl,h1,h2⟩;have HF:=am HR;have Hh:=am (kn.start Hn.o h1 h2 #[.string ⟨nm.toArray⟩, .int .i64 0, .int .i64 0, .int .i64 0, .int .i64 0, .string ⟨#[]⟩, .slice none 0 0, .string ⟨#[]⟩, .int .i64 0, .int .i64 0]);clear HR h1 h2;go_wp2_with fail;refine(xP rb dv data s2 _ Hh.o.rd).mono ?_
    rintro e w4 ⟨kd,s3,hp,rfl,h1,h2⟩;have H0:=am hp;have h9:=am (Hh.o.call h1 h2);have ck:=h9.o.cell 1;have fk:=h9.o.free 1;simp only[ai,aj,ah]at ck;clear hp h1 h2;go_wp2_with fail;obtain⟨kv,hq⟩: ∃ix:Int,ix=wrap64 (kd:Int):=⟨_,rfl⟩;rw[<-hq];have hz:=am hq;clear hq;obtain⟨w5,hs⟩: ∃wx:World,wx=w4.setCell ⟨w3.heap.size,1,none⟩ (.int .i64 kv):=⟨_,rfl⟩
    rw[<-hs];have m4:=h9.o.set 1 (.int .i64 kv);rw[<-hs]at m4;simp only[aa,ag,ab]at m4;have Hi:=am m4;clear m4 hs ck fk Hh h9;refine(xP rb dv data s3 _ Hi.o.rd).mono ?_;rintro e w6 ⟨md,s4,hp,rfl,h1,h2⟩;have H1:=am hp;have Ha:=am (Hi.o.call h1 h2);have ck:=Ha.o.cell 2;have fk:=Ha.o.free 2;simp only[ai,aj,ah]at ck
    clear hp h1 h2;go_wp2_with fail;obtain⟨mv,hq⟩: ∃ix:Int,ix=wrap64 (md:Int):=⟨_,rfl⟩;rw[<-hq];have Hq:=am hq;clear hq;obtain⟨w7,hs⟩: ∃wx:World,wx=w6.setCell ⟨w3.heap.size,2,none⟩ (.int .i64 mv):=⟨_,rfl⟩;rw[<-hs];have m4:=Ha.o.set 2 (.int .i64 mv);rw[<-hs]at m4;simp only[aa,ag,ab]at m4;have Hj:=am m4
    clear m4 hs ck fk Hi Ha;refine(xP rb dv data s4 _ Hj.o.rd).mono ?_;rintro e w8 ⟨td,s5,hp,rfl,h1,h2⟩;have H2:=am hp;have Hb:=am (Hj.o.call h1 h2);have ck:=Hb.o.cell 3;have fk:=Hb.o.free 3;simp only[ai,aj,ah]at ck;clear hp h1 h2
    go_upto_region 11 with(fail)
    obtain⟨tv,hq⟩: ∃ix:Int,ix=wrap64 (td:Int):=⟨_,rfl⟩;rw[<-hq];have Hr:=am hq;clear hq;obtain⟨w9,hs⟩: ∃wx:World,wx=w8.setCell ⟨w3.heap.size,3,none⟩ (.int .i64 tv):=⟨_,rfl⟩;rw[<-hs];have m4:=Hb.o.set 3 (.int .i64 tv);rw[<-hs]at m4;simp only[aa,ag,ab]at m4;have hl:=am m4;clear m4 hs ck fk Hj Hb
    have ck:=hl.o.cell 1;simp only[ai,aj,ah]at ck;have HH:=am (wT HF.o H0.o H1.o H2.o);have H8:nm.length<=64:=by have:=Ih data 64 s; rw[HF.o]at this; exact this
    by_cases hC:kv=1
    ·have e1:(kv == 1)=true:=by simp[hC]
     have HX:=am (show ob kd=1 from hz.o.symm.trans hC);clear hC;go_wp2_with fail;refine(Gs rb dv data s5 963 _ hl.o.rd (by omega)).mono ?_;rintro e wa ⟨n2,s6,hp,rfl,h1,h2⟩;have hV:=am hp;have yv:n2<=963:=by have:=AO data 963 s5; rw[hp]at this; exact this
     have hf:=am (hl.o.call h1 h2);clear hp h1 h2 ck hl;go_wp2_with fail;obtain⟨wo,yn⟩: ∃wo:World,wo=wr:=⟨_,rfl⟩;subst yn
     go_loopw [39] (fun i wq=> ∃(j:Nat) (ch:List cy) (s7:RS) (cv:Value),j<=n2/\i= .int .i64 j/\ch.length=j/\jd data s6 j=(ch,s7)/\kn rb w3.heap.size wo wq dv data s7 #[.string ⟨nm.toArray⟩, .int .i64 kv, .int .i64 mv, .int .i64 tv, .int .i64 0, .string ⟨#[]⟩,cv, .string ⟨#[]⟩, .int .i64 0, .int .i64 0]/\wq.ownsRow (w3.heap.size+1) 26 3 cv ch.length (ch.flatMap jg)) (fun i _=>n2-(intOf i).toNat)
     case atStart=>exact⟨0,[],s6, .slice none 0 0,aW _,rfl,rfl,rfl,hf.o,bM _ _ _ _⟩
     case round=>
      obtain⟨j,ch,s7,cv,hj,rfl,HO,HK,h3,Hw⟩:=hrel;have HB:=am HO;have Hf:=am HK;have hw:=am h3;have Hc:=am Hw;obtain⟨a6,c6,H9,yb,ya⟩:=aH Hw;subst H9;clear HO HK h3 Hw
      by_cases H7:j<n2
      ·have ck:=hw.o.cell 6;have fk:=hw.o.free 6;simp only[ai,aj,ah]at ck;go_wp2_with fail;refine ey (fun w'=>w'.cell? ⟨w3.heap.size,6,none⟩=some (.slice a6 ch.length c6)) (by kernel_rfl) (by kernel_rfl) ?_;simp only[br,bt,aD,bo,Nat.reduceAdd,Nat.reduceSub]
       have Hk:=am (hw.o.below ((au _ _).drew))
       iterate 3 (refine cA rfl (by kernel_rfl) (fun _ _ _ h=>h) rfl (by go_simp) (by intro w' yl; go_simp; rfl) ?_; simp only[Act.put,aa,ag,ab])
       refine cn 3 rfl (fun K hK=> ?_);go_wp2_with (go_at_call 62; refine(vh rb dv data s7 _ Hk.o.rd).mono ?_; rintro e wb ⟨r,s8,hp,rfl,h1,h2,hr⟩; unfold ef);have H3:=am hp;have HI:=am hr;have ho:=am (Hk.o.call h1 h2);have Hm:=am (Hc.o.kept (bV (b:=wr.drew) ⟨rfl,rfl,rfl,ak _,fun _ _ _=>rfl⟩ h2) (.inr (by
        intro e;have:=(Hc.o.lt _ e).1;have:=di.lt hg.o;have:=he.o.grown.size;have:=hw.o.ge
        omega)))
       have ck2:=ho.o.cell 6;have HC:=am (ho.o.below ((au _ _).alloc (ak _) (.cells #[.string r.name, .int .i64 r.gen, .int .i64 r.size] 26)));have ck3:=HC.o.cell 6;have fk2:=ho.o.free 6;have Ht:w3.heap.size+1<=wb.heap.size:=(aO.1 ho.o.box).1;simp only[ai,aj,ah]at ck2 ck3
       clear hp h1 h2 hr ck fk hw Hk;refine⟨ck2, ?_⟩;refine cn 4 rfl (fun K hK=> ?_);go_wp2_with fail
       (first | (refine⟨ck3, ?_⟩) | skip)
       refine cn 5 rfl (fun K hK=> ?_);go_wp2_with (at_builtin; go_must (refine bO Tryz.appRefs rfl _ _ rfl (w3.heap.size+1) (.slice a6 ch.length c6) ch.length (ch.flatMap jg) rfl wb [.string r.name, .int .i64 r.gen, .int .i64 r.size] _ rfl rfl (qF (r:=r)) Hm.o (by have:=HB.o; omega) Ht ?_); intro v' wc hb ha _ hu; obtain⟨ae,ce,rfl,-,-⟩:=aH hb)
       have Hl:=am (ho.o.app ha (fun k hk=>by have:=(Hm.o.lt k hk).1; omega));have HD:=am (show wc.ownsRow (w3.heap.size+1) 26 3 (.slice ae (ch.length+1) ce) (ch++[r]).length ((ch++[r]).flatMap jg) by rw[an,bP]; simpa [jg]using hb);have ck4:=Hl.o.cell 6;have fk4:=Hl.o.free 6;simp only[ai,aj,ah]at ck4
       clear hb ha hu ck2 ck3 fk2 HC ho Hm Hc;refine⟨ck4, ?_⟩;refine cA rfl (by kernel_rfl) (fun _ _ _ h=>h) rfl (by go_simp) (by intro w' yl; go_simp; rfl) ?_;simp only[Act.put,aa,ag,ab];refine cE (by kernel_rfl) ?_;refine eD rfl rfl (fun K hK=> ?_);go_wp2_with fail
       go_roundw
       case rel=>
        have m4:=Hl.o.set 6 (.slice ae (ch.length+1) ce);simp only[aa,ag,ab]at m4;refine⟨j+1,ch++[r],s8, .slice ae (ch.length+1) ce,by omega,by go_num,by simp[HB.o],uN Hf.o H3.o,m4,HD.o.kept (cG _ _ _ _) (.inr (by
         intro e;have:=(HD.o.lt _ e).1
         omega))⟩
       case measure=>simp[intOf]; omega
      ·obtain rfl:j=n2:=by omega
       have hB: ∀r∈ch,dY r:=by
        have:=yU data s6 j;rw[Hf.o]at this; exact this
       have Ho:=am (nT Hc.o hB);have ck:=hw.o.cell 6;simp only[ai,aj,ah]at ck;clear hB;go_wp2_with fail;refine(uz _ _ ch _ Ho.o).mono ?_;rintro e wb ⟨rfl,Hs⟩;have ho:=am (hw.o.below Hs);have HG:=am (show dy (fun k=>w3.heap.size<k) wb (.slice a6 ch.length c6) ch from dy.same (cP.below Ho.o (by omega) Hs (fun _ _ _ h=>h)) (fun k hk hS=>⟨by have:=hS.1; omega,rfl⟩))
       have ck4:=ho.o.cell 4;have fk4:=ho.o.free 4;simp only[ai,aj,ah]at ck4;obtain⟨tw,Hx⟩: ∃tw:Int,tw=mM ch:=⟨_,rfl⟩;rw[<-Hx];have H4:=am Hx;clear Hs ck Hx Ho
       go_upto_region 23 with(fail)
       obtain⟨wd,Hd⟩: ∃wx:World,wx=wb.setCell ⟨w3.heap.size,4,none⟩ (.int .i64 tw):=⟨_,rfl⟩;rw[<-Hd];have m4:=ho.o.set 4 (.int .i64 tw);rw[<-Hd]at m4;simp only[aa,ag,ab]at m4;have hc:=am m4;have hQ:=am (show nJ data s=some (⟨⟨nm.toArray⟩,ob kd,ob md,ob td,tw,⟨#[]⟩,ch,er⟩,s7) by rw[HH.o,wR HX.o hV.o Hf.o,H4.o])
       have hU:=am (show iw ⟨⟨nm.toArray⟩,kv,mv,tv,tw,⟨#[]⟩,ch,er⟩from⟨by show ByteArray.size ⟨_⟩<=_; unfold maxLen; simp[ByteArray.size]; omega,by show ByteArray.size ⟨_⟩<=_; unfold maxLen; simp[ByteArray.size],nN⟩);have hO:=am (show dy (wo.heap.size<= ·) wd (.slice a6 ch.length c6) ch from dy.same HG.o (fun k hk hS=>⟨by have:=hw.o.ge; show wo.heap.size<=k; omega,by rw[Hd]; exact aC _ _ _ _ (by show k≠w3.heap.size; omega)⟩))
       clear m4 Hd ck4 fk4 ho hw HG;have d0:=hc.o.cell 0;have d1:=hc.o.cell 1;have d2:=hc.o.cell 2;have d3:=hc.o.cell 3;have d4:=hc.o.cell 4;have d5:=hc.o.cell 5;have d6:=hc.o.cell 6;have d7:=hc.o.cell 7;have d8:=hc.o.cell 8;have d9:=hc.o.cell 9;simp only[ai,aj,ah]at d0 d1 d2 d3 d4 d5 d6 d7 d8 d9
       have hT:=am (hd.o.kept hc.o.grown (.inr (by
        intro e;have:=(hd.o.lt _ e).1;have:=di.lt hg.o
        omega)))
       have hY:w1.heap.size<=wd.heap.size:=ay he.o.grown.size hc.o.grown.size;have hW:=am (show nJ data s=some (⟨⟨nm.toArray⟩,kv,mv,tv,tw,⟨#[]⟩,ch,er⟩,s7) by rw[hQ.o,hz.o,Hq.o,Hr.o]; rfl);have hZ:l.length<4096:=by have:=hI.o; omega
       go_wp2_with (at_builtin; go_must (refine bO Tryz.appItems rfl _ _ rfl w1.heap.size (.slice av l.length cv0) l.length cells rfl wd [.string ⟨nm.toArray⟩, .int .i64 kv, .int .i64 mv, .int .i64 tv, .int .i64 (tw), .string ⟨#[]⟩, .slice a6 ch.length c6, .string ⟨#[]⟩, .int .i64 0, .int .i64 0] _ rfl rfl (kC (it:=⟨⟨nm.toArray⟩,kv,mv,tv,tw,⟨#[]⟩,ch,er⟩)) hT.o (by omega) hY ?_); intro v' we hb ha _ hu; have hP:=am (he.o.added (it:=⟨⟨nm.toArray⟩,kv,mv,tv,tw,⟨#[]⟩,ch,er⟩) hc.o hO.o hU.o hy.o hd.o hb ha hu); obtain⟨ae,ce,rfl,-,-⟩:=aH hb; clear hb ha hu)
       go_roundw
       case rel=>exact⟨k+1,l++[⟨⟨nm.toArray⟩,kv,mv,tv,tw,⟨#[]⟩,ch,er⟩],s7,by omega,by go_num,by simp[hI.o],ou hR.o hW.o,hP.o⟩
       case measure=>simp[intOf]; omega
    ·have e1:(kv == 1)=false:=by simp[hC]
     by_cases hF:kv=2
     ·have e2:(kv == 2)=true:=by simp[hF]
      have HY:=am (show ob kd=2 from hz.o.symm.trans hF);clear hC hF;go_wp2_with fail;refine(vh rb dv data s5 _ hl.o.rd).mono ?_;rintro e wa ⟨r,s6,hp,rfl,h1,h2,hr⟩;have hV:=am hp;have HI:=am hr;have hf:=am (hl.o.call h1 h2);have c7:=hf.o.cell 7;have c8:=hf.o.cell 8;have c9:=hf.o.cell 9;have f7:=hf.o.free 7;have f8:=hf.o.free 8;have f9:=hf.o.free 9
      simp only[ai,aj,ah]at c7 c8 c9;unfold ef;clear hp h1 h2 hr ck
      go_upto_region 23 with(fail)
      obtain⟨wb,hH⟩: ∃wx:World,wx=((wa.setCell ⟨w3.heap.size,7,none⟩ (.string r.name)).setCell ⟨w3.heap.size,8,none⟩ (.int .i64 r.gen)).setCell ⟨w3.heap.size,9,none⟩ (.int .i64 r.size):=⟨_,rfl⟩;rw[<-hH];have m4:=((hf.o.set 7 (.string r.name)).set 8 (.int .i64 r.gen)).set 9 (.int .i64 r.size);rw[<-hH]at m4;simp only[aa,ag,ab]at m4
      have hc:=am m4;have hQ:=am (HH.o.trans (zu HY.o hV.o));have hU:=am (show iw ⟨⟨nm.toArray⟩,kv,mv,tv,0,⟨#[]⟩,[],r⟩from⟨by show ByteArray.size ⟨_⟩<=_; unfold maxLen; simp[ByteArray.size]; omega,by show ByteArray.size ⟨_⟩<=_; unfold maxLen; simp[ByteArray.size],HI.o⟩);have hO:=am (show dy (wr.heap.size<= ·) wb (.slice none 0 0) []from cP.nil);clear m4 hH c7 c8 c9 f7 f8 f9 hf hl
      have d0:=hc.o.cell 0;have d1:=hc.o.cell 1;have d2:=hc.o.cell 2;have d3:=hc.o.cell 3;have d4:=hc.o.cell 4;have d5:=hc.o.cell 5;have d6:=hc.o.cell 6;have d7:=hc.o.cell 7;have d8:=hc.o.cell 8;have d9:=hc.o.cell 9;simp only[ai,aj,ah]at d0 d1 d2 d3 d4 d5 d6 d7 d8 d9;have hT:=am (hd.o.kept hc.o.grown (.inr (by
       intro e;have:=(hd.o.lt _ e).1;have:=di.lt hg.o
       omega)))
      have hY:w1.heap.size<=wb.heap.size:=ay he.o.grown.size hc.o.grown.size;have hW:=am (show nJ data s=some (⟨⟨nm.toArray⟩,kv,mv,tv,0,⟨#[]⟩,[],r⟩,s6) by rw[hQ.o,hz.o,Hq.o,Hr.o]; rfl);have hZ:l.length<4096:=by have:=hI.o; omega
      go_wp2_with (at_builtin; go_must (refine bO Tryz.appItems rfl _ _ rfl w1.heap.size (.slice av l.length cv0) l.length cells rfl wb [.string ⟨nm.toArray⟩, .int .i64 kv, .int .i64 mv, .int .i64 tv, .int .i64 (0), .string ⟨#[]⟩, .slice none 0 0, .string r.name, .int .i64 r.gen, .int .i64 r.size] _ rfl rfl (kC (it:=⟨⟨nm.toArray⟩,kv,mv,tv,0,⟨#[]⟩,[],r⟩)) hT.o (by omega) hY ?_); intro v' we hb ha _ hu; have hP:=am (he.o.added (it:=⟨⟨nm.toArray⟩,kv,mv,tv,0,⟨#[]⟩,[],r⟩) hc.o hO.o hU.o hy.o hd.o hb ha hu); obtain⟨ae,ce,rfl,-,-⟩:=aH hb; clear hb ha hu)
      go_roundw
      case rel=>exact⟨k+1,l++[⟨⟨nm.toArray⟩,kv,mv,tv,0,⟨#[]⟩,[],r⟩],s6,by omega,by go_num,by simp[hI.o],ou hR.o hW.o,hP.o⟩
      case measure=>simp[intOf]; omega
     ·have e2:(kv == 2)=false:=by simp[hF]
      by_cases hL:kv=3
      ·have e3:(kv == 3)=true:=by simp[hL]
       have HZ:=am (show ob kd=3 from hz.o.symm.trans hL);clear hC hF hL;go_wp2_with fail;refine(Nc rb dv data s5 512 _ hl.o.rd (by omega)).mono ?_;rintro e wa ⟨lk,s6,hp,rfl,h1,h2⟩;have hV:=am hp;have H6:lk.length<=512:=by have:=Ih data 512 s5; rw[hp]at this; exact this
       have hf:=am (hl.o.call h1 h2);have c7:=hf.o.cell 5;have f7:=hf.o.free 5;simp only[ai,aj,ah]at c7;clear hp h1 h2 ck
       go_upto_region 23 with(fail)
       obtain⟨wb,hH⟩: ∃wx:World,wx=wa.setCell ⟨w3.heap.size,5,none⟩ (.string ⟨lk.toArray⟩):=⟨_,rfl⟩;rw[<-hH];have m4:=hf.o.set 5 (.string ⟨lk.toArray⟩);rw[<-hH]at m4;simp only[aa,ag,ab]at m4;have hc:=am m4;have hQ:=am (HH.o.trans (wS HZ.o hV.o));have hU:=am (show iw ⟨⟨nm.toArray⟩,kv,mv,tv,0,⟨lk.toArray⟩,[],er⟩from⟨by show ByteArray.size ⟨_⟩<=_; unfold maxLen; simp[ByteArray.size]; omega,by show ByteArray.size ⟨_⟩<=_; unfold maxLen; simp[ByteArray.size]; omega,nN⟩)
       have hO:=am (show dy (wr.heap.size<= ·) wb (.slice none 0 0) []from cP.nil);clear m4 hH c7 f7 hf hl;have d0:=hc.o.cell 0;have d1:=hc.o.cell 1;have d2:=hc.o.cell 2;have d3:=hc.o.cell 3;have d4:=hc.o.cell 4;have d5:=hc.o.cell 5;have d6:=hc.o.cell 6;have d7:=hc.o.cell 7;have d8:=hc.o.cell 8;have d9:=hc.o.cell 9;simp only[ai,aj,ah]at d0 d1 d2 d3 d4 d5 d6 d7 d8 d9
       have hT:=am (hd.o.kept hc.o.grown (.inr (by
        intro e;have:=(hd.o.lt _ e).1;have:=di.lt hg.o
        omega)))
       have hY:w1.heap.size<=wb.heap.size:=ay he.o.grown.size hc.o.grown.size;have hW:=am (show nJ data s=some (⟨⟨nm.toArray⟩,kv,mv,tv,0,⟨lk.toArray⟩,[],er⟩,s6) by rw[hQ.o,hz.o,Hq.o,Hr.o]; rfl);have hZ:l.length<4096:=by have:=hI.o; omega
       go_wp2_with (at_builtin; go_must (refine bO Tryz.appItems rfl _ _ rfl w1.heap.size (.slice av l.length cv0) l.length cells rfl wb [.string ⟨nm.toArray⟩, .int .i64 kv, .int .i64 mv, .int .i64 tv, .int .i64 (0), .string ⟨lk.toArray⟩, .slice none 0 0, .string ⟨#[]⟩, .int .i64 0, .int .i64 0] _ rfl rfl (kC (it:=⟨⟨nm.toArray⟩,kv,mv,tv,0,⟨lk.toArray⟩,[],er⟩)) hT.o (by omega) hY ?_); intro v' we hb ha _ hu; have hP:=am (he.o.added (it:=⟨⟨nm.toArray⟩,kv,mv,tv,0,⟨lk.toArray⟩,[],er⟩) hc.o hO.o hU.o hy.o hd.o hb ha hu); obtain⟨ae,ce,rfl,-,-⟩:=aH hb; clear hb ha hu)
       go_roundw
       case rel=>exact⟨k+1,l++[⟨⟨nm.toArray⟩,kv,mv,tv,0,⟨lk.toArray⟩,[],er⟩],s6,by omega,by go_num,by simp[hI.o],ou hR.o hW.o,hP.o⟩
       case measure=>simp[intOf]; omega
      ·have e3:(kv == 3)=false:=by simp[hL]
       have hE:=am (CK hN.o Hy.o (CI (CJ hR.o (HH.o.trans (EN (fun e=>hC (hz.o.trans e)) (fun e=>hF (hz.o.trans e)) (fun e=>hL (hz.o.trans e))))) n (by omega)));clear hC hF hL;go_wp2_with fail
       go_ret2
       have H5:Below w.heap.size w w9:=hM.o.trans ((fX.of_grown (S:=fun k=>k=rb) (bV he.o.grown hl.o.grown) (fun k hk=>by cases hk; rfl)).below hM.o.size (fun k hk=>by subst hk; exact HM));exact⟨H5,by rw[hE.o]; rfl⟩
   ·obtain rfl:k=n:=by omega
    have Hg:=am (uV hN.o Hy.o hR.o);have HU:=am (show ew (w.heap.size<= ·) wr (.slice av l.length cv0) l from by
     have y3:=hM.o.size;refine⟨cells,(cL hd.o).weak (fun k hk=>by have:=hk.1; omega),hy.o.mono (fun c x _ hx=>hx.same (fun k hk hS=>⟨by have:=hS.1; omega,rfl⟩))⟩)
    have h8:=am (show Below w.heap.size w wr from hM.o.trans ((fX.of_grown (S:=fun k=>k=rb) he.o.grown (fun k hk=>by cases hk; rfl)).below hM.o.size (fun k hk=>by subst hk; exact HM)));go_wp2_with fail;refine(NY rb dv data s _ Hn.o).mono ?_;rintro e we ⟨rfl,nd,rfl⟩;obtain⟨ev,Hv⟩: ∃ev:Int,ev=uc data s:=⟨_,rfl⟩;rw[<-Hv];have HA:=am Hv;clear Hv
    by_cases h0:ev=0
    ·subst h0;have hD:=am (show ew (w.heap.size<= ·) (wr.drewN nd) (.slice av l.length cv0) l from ew.below HU.o (fR (au _ _) nd));have Hz:=am (HE.o.below (fR h8.o nd))
     cases hh:jy l
     ·have hE:=am (show jf data=none by rw[Hg.o,hh]; simp);have Hp:=am hh;clear hh;go_wp2_with fail;refine(ni _ l _ false _ hD.o Hz.o Hp.o).mono ?_;rintro e wf ⟨rfl,hJ⟩;have He:=am (ar (fR h8.o nd) hJ);clear hJ;go_wp2_with fail
      go_ret2
      exact⟨He.o,by rw[hE.o]; rfl⟩
     ·have hE:=am (show jf data=some l by rw[Hg.o,hh]; simp[HA.o.symm]);have Hp:=am hh;clear hh;go_wp2_with fail;refine(ni _ l _ true _ hD.o Hz.o Hp.o).mono ?_;rintro e wf ⟨rfl,hJ⟩;have He:=am (ar (fR h8.o nd) hJ);have HW:=am (ew.below hD.o hJ);clear hJ;go_wp2_with fail
      go_ret2
      exact⟨He.o,by rw[hE.o]; exact⟨_,rfl,HW.o⟩⟩
    ·have hE:=am (show jf data=none by rw[Hg.o,if_neg (fun h=>h0 (HA.o.trans h.1))]);have e6:(ev != 0)=true:=by simp[h0]
     clear h0;go_wp2_with fail
     go_ret2
     exact⟨fR h8.o nd,by rw[hE.o]; rfl⟩
open Go Go.RowKit
def kB (l:List cg) (k:Nat):List UInt8:=bD l.length++(l.take k).flatMap fu
theorem AY {l:List cg} {k:Nat} {it:cg} (h:l[k]? =some it):kB l (k+1)=kB l k++fu it:=by
 unfold kB;rw[ci,h,bP,<-bi]; simp
theorem Cr (l:List cg):kB l l.length=fO l:=by unfold kB fO; rw[dj]
theorem wB (l:List cg) (k:Nat):(kB l k).length<=(fO l).length:=by
 have:(l.flatMap fu).length=((l.take k).flatMap fu).length+((l.drop k).flatMap fu).length:=by
  rw[<-an,<-bP,du]
 unfold kB fO;rw[an,an];omega
def vP (l:List cg) (w:World) (e:Ending) (w':World):Prop:=Below w.heap.size w w'/\
 if jy l=true then(if(fO l).length<=32768 then ∃v,e= .returned (.tuple #[v, .int .i64 0])/\lO w' w.heap.size v (fO l)else e= .returned (.tuple #[.slice none 0 0, .int .i64 2]))
 else e= .returned (.tuple #[.slice none 0 0, .int .i64 1])
theorem Da (S:Nat->Prop) (l:List cg) (v:Value) (w:World) (hv:ew S w v l) (henv:nY w) (hsm:(fO l).length<1000000000000) (htm: ∀it∈l,it.time<9223372036854775808):Calls Tryz.prog 15 #[v] w (vP l w):=by
 obtain⟨a,cap,rfl,hc,hm,-⟩:=cP.shape hv kO.len;unfold maxLen at hm;obtain⟨n,hn⟩: ∃n,n=l.length:=⟨_,rfl⟩;rw[<-hn]at hv hc ⊢;have HV:=am hv;have HE:=am henv;have HN:=am hn;have hZ:=am hsm;have HP:=am htm;clear hv henv hn hsm htm
 by_cases hx:jy l=true
 ·have hC:=am hx;have hG:=am (pq hx);clear hx;have yn:n<=4096:=by rw[HN.o]; exact hG.o.1
  go_enter Tryz.func15,Tryz.ntmps15
  go_wp2_with fail;refine(ni S l _ true w HV.o HE.o hC.o).mono ?_;rintro e w1 ⟨rfl,hJ⟩;have hN:=am hJ;clear hJ;go_wp2_with fail;refine(yx w1).mono ?_;rintro e w2 ⟨rfl,Hb,Hk⟩;obtain⟨wb,Hd⟩: ∃wb,wb=w1.heap.size:=⟨_,rfl⟩;rw[<-Hd]at Hb ⊢;have Hz:=am (ar hN.o Hk);have HT:=am Hb;have hs:=am (show w.heap.size<=wb by rw[Hd]; exact hN.o.size)
  clear Hb Hk Hd;go_wp2_with fail;refine(xV wb n [] w2 HT.o (by simp) (by omega)).mono ?_;rintro e w3 ⟨rfl,Hc,Hn⟩;rw[aJ]at Hc;have HU:=am Hc;have HC:=am (Hz.o.trans (Hn.1.mono hs.o));clear Hc Hn;go_wp2_with fail
  go_loopw [21] (fun i wr=> ∃k:Nat,k<=n/\i= .int .i64 (k:Int)/\sE wr wb (kB l k)/\Below w.heap.size w wr) (fun i _=>n-(intOf i).toNat)
  case atStart=>exact⟨0,aW _,rfl,by have:=HU.o; rw[HN.o]at this; simpa [kB]using this,HC.o⟩
  case round=>
   obtain⟨k,hk,rfl,hw,hb⟩:=hrel;have HW:=am hw;have HB:=am hb;clear hw hb
   by_cases H6:k<n
   ·obtain⟨it,hr⟩: ∃it,l[k]? =some it:=⟨l[k]'(by rw[<-HN.o]; exact H6),by simp⟩;obtain⟨b,o,ca,cc,rfl,Hs,Ht,HY,-,hL⟩:=lB HV.o (au _ _) hr;have hu: ∀j,j<10->wr.cell? ⟨b,o+k*10+j,none⟩=(eW (.slice ca it.chunks.length cc) it)[j]? :=fun j hj=>(HB.o.cell (p:=⟨b,o+k*10+j,none⟩) HY).trans (hL j hj)
    have HR:=am hr;have HO:=am Hs;have hX:=am Ht;have HQ:=am (hG.o.2 it (aQ hr));have q0:=hu 0 (by omega);have q1:=hu 1 (by omega);have q2:=hu 2 (by omega);have q3:=hu 3 (by omega);have q4:=hu 4 (by omega);have q5:=hu 5 (by omega);have q6:=hu 6 (by omega);have q7:=hu 7 (by omega);have q8:=hu 8 (by omega);have q9:=hu 9 (by omega);simp only[eW,ah,aj,cT]at q0 q1 q2 q3 q4 q5 q6 q7 q8 q9
    have hF:=HQ.o;unfold jo at hF;rw[aI]at hF;have hh:=qx.1 hF.1;have hT:=am (qW hF.2);have h0:=am hF.2;have htm:=HP.o it (aQ hr);obtain⟨kd,Hp⟩: ∃kd,kd=it.kind.toNat:=⟨_,rfl⟩;obtain⟨md,Hq⟩: ∃md,md=it.mode.toNat:=⟨_,rfl⟩;obtain⟨td,Hu⟩: ∃td,td=it.time.toNat:=⟨_,rfl⟩;have H2:=hh.md0;have hE:=hh.md1
    have ya:=hh.tm0;have Hr:=sS hh.val hh.nos;have h8:it.kind=(kd:Int):=by rcases hT.o with h | h | h<;> omega
    have hP:it.mode=(md:Int):=by omega
    have Hv:it.time=(td:Int):=by omega
    have H4:kd<=3:=by rcases hT.o with h | h | h<;> omega
    have H8:md<=511:=by omega
    have yb:td<9223372036854775808:=by omega
    have hz:=am (aE Hp (aE Hq Hu));have H9:it.name.size=(bl it.name).length:=bh _;have yp:IntKind.u64.wrap (kd:Int)=(kd:Int):=by rw[cQ]; omega
    have yv:IntKind.u64.wrap (md:Int)=(md:Int):=by rw[cQ]; omega
    have y0:IntKind.u64.wrap (td:Int)=(td:Int):=by rw[cQ]; omega
    rw[h8]at q1;rw[hP]at q2;rw[Hv]at q3;have hU:=am (show kd=1\/kd=2\/kd=3 by rcases hT.o with h | h | h<;> omega);have hA:=am h8;clear hr Hs Ht hu hL hF hh htm Hp Hq Hu H2 hE ya h8 hP Hv;have l1:=wB l k;have l2:=hZ.o;have l3:=iF (n:=it.name.size) (by omega);have l4:=iF (n:=kd) (by omega);have l5:=iF (n:=md) (by omega)
    have l6:=iF (n:=td) (by omega);have hy:=am (show(kB l k).length<1000000000000/\(bD it.name.size).length<=10/\(bD kd).length<=10/\(bD md).length<=10/\(bD td).length<=10/\(bl it.name).length<=64/\it.name.size<=64 from⟨by omega,l3,l4,l5,l6,Hr,by omega⟩);clear l1 l2 l3 l4 l5 l6 Hr H9;have yc:wb<wr.heap.size:=by obtain⟨_,h,_⟩:=HW.o; exact aw h
    have HA:=am ((au wr.heap.size wr).alloc (ak _) (.cells #[.string it.name, .int .i64 (kd:Int), .int .i64 (md:Int), .int .i64 (td:Int), .int .i64 it.size, .string it.link, .slice ca it.chunks.length cc, .string it.node.name, .int .i64 it.node.gen, .int .i64 it.node.size] 28));have ha:=am (dZ wr (.cells #[.string it.name, .int .i64 (kd:Int), .int .i64 (md:Int), .int .i64 (td:Int), .int .i64 it.size, .string it.link, .slice ca it.chunks.length cc, .string it.node.name, .int .i64 it.node.gen, .int .i64 it.node.size] 28))
    have hf:=am (HW.o.below HA.o);have he:=am (HB.o.trans (HA.o.mono HB.o.size));go_wp2_with fail;clear q0 q1 q2 q3 q4 q5 q6 q7 q8 q9;refine(Ap wb it.name _ _ hf.o (by have:=hy.o; omega) (by have:=hy.o; omega)).mono ?_;rintro e wx ⟨rfl,hp,hd⟩;have ho:=am ((hd.2 _ (by decide) (by decide) _ _ ha.o).trans ha.o);have hl:=am hp;have hg:=am (he.o.trans (hd.1.mono hs.o))
    clear hp hd ha hf he;have ha:=ho;have hf:=hl;have he:=hg;clear ho hl hg;obtain⟨c0,c1,c2,c3,_⟩:=aU ha.o;have c5:=az (k:=5) ha.o;have c6:=az (k:=6) ha.o;have c7:=az (k:=7) ha.o;have c8:=az (k:=8) ha.o;have c9:=az (k:=9) ha.o;simp only[ai,aj,ah]at c5 c6 c7 c8 c9
    go_wp2_with fail;clear c0 c1 c2 c3 c5 c6 c7 c8 c9;refine(lr wb kd _ _ hf.o (by have:=hy.o; simp only[an]; omega) (by omega)).mono ?_;rintro e wx ⟨rfl,hp,hd⟩;have ho:=am ((hd.2 _ (by decide) (by decide) _ _ ha.o).trans ha.o);have hl:=am hp;have hg:=am (he.o.trans (hd.1.mono hs.o));clear hp hd ha hf he;have ha:=ho;have hf:=hl;have he:=hg
    clear ho hl hg;obtain⟨c0,c1,c2,c3,_⟩:=aU ha.o;have c5:=az (k:=5) ha.o;have c6:=az (k:=6) ha.o;have c7:=az (k:=7) ha.o;have c8:=az (k:=8) ha.o;have c9:=az (k:=9) ha.o;simp only[ai,aj,ah]at c5 c6 c7 c8 c9;go_wp2_with fail;clear c0 c1 c2 c3 c5 c6 c7 c8 c9;refine(lr wb md _ _ hf.o (by have:=hy.o; simp only[an]; omega) (by omega)).mono ?_
    rintro e wx ⟨rfl,hp,hd⟩;have ho:=am ((hd.2 _ (by decide) (by decide) _ _ ha.o).trans ha.o);have hl:=am hp;have hg:=am (he.o.trans (hd.1.mono hs.o));clear hp hd ha hf he;have ha:=ho;have hf:=hl;have he:=hg;clear ho hl hg;obtain⟨c0,c1,c2,c3,_⟩:=aU ha.o;have c5:=az (k:=5) ha.o;have c6:=az (k:=6) ha.o;have c7:=az (k:=7) ha.o
    have c8:=az (k:=8) ha.o;have c9:=az (k:=9) ha.o;simp only[ai,aj,ah]at c5 c6 c7 c8 c9;go_wp2_with fail;clear c0 c1 c2 c3 c5 c6 c7 c8 c9;have hW:=am (AY HR.o);have HI:=am (show(kB l (k+1)).length<1000000000000 by have h1:=wB l (k+1); have h2:=hZ.o; omega)
    rcases hU.o with h | h | h
    ·subst h;have hB:=nj (by rw[hA.o]; rfl) h0.o;have hH:=am hB.2.2.1;obtain⟨_,_,Hm,H1,H0,-⟩:=cP.shape hX.o oU.len;simp only[cW]at Hm;obtain⟨rfl,-,rfl⟩:=Hm;obtain⟨n2,hQ⟩: ∃n2,n2=it.chunks.length:=⟨_,rfl⟩;have Hg:=am hQ;unfold maxLen at H0;rw[<-hQ]at ha hX H1;have h9:n2<9223372036854775808:=by omega
     have hI:=am (show fu it=bD it.name.size++(bl it.name++(bD 1++(bD md++(bD td++(bD n2++it.chunks.flatMap ff))))) by
      unfold fu kh;rw[if_pos (by rw[hA.o]; rfl),<-hz.o.1,<-hz.o.2.1,<-hz.o.2.2,<-hQ])
     clear hQ hB;refine(lr wb td _ _ hf.o (by have:=hy.o; simp only[an]; omega) (by omega)).mono ?_;rintro e wx ⟨rfl,hp,hd⟩;have ho:=am ((hd.2 _ (by decide) (by decide) _ _ ha.o).trans ha.o);have hl:=am hp;have hg:=am (he.o.trans (hd.1.mono hs.o));clear hp hd ha hf he;have ha:=ho;have hf:=hl;have he:=hg;clear ho hl hg;obtain⟨c0,c1,c2,c3,_⟩:=aU ha.o
     have c5:=az (k:=5) ha.o;have c6:=az (k:=6) ha.o;have c7:=az (k:=7) ha.o;have c8:=az (k:=8) ha.o;have c9:=az (k:=9) ha.o;simp only[ai,aj,ah]at c5 c6 c7 c8 c9;go_wp2_with fail;clear c0 c1 c2 c3 c5 c6 c7 c8 c9;refine(xV wb n2 _ _ hf.o (by have:=hy.o; simp only[an]; omega) h9).mono ?_
     rintro e wx ⟨rfl,hp,hd⟩;have ho:=am ((hd.2 _ (by decide) (by decide) _ _ ha.o).trans ha.o);have hl:=am hp;have hg:=am (he.o.trans (hd.1.mono hs.o));clear hp hd ha hf he;have ha:=ho;have hf:=hl;have he:=hg;clear ho hl hg;obtain⟨c0,c1,c2,c3,_⟩:=aU ha.o;have c5:=az (k:=5) ha.o;have c6:=az (k:=6) ha.o;have c7:=az (k:=7) ha.o
     have c8:=az (k:=8) ha.o;have c9:=az (k:=9) ha.o;simp only[ai,aj,ah]at c5 c6 c7 c8 c9;go_wp2_with fail;clear c0 c1 c2 c3 c5 c6 c7 c8 c9;obtain⟨D,Hj,Hi⟩: ∃D,sE wx wb D/\D++it.chunks.flatMap ff=kB l (k+1):=⟨_,hf.o,by rw[hW.o,hI.o]; simp[List.append_assoc]⟩;have HG:=am Hj
     have Hf:=am Hi;clear Hj Hi
     go_loopw [56] (fun j w6=> ∃m:Nat,m<=n2/\j= .int .i64 (m:Int)/\sE w6 wb (D++(it.chunks.take m).flatMap ff)/\Below w.heap.size w w6) (fun j _=>n2-(intOf j).toNat)
     case atStart=>exact⟨0,aW _,rfl,by simpa using HG.o,he.o⟩
     case round=>
      obtain⟨m,yl,rfl,Hx,Hl⟩:=hrel;have Hh:=am Hx;have hO:=am Hl;clear Hx Hl
      by_cases H5:m<n2
      ·obtain⟨r,hR⟩: ∃r,it.chunks[m]? =some r:=⟨it.chunks[m]'(by rw[<-Hg.o]; exact H5),by simp⟩;have HK:=am hR;have HS:=am ((hH.o r (aQ hR)).1);obtain⟨b2,o2,rfl,-,p0,p1,p2⟩:=lH hX.o hO.o hR;have HH:=am (show(D++(it.chunks.take m).flatMap ff).length<1098000000000 by
        have h1:=congrArg List.length Hf.o;have h2:=HI.o;have h3:(it.chunks.flatMap ff).length=((it.chunks.take m).flatMap ff).length+((it.chunks.drop m).flatMap ff).length:=by
         rw[<-an,<-bP,du]
        rw[an]at h1 ⊢
        omega)
       clear hR;have He:=am ((au wr.heap.size wr).alloc (ak _) (.cells #[.string r.name, .int .i64 r.gen, .int .i64 r.size] 26));have HM:=am (show(it.chunks.take (m+1)).flatMap ff=(it.chunks.take m).flatMap ff++ff r by
        rw[ci,HK.o,bP]; simp)
       have HL:=am (tN wb r _ _ (Hh.o.below He.o) HH.o HS.o);have HD:=am (hO.o.trans (He.o.mono hO.o.size));go_wp2_with fail;refine HL.o.mono ?_;rintro e w8 ⟨rfl,Hy,Ho⟩;have HX:=am Hy;have HF:=am (HD.o.trans (Ho.1.mono hs.o));clear Hy Ho p0 p1 p2;go_wp2_with fail
       go_roundw
       case rel=>
        refine⟨m+1,by omega,by go_num, ?_,HF.o⟩;rw[HM.o,<-bi];exact HX.o
       case measure=>simp[intOf]; omega
      ·have H7:m=n2:=by omega
       subst H7;have h4:=am (show sE _ wb (kB l (k+1)) by have:=Hh.o; rw[Hg.o,dj,Hf.o]at this; exact this);go_wp2_with fail
       go_roundw
       case rel=>exact⟨k+1,by omega,by go_num,h4.o,hO.o⟩
       case measure=>simp[intOf]; omega
    ·subst h;have hB:=sR (by rw[hA.o]; rfl) h0.o;have hH:=am hB.2.2.2;have hI:=am (show fu it=bD it.name.size++(bl it.name++(bD 2++(bD md++(bD td++ff it.node)))) by
      unfold fu kh;rw[if_neg (by rw[hA.o]; decide),if_pos (by rw[hA.o]; rfl),<-hz.o.1,<-hz.o.2.1,<-hz.o.2.2])
     clear hB;refine(lr wb td _ _ hf.o (by have:=hy.o; simp only[an]; omega) (by omega)).mono ?_;rintro e wx ⟨rfl,hp,hd⟩;have ho:=am ((hd.2 _ (by decide) (by decide) _ _ ha.o).trans ha.o);have hl:=am hp;have hg:=am (he.o.trans (hd.1.mono hs.o));clear hp hd ha hf he;have ha:=ho;have hf:=hl;have he:=hg;clear ho hl hg;obtain⟨c0,c1,c2,c3,_⟩:=aU ha.o
     have c5:=az (k:=5) ha.o;have c6:=az (k:=6) ha.o;have c7:=az (k:=7) ha.o;have c8:=az (k:=8) ha.o;have c9:=az (k:=9) ha.o;simp only[ai,aj,ah]at c5 c6 c7 c8 c9;go_wp2_with fail;clear c0 c1 c2 c3 c5 c6 c7 c8 c9;refine(tN wb it.node _ _ hf.o (by have:=hy.o; simp only[an]; omega) hH.o).mono ?_
     rintro e wx ⟨rfl,hp,hd⟩;have ho:=am ((hd.2 _ (by decide) (by decide) _ _ ha.o).trans ha.o);have hl:=am hp;have hg:=am (he.o.trans (hd.1.mono hs.o));clear hp hd ha hf he;have ha:=ho;have hf:=hl;have he:=hg;clear ho hl hg;obtain⟨c0,c1,c2,c3,_⟩:=aU ha.o;have c5:=az (k:=5) ha.o;have c6:=az (k:=6) ha.o;have c7:=az (k:=7) ha.o
     have c8:=az (k:=8) ha.o;have c9:=az (k:=9) ha.o;simp only[ai,aj,ah]at c5 c6 c7 c8 c9;go_wp2_with fail;clear c0 c1 c2 c3 c5 c6 c7 c8 c9
     go_roundw
     case rel=>
      refine⟨k+1,by omega,by go_num, ?_,he.o⟩;rw[hW.o,hI.o]
      simpa [List.append_assoc]using hf.o
     case measure=>simp[intOf]; omega
    ·subst h;have hB:=tU (by rw[hA.o]; rfl) h0.o;have hH:=am hB.2.2.2.2.1;have hI:=am (show fu it=bD it.name.size++(bl it.name++(bD 3++(bD md++(bD td++(bD it.link.size++bl it.link))))) by
      unfold fu kh;rw[if_neg (by rw[hA.o]; decide),if_neg (by rw[hA.o]; decide),<-hz.o.1,<-hz.o.2.1,<-hz.o.2.2])
     clear hB;refine(lr wb td _ _ hf.o (by have:=hy.o; simp only[an]; omega) (by omega)).mono ?_;rintro e wx ⟨rfl,hp,hd⟩;have ho:=am ((hd.2 _ (by decide) (by decide) _ _ ha.o).trans ha.o);have hl:=am hp;have hg:=am (he.o.trans (hd.1.mono hs.o));clear hp hd ha hf he;have ha:=ho;have hf:=hl;have he:=hg;clear ho hl hg;obtain⟨c0,c1,c2,c3,_⟩:=aU ha.o
     have c5:=az (k:=5) ha.o;have c6:=az (k:=6) ha.o;have c7:=az (k:=7) ha.o;have c8:=az (k:=8) ha.o;have c9:=az (k:=9) ha.o;simp only[ai,aj,ah]at c5 c6 c7 c8 c9;go_wp2_with fail;clear c0 c1 c2 c3 c5 c6 c7 c8 c9;refine(Ap wb it.link _ _ hf.o (by have:=hy.o; simp only[an]; omega) (by have:=hH.o; omega)).mono ?_
     rintro e wx ⟨rfl,hp,hd⟩;have ho:=am ((hd.2 _ (by decide) (by decide) _ _ ha.o).trans ha.o);have hl:=am hp;have hg:=am (he.o.trans (hd.1.mono hs.o));clear hp hd ha hf he;have ha:=ho;have hf:=hl;have he:=hg;clear ho hl hg;obtain⟨c0,c1,c2,c3,_⟩:=aU ha.o;have c5:=az (k:=5) ha.o;have c6:=az (k:=6) ha.o;have c7:=az (k:=7) ha.o
     have c8:=az (k:=8) ha.o;have c9:=az (k:=9) ha.o;simp only[ai,aj,ah]at c5 c6 c7 c8 c9;go_wp2_with fail;clear c0 c1 c2 c3 c5 c6 c7 c8 c9
     go_roundw
     case rel=>
      refine⟨k+1,by omega,by go_num, ?_,he.o⟩;rw[hW.o,hI.o]
      simpa [List.append_assoc]using hf.o
     case measure=>simp[intOf]; omega
   ·have H3:k=n:=by omega
    subst H3;have h4:=am (show sE wr wb (fO l) by have:=HW.o; rw[HN.o,Cr]at this; exact this);go_wp2_with fail;refine(KD wb (fO l) wr h4.o (by have:=hZ.o; omega)).mono ?_;rintro e w9 ⟨h7,hM⟩;obtain⟨m,hE⟩: ∃m,m=(fO l).length:=⟨_,rfl⟩;rw[<-hE]at hM;have hV:=am hE;have hS:=am (HB.o.trans (h7.mono HB.o.size));have HZ:=HB.o.size
    by_cases hD:m<=1048576
    ·rw[if_pos hD]at hM;obtain⟨v9,rfl,Ha⟩:=hM;obtain⟨a9,c9,Hw,-,-⟩:=aH Ha;rw[<-hE]at Hw;subst Hw;have HJ:=am (gA Ha HZ);clear hE Ha h7
     by_cases hq:m<=32768
     ·have hP:(m:Int)<=32768:=by omega
      go_wp2_with fail
      go_ret2
      refine⟨hS.o, ?_⟩;rw[if_pos hC.o,<-hV.o,if_pos hq];exact⟨_,rfl,HJ.o⟩
     ·have hP:(32768:Int)<(m:Int):=by omega
      have hY:=am hq;clear hq;go_wp2_with fail
      go_ret2
      refine⟨hS.o, ?_⟩;rw[if_pos hC.o,<-hV.o,if_neg hY.o]
      rfl
    ·rw[if_neg hD]at hM;subst hM;have hY:=am (show ¬m<=32768 by omega);clear hE h7 hD;go_wp2_with fail
     go_ret2
     refine⟨hS.o, ?_⟩;rw[if_pos hC.o,<-hV.o,if_neg hY.o]
     rfl
 ·have hC:=am (show jy l=false by simpa using hx);clear hx
  go_enter Tryz.func15,Tryz.ntmps15
  go_wp2_with fail;refine(ni S l _ false w HV.o HE.o hC.o).mono ?_;rintro e w1 ⟨rfl,hJ⟩;have hN:=am hJ;clear hJ;go_wp2_with fail
  go_ret2
  refine⟨hN.o, ?_⟩;rw[hC.o]
  rfl
end Go.Proofs.YtpffpjbkbaleiaaGreatDoor
namespace Go.Proofs.YtpffpjbkbaleiaaGreatDoor
open Go.RowKit Go.Maps
def eT (S:Nat->Prop) (w:World):List (Value×Value)->List (ByteArray×List UInt8)->Prop
 | [],[]=>True
 | (k,v)::m,(n,bs)::cs=>k= .string n/\bH S w v bs/\eT S w m cs
 | _,_=>False
theorem eT.mono {S:Nat->Prop} {w w':World} : ∀ {m:List (Value×Value)} {cs:List (ByteArray×List UInt8)},eT S w m cs->(∀v bs,bH S w v bs->bH S w' v bs)->eT S w' m cs
 | [],[],_,_=>trivial
 | [],_::_,h,_=>h
 | _::_,[],h,_=>h
 | (_,_)::_,(_,_)::_,h,hm=>⟨h.1,hm _ _ h.2.1,eT.mono h.2.2 hm⟩
def gE :List (ByteArray×List UInt8)->ByteArray->Option (List UInt8)
 | [],_=>none
 | (k,bs)::cs,n=>if k=n then some bs else gE cs n
theorem eT.hit {S:Nat->Prop} {w:World} {n:ByteArray} {bs:List UInt8} : ∀ {m:List (Value×Value)} {cs:List (ByteArray×List UInt8)},eT S w m cs->gE cs n=some bs-> ∃v,(Value.string n,v)∈m/\bH S w v bs
 | [],[],_,hf=>by simp[gE]at hf
 | [],_::_,h,_=>False.elim h
 | _::_,[],h,_=>False.elim h
 | (k,v)::m,(n',bs')::cs,h,hf=>by
  simp only[gE]at hf
  split at hf
  ·rename_i e;simp only[aV]at hf;subst hf e;exact⟨v,by rw[h.1]; simp,h.2.1⟩
  ·obtain⟨v',h1,h2⟩:=eT.hit h.2.2 hf;exact⟨v',by simp[h1],h2⟩
theorem eT.miss {S:Nat->Prop} {w:World} {n:ByteArray} : ∀ {m:List (Value×Value)} {cs:List (ByteArray×List UInt8)},eT S w m cs->gE cs n=none-> ∀p∈m,p.1≠Value.string n
 | [],[],_,_,_,hp=>by simp at hp
 | [],_::_,h,_,_,_=>False.elim h
 | _::_,[],h,_,_,_=>False.elim h
 | (k,v)::m,(n',bs')::cs,h,hf,p,hp=>by
  simp only[gE]at hf
  split at hf
  ·simp at hf
  ·rename_i e
   rcases aZ.1 hp with rfl | hp
   ·intro e2;have:=h.1.symm.trans e2;simp only[ep]at this;exact e this
   ·exact eT.miss h.2.2 hf p hp
def fW (S:Nat->Prop) (w:World) (cv:Value) (cs:List (ByteArray×List UInt8)):Prop:=
 (cv= .map none/\cs=[])\/ ∃b m,cv= .map (some b)/\S b/\jL Tryz.prog 9 w b m/\eT S w m cs
theorem fW.below {S:Nat->Prop} {w w':World} {cv:Value} {cs:List (ByteArray×List UInt8)} (h:fW S w cv cs) (hb:Below w.heap.size w w'):fW S w' cv cs:=by
 rcases h with h | ⟨b,m,h1,h0,h2,h3⟩
 ·exact .inl h
 ·exact .inr ⟨b,m,h1,h0,h2.same (hb.block b h2.lt),h3.mono (fun v bs hv=>cC.below hv (by omega) hb)⟩
theorem uj :Keyed Tryz.prog 9:=string_keyed dQ
theorem ui {n:ByteArray} (h:n.size<=maxLen): ∃l,keyOf Tryz.prog 9 (.string n)=some l:=⟨.string n.data.toList,by simp[keyOf,mapKey,Tryz.underlying9,h]⟩
theorem fW.hitL {S:Nat->Prop} {w:World} {cv:Value} {cs:List (ByteArray×List UInt8)} (h:fW S w cv cs) {n:ByteArray} {bs:List UInt8} (hn:n.size<=maxLen) (hf:gE cs n=some bs):
  ∃v,(Instr.lookup 133 cv (.string n) true).run Tryz.prog w= .ok (.tuple #[v, .bool true]) w/\bH S w v bs:=by
 rcases h with⟨_,rfl⟩ | ⟨b,m,rfl,_,h2,h3⟩
 ·simp[gE]at hf
 ·obtain⟨v,hv,hb⟩:=h3.hit hf;exact⟨v,h2.hit uj (t:=133) (e:=29) (by kernel_rfl) (ui hn) hv true,hb⟩
theorem fW.missL {S:Nat->Prop} {w:World} {cv:Value} {cs:List (ByteArray×List UInt8)} (h:fW S w cv cs) {n:ByteArray} (hn:n.size<=maxLen) (hf:gE cs n=none):
  (Instr.lookup 133 cv (.string n) true).run Tryz.prog w= .ok (.tuple #[.slice none 0 0, .bool false]) w:=by
 obtain⟨l,hl⟩:=ui hn
 rcases h with⟨rfl,_⟩ | ⟨b,m,rfl,_,h2,h3⟩
 ·exact Maps.look_nil true uj (t:=133) (e:=29) (by kernel_rfl) (by kernel_rfl) hl
 ·exact h2.miss uj (t:=133) (e:=29) (by kernel_rfl) (by kernel_rfl) (ui hn) (h3.miss hf) true
def je (cs:List (ByteArray×List UInt8)) (r:cy):Except Int (List UInt8):=match gE cs r.name with
 | none=> .error 10
 | some bs=>if(bs.length:Int)=r.size then .ok bs else .error 9
def gh (cs:List (ByteArray×List UInt8)) (r:cy):Except Int (List cg):=match je cs r with
 | .error e=> .error e
 | .ok bs=>match jf bs with
  | none=> .error 9
  | some l=> .ok l
def BD (cs:List (ByteArray×List UInt8)) (r:cy) (S:Nat->Prop) (w:World) (e:Ending) (w':World):Prop:=Below w.heap.size w w'/\match je cs r with
 | .error x=>e= .returned (.tuple #[.slice none 0 0, .int .i64 x])/\x≠0
 | .ok bs=> ∃v,e= .returned (.tuple #[v, .int .i64 0])/\bH S w' v bs
theorem yV (S:Nat->Prop) (cv:Value) (cs:List (ByteArray×List UInt8)) (r:cy) (w:World) (hc:fW S w cv cs) (hr:dY r):Calls Tryz.prog 129 #[cv,ef r] w (BD cs r S w):=by
 have ha:=hr.nm;have HC:=am (hc.below ((au _ _).alloc (ak _) (.cells #[.string r.name, .int .i64 r.gen, .int .i64 r.size] 26)));have HB:=am ((au w.heap.size w).alloc (ak _) (.cells #[.string r.name, .int .i64 r.gen, .int .i64 r.size] 26));unfold ef;clear hc hr
 cases hf:gE cs r.name with
 | none=>
  have hb:=HC.o.missL ha hf;have HF:=am (show je cs r= .error 10 by unfold je; rw[hf]);clear hf ha
  go_enter Tryz.func129,Tryz.ntmps129
  go_wp2_with fail
  go_ret2
  exact⟨HB.o,by rw[HF.o]; exact⟨rfl,by decide⟩⟩
 | some bs=>
  obtain⟨v,hb,hv⟩:=HC.o.hitL ha hf;have HV:=am hv;obtain⟨_,a,cap,rfl,hn,hm,-⟩:=hv;unfold maxLen at hm
  by_cases hl:(bs.length:Int)=r.size
  ·have HF:=am (show je cs r= .ok bs by unfold je; rw[hf]; simp only[if_pos hl]);have e1:((bs.length:Int) != r.size)=false:=by simp[hl]
   clear hf ha hl
   go_enter Tryz.func129,Tryz.ntmps129
   go_wp2_with fail
   go_ret2
   exact⟨HB.o,by rw[HF.o]; exact⟨_,rfl,HV.o⟩⟩
  ·have HF:=am (show je cs r= .error 9 by unfold je; rw[hf]; simp only[if_neg hl]);have e1:((bs.length:Int) != r.size)=true:=by simp[hl]
   clear hf ha hl
   go_enter Tryz.func129,Tryz.ntmps129
   go_wp2_with fail
   go_ret2
   exact⟨HB.o,by rw[HF.o]; exact⟨rfl,by decide⟩⟩
def AE (cs:List (ByteArray×List UInt8)) (r:cy) (w:World) (e:Ending) (w':World):Prop:=Below w.heap.size w w'/\match gh cs r with
 | .error x=>e= .returned (.tuple #[.slice none 0 0, .int .i64 x])/\x≠0
 | .ok l=> ∃v,e= .returned (.tuple #[v, .int .i64 0])/\ew (w.heap.size<= ·) w' v l
theorem tr (S:Nat->Prop) (cv:Value) (cs:List (ByteArray×List UInt8)) (r:cy) (w:World) (hc:fW S w cv cs) (hr:dY r) (henv:nY w):Calls Tryz.prog 83 #[cv,ef r] w (AE cs r w):=by
 have HB:=am ((au w.heap.size w).alloc (ak _) (.cells #[.string r.name, .int .i64 r.gen, .int .i64 r.size] 26));have HC:=am (hc.below HB.o);have HR:=am hr;have HE:=am (henv.below HB.o);unfold ef;clear hc hr henv
 go_enter Tryz.func83,Tryz.ntmps83
 go_wp2_with fail;refine(yV S cv cs r _ HC.o HR.o).mono ?_;rintro e w1 ⟨hf,ha⟩;have he:=am (ar HB.o hf);have ho:=am (HE.o.below hf);clear hf
 cases hb:je cs r with
 | error x=>
  rw[hb]at ha;obtain⟨rfl,hx⟩:=ha;have HN:=am (show gh cs r= .error x by unfold gh; rw[hb]);have HX:=am hx;have e1:(x != 0)=true:=by simp[hx]
  clear hb hx;go_wp2_with fail
  go_ret2
  exact⟨he.o,by rw[HN.o]; exact⟨rfl,HX.o⟩⟩
 | ok bs=>
  rw[hb]at ha;obtain⟨v,rfl,hv⟩:=ha;have HV:=am hv;obtain⟨_,a,cap,rfl,hn,hm,-⟩:=hv;unfold maxLen at hm;have hh:=am hb;clear hb;go_wp2_with fail;refine(zy S bs _ w1 HV.o ho.o).mono ?_;rintro e w2 ⟨hj,ha⟩;have hg:=am (ar he.o hj);clear hj
  cases hd:jf bs with
  | none=>
   rw[hd]at ha;simp only at ha;subst ha;have HN:=am (show gh cs r= .error 9 by unfold gh; rw[hh.o]; simp only[hd]);clear hd;go_wp2_with fail
   go_ret2
   exact⟨hg.o,by rw[HN.o]; exact⟨rfl,by decide⟩⟩
  | some l=>
   rw[hd]at ha;simp only at ha;obtain⟨v,rfl,hv⟩:=ha;have hl:=he.o.size;have hp:=am (show ew (w.heap.size<= ·) w2 v l from by
    obtain⟨cells,h1,h2⟩:=hv;exact⟨cells,h1.weak (fun k hk=>ay hl hk),h2.mono (fun c x _ hx=>hx.same (fun k _ hS=>⟨ay hl hS,rfl⟩))⟩)
   obtain⟨a2,c2,rfl,-,-,-⟩:=cP.shape hv kO.len;have HN:=am (show gh cs r= .ok l by unfold gh; rw[hh.o]; simp only[hd]);clear hd hv;go_wp2_with fail
   go_ret2
   exact⟨hg.o,by rw[HN.o]; exact⟨_,rfl,hp.o⟩⟩
end Go.Proofs.YtpffpjbkbaleiaaGreatDoor
namespace Go.Proofs.YtpffpjbkbaleiaaGreatDoor
open Go Go.RowKit
def om (cs:List (ByteArray×List UInt8)):List cy->List UInt8->Except Int (List UInt8)
 | [],acc=> .ok acc
 | r::rs,acc=>match je cs r with
  | .error x=> .error x
  | .ok bs=>om cs rs (acc++bs)
def AC (cs:List (ByteArray×List UInt8)) (rs:List cy) (w:World) (e:Ending) (w':World):Prop:=Below w.heap.size w w'/\match om cs rs []with
 | .error x=>e= .returned (.tuple #[.slice none 0 0, .int .i64 x])/\x≠0
 | .ok bs=> ∃v,e= .returned (.tuple #[v, .int .i64 0])/\lO w' w.heap.size v bs
theorem Nf (S:Nat->Prop) (v:Value) (rs:List cy) (n:Nat) (w:World) (hv:dy S w v rs) (h:mM rs=(n:Int)):Calls Tryz.prog 63 #[v] w fun e w'=>e= .returned (.int .i64 (n:Int))/\Below w.heap.size w w':=by
 rw[<-h]; exact uz S v rs w hv
theorem uX (S:Nat->Prop) (cv rv:Value) (cs:List (ByteArray×List UInt8)) (rs:List cy) (w:World) (hc:fW S w cv cs) (hv:dy S w rv rs) (ht0:0<=mM rs) (ht1:mM rs<=1048576) (hn6:rs.length<=1048576) (hrs: ∀r∈rs,lm r=true):
  Calls Tryz.prog 97 #[cv,rv] w (AC cs rs w):=by
 obtain⟨a,cap,rfl,hz,h1,-⟩:=cP.shape hv oU.len;obtain⟨t,ht⟩: ∃t,t=(mM rs).toNat:=⟨_,rfl⟩;have hM:mM rs=(t:Int):=by omega
 have h4:t<=1048576:=by omega
 obtain⟨n,hn⟩: ∃n,n=rs.length:=⟨_,rfl⟩;rw[<-hn]at hv hz hn6 ⊢;unfold maxLen at h1;have HC:=am hc;have HV:=am hv;have HN:=am hn;have hY:=am hM;have hW:=am hrs;clear hrs;obtain⟨h7,⟨i9,z9,hD,hE,hF,hG,hZ⟩,-,-⟩:=Tryz.appBytes;have hp:i9.bytes*t<=281474976710656:=by rw[hG]; omega
 have H9:=am (aE hD (aE hE (aE hF hp)));clear hc hv hn ht0 ht1 ht hM hD hE hF hG hZ hp
 go_enter Tryz.func97,Tryz.ntmps97
 have hX:=am (show t<=maxLen by unfold maxLen; omega);go_wp2_with fail;refine(Nf S _ rs t w HV.o hY.o).mono ?_;rintro e w1 ⟨rfl,hH⟩;have hs:=am hH;clear hH;go_wp2_with (first | ((refine wpList_make_own _ rfl _ _ 29 rfl w.heap.size 5 i9 z9 1 df H9.o.1 H9.o.2.1 H9.o.2.2.1 .i64 .i64 (t:Int) t rfl rfl rfl H9.o.2.2.2 hX.o hs.o.size ?_); intro w4 he hI; have hS:=am he; have hP:=am hI; clear he hI))
 have hN:=am ((js hP.o).mono hs.o.size |> hs.o.trans)
 go_loopw [16,6] (fun i x wr=> ∃(k:Nat) (acc:List UInt8),k<=n/\i= .int .i64 (k:Int)/\om cs rs []=om cs (rs.drop k) acc/\acc.length<=k*32768/\lO wr w.heap.size x acc/\Below w.heap.size w wr) (fun i _ _=>n-(intOf i).toNat)
 case atStart=>exact⟨0,[],aW _,rfl,rfl,by simp,hS.o,hN.o⟩
 case round=>
  obtain⟨k,acc,hk,rfl,hf,h3,ho,hb⟩:=hrel;obtain⟨ax,cx,rfl,h8,h9⟩:=aH ho;have HF:=am hf;have HO:=am ho;have HB:=am hb;clear hf ho hb
  by_cases hJ:k<n
  ·obtain⟨r,hr⟩: ∃r,rs[k]? =some r:=⟨rs[k]'(by rw[<-HN.o]; exact hJ),by simp⟩;obtain⟨b,o,rfl,hA,p0,p1,p2⟩:=lH HV.o HB.o hr;have HA:=am ((au wr.heap.size wr).alloc (ak _) (.cells #[.string r.name, .int .i64 r.gen, .int .i64 r.size] 26));have hh:=yV S cv cs r _ ((HC.o.below HB.o).below HA.o) hA;have hL:=(mF.1 (hW.o r (aQ hr))).2.2.2
   have hq:=am (HB.o.trans (HA.o.mono HB.o.size));have hU:=am (cR HO.o HA.o);have hB:=am (show rs.drop k=r::rs.drop (k+1) by
    rw[cz (by rw[<-HN.o]; exact hJ)]
    congr 1
    exact(aG.1 hr).2)
   unfold BD at hh
   cases ha:je cs r with
   | error x=>
    rw[ha]at hh;have hu:=am hh;have hw:=am (show om cs rs []= .error x by rw[HF.o,hB.o,om,ha]);clear ha hh hr hA hL;go_wp2_with fail;refine hu.o.mono ?_;rintro e w5 ⟨hj,rfl,hx⟩;have hl:=am (hq.o.trans (hj.mono hq.o.size));clear hj;go_wp2_with fail
    go_ret2
    refine⟨hl.o, ?_⟩;rw[hw.o];exact⟨rfl,hx⟩
   | ok bs=>
    rw[ha]at hh;have hu:=am hh;have hw:=am (show om cs rs []=om cs (rs.drop (k+1)) (acc++bs) by rw[HF.o,hB.o,om,ha]);have h0:bs.length<=32768:=by
     unfold je at ha
     cases hf:gE cs r.name with
     | none=>rw[hf]at ha; cases ha
     | some y=>
      rw[hf]at ha;simp only at ha
      split at ha
      ·cases ha; omega
      ·cases ha
    clear ha hh hr hA hL;go_wp2_with fail;refine hu.o.mono ?_;rintro e w5 ⟨hj,v5,rfl,hy⟩;obtain⟨_,a5,c5,rfl,-,-,-⟩:=id hy
    obtain⟨m,hm⟩: ∃m,m=bs.length:=⟨_,rfl⟩;have HM:=am hm;have hl:=am (hq.o.trans (hj.mono hq.o.size));have hC:=am (cR hU.o hj);have hO:=am (show cC S w5 1 (.slice a5 m c5) m (bs.map aY) by rw[hm]; exact hy);rw[<-hm]at h0 ⊢;have hV:=am (show ∀u∈bs.map aY,u.oneCell'=true from fj bs);have hR:=am (show acc.length+m<1099511627775 by omega)
    clear hj hy hm p0 p1 p2;go_wp2_with (at_builtin; go_must (refine eh Tryz.appBytes rfl _ _ rfl w.heap.size (.slice ax acc.length cx) acc.length (acc.map aY) rfl hC.o _ m (bs.map aY) rfl hO.o hV.o hR.o hl.o.size ?_); intro v6 wz hg hd; have hT:=am hg; have hQ:=am hd; clear hg hd)
    go_roundw
    case rel=>
     refine⟨k+1,acc++bs,by omega,by go_num,hw.o, ?_, ?_,hl.o.grown hQ.o hl.o.size (fun k e=>(oN hC.o e).1)⟩
     ·rw[an,<-HM.o]; omega
     ·unfold lO;rw[an,aN,<-HM.o];exact hT.o
    case measure=>simp[intOf]; omega
  ·have h2:k=n:=by omega
   subst h2;go_wp2_with fail
   go_ret2
   refine⟨HB.o, ?_⟩;rw[HF.o,HN.o,iT];exact⟨_,rfl,HO.o⟩
theorem xN {l:List cy} (hl:l.length<=1048576) (h: ∀r∈l,lm r=true): ∀k,k<=l.length->0<=mM (l.take k)/\mM (l.take k)<=(k:Int)*32768
 | 0,_=>by simp[mM]
 | k+1,hk=>by
  have ih:=xN hl h k (by omega);have hr:l[k]? =some (l[k]'(by omega)):=by simp
  have hz:=(mF.1 (h _ (List.getElem_mem (by omega:k<l.length)))).2.2.2;rw[dL hr,An];unfold wrap64;omega
end Go.Proofs.YtpffpjbkbaleiaaGreatDoor
namespace Go.Proofs.YtpffpjbkbaleiaaGreatDoor
open Go.RowKit
def lF (dir name:ByteArray):ByteArray:=if dir.size=0 then name else dir++⟨#[47]⟩++name
def rJ (cs:List (ByteArray×List UInt8)) (it:cg):List UInt8×Int:=
 if it.kind=1 then(match om cs it.chunks []with | .error x=>([],x) | .ok bs=>(bs,0))else([],0)
def kH (cs:List (ByteArray×List UInt8)) (rec:ByteArray->cy->List dl->Int×List dl) (dir:ByteArray):List cg->List dl->Int×List dl
 | [],acc=>(0,acc)
 | it::r,acc=>
  if dD (bl (lF dir it.name))=true/\acc.length<4096 then
   let acc1:=acc++[⟨lF dir it.name,it.kind,it.mode,it.time,(rJ cs it).1,it.link⟩]
   let p:=if it.kind=2 then rec (lF dir it.name) it.node acc1 else((rJ cs it).2,acc1)
   if p.1=0 then kH cs rec dir r p.2 else p
  else(2,acc)
def jn (cs:List (ByteArray×List UInt8)):Nat->ByteArray->cy->List dl->Int×List dl
 | 0,_,_,acc=>(0,acc)
 | f+1,dir,ref,acc=>match gh cs ref with
  | .error x=>(x,acc)
  | .ok l=>kH cs (jn cs f) dir l acc
def uZ (cs:List (ByteArray×List UInt8)) (root:cy):Except Int (List dl):=
 if lm root=true then(if(jn cs 514 ⟨#[]⟩ root []).1=0 then .ok (jn cs 514 ⟨#[]⟩ root []).2 else .error (jn cs 514 ⟨#[]⟩ root []).1)else .error 1
def KW (xs:List ByteArray) (w:World) (e:Ending) (w':World):Prop:=
 ∃a cap,e= .returned (.tuple #[.slice a xs.length cap, .int .i64 0])/\xs.length<=cap/\cap<=maxLen/\lz (w.heap.size<= ·) w' (.slice a xs.length cap) xs/\Below w.heap.size w w'
theorem rQ : ∀ {xs ys:List ByteArray},xs.map bl=ys.map bl->xs=ys
 | [],[],_=>rfl
 | [],_::_,h=>by simp at h
 | _::_,[],h=>by simp at h
 | x::xs,y::ys,h=>by
  simp only[cB,gK]at h;rw[kL h.1,rQ h.2]
def jE (l:List UInt8):List ByteArray:=(de 47 l).map fun p=>⟨p.toArray⟩
theorem zV (l:List UInt8):(jE l).map bl=de 47 l:=by
 unfold jE;rw[jI];have:(bl ∘ fun p:List UInt8=>(⟨p.toArray⟩:ByteArray))=id:=by funext p; exact jD p
 rw[this,List.map_id]
theorem DM (s:ByteArray) (w:World) (he:nY w) (hv:dD (bl s)=true):Calls Tryz.prog 82 #[.string s] w (KW (jE (bl s)) w):=by
 refine(qM s w he).mono ?_;rintro e w' (⟨_,v,xs,rfl,hx,hs,hb⟩ | ⟨hf,_⟩)
 ·have:xs=jE (bl s):=rQ (hx.trans (zV _).symm);subst this;obtain⟨a,cap,rfl,h1,h2,_⟩:=hs.shape;exact⟨a,cap,rfl,h1,h2,hs,hb⟩
 ·rw[hv]at hf; cases hf
theorem Kv (s:ByteArray) (w:World) (he:nY w) (hv:dD (bl s)=false):Calls Tryz.prog 82 #[.string s] w fun e w'=>e= .returned (.tuple #[.slice none 0 0, .int .i64 1])/\Below w.heap.size w w':=by
 refine(qM s w he).mono ?_;rintro e w' (⟨ht,_⟩ | ⟨_,rfl,hb⟩)
 ·rw[hv]at ht; cases ht
 ·exact⟨rfl,hb⟩
def pd (cs:List (ByteArray×List UInt8)):List ByteArray->cg->Except Int cg
 | [],it=> .ok it
 | c::r,it=>if it.kind=2 then(match gh cs it.node with
  | .error x=> .error x
  | .ok l=>match l.find? (fun y=>decide (y.name=c))with
   | none=> .error 4
   | some y=>pd cs r y)else .error 4
def mY (root:cy):cg:=⟨⟨#[]⟩,2,0,0,0,⟨#[]⟩,[],root⟩
def kS (cs:List (ByteArray×List UInt8)) (root:cy) (path:ByteArray):Except Int cg:=
 if dD (bl path)=true/\lm root=true then pd cs (jE (bl path)) (mY root)else .error 1
structure my (w : World) (base wb eb sb : Nat) (fv v : Value) (ex rs : List cy) : Prop where
 box:w.heap[wb]? =some (.cells #[fv, .map (some eb), .map (some sb),v] 191 (0,0))
 exs:jC w eb ex
 see:jC w sb rs
 row:w.ownsRow base 26 3 v rs.length (rs.flatMap jg)
 ne:eb≠sb
def mO (wb eb sb:Nat) (v:Value) (k:Nat):Prop:=k=wb\/k=eb\/k=sb\/v.ownBlock=some k
section
variable {w w' : World} {base wb eb sb : Nat} {fv v : Value} {ex rs : List cy}
theorem jC.cells {b:Nat} {l:List cy} (h:jC w b l) {cs:Array Value} {t:TypeId} {z:Nat×Nat} :w.heap[b]? ≠some (.cells cs t z):=fun e=>by
 obtain⟨es,clock,hb,_⟩:=h.map;rw[hb]at e; cases e
theorem my.wne (h:my w base wb eb sb fv v ex rs):wb≠eb/\wb≠sb:=⟨fun e=>h.exs.cells (e▸h.box),fun e=>h.see.cells (e▸h.box)⟩
theorem bI {e:TypeId} {sz:Nat} {n:Nat} {xs:List Value} {k:Nat} (h:w.ownsRow base e sz v n xs) (hk:v.ownBlock=some k): ∃cs,w.heap[k]? =some (.cells cs e (0,0)):=by
 obtain⟨_,h2⟩:=h
 rcases h2 with⟨rfl,rfl⟩ | ⟨g,cap,cur,rfl,_,hh,_⟩
 ·cases hk
 ·have:g=k:=by simpa [Value.ownBlock]using hk
  subst this;exact⟨cur,hh⟩
theorem my.own (h:my w base wb eb sb fv v ex rs) {k:Nat} (hk:v.ownBlock=some k):k≠wb/\k≠eb/\k≠sb:=by
 obtain⟨cs,hc⟩:=bI h.row hk;refine⟨fun e=> ?_,fun e=> ?_,fun e=> ?_⟩
 ·subst e;have:=hc.symm.trans h.box;simp at this
 ·subst e; exact h.exs.cells hc
 ·subst e; exact h.see.cells hc
theorem my.keep (h:my w base wb eb sb fv v ex rs) (hs: ∀k,k<w.heap.size->mO wb eb sb v k->w'.heap[k]? =w.heap[k]?):my w' base wb eb sb fv v ex rs:=by
 refine⟨(hs wb (aw h.box) (.inl rfl)).trans h.box,h.exs.same (hs eb h.exs.map.lt (.inr (.inl rfl))),h.see.same (hs sb h.see.map.lt (.inr (.inr (.inl rfl)))), ?_,h.ne⟩;obtain⟨hl,h2⟩:=h.row;refine⟨hl, ?_⟩
 rcases h2 with h2 | ⟨g,cap,cur,rfl,hg,hh,h3⟩
 ·exact .inl h2
 ·exact .inr ⟨g,cap,cur,rfl,hg,(hs g (aw hh) (.inr (.inr (.inr rfl)))).trans hh,h3⟩
theorem my.below (h:my w base wb eb sb fv v ex rs) (hb:Below w.heap.size w w'):my w' base wb eb sb fv v ex rs:=h.keep (fun k hk _=>hb.block k hk)
theorem my.ok (h:my w base wb eb sb fv v ex rs): ∀r∈rs,dY r:=h.see.ok
theorem my.shape (h:my w base wb eb sb fv v ex rs): ∃a cap,v= .slice a rs.length cap:=by
 obtain⟨a,cap,h1,_⟩:=aH h.row;exact⟨a,cap,h1⟩
end
def cO (r:cy) (rs:List cy):List cy:=if r∈rs then rs else rs++[r]
def Ld (base wb eb sb:Nat) (fv v:Value) (ex rs:List cy) (w w':World):Prop:=
 ∃v',my w' base wb eb sb fv v' ex rs/\fX (mO wb eb sb v) w w'/\ ∀k,v'.ownBlock=some k->v.ownBlock=some k\/w.heap.size<=k
theorem oy (base wb eb sb:Nat) (fv v:Value) (ex rs:List cy) (r:cy) (w:World) (h:my w base wb eb sb fv v ex rs) (hr:dY r) (hl:rs.length<1099511627775) (hbase:base<=w.heap.size):
  Calls Tryz.prog 161 #[.pointer (some ⟨wb,0,none⟩),ef r] w fun e w'=>e= .returned (.tuple #[])/\Ld base wb eb sb fv v ex (cO r rs) w w':=by
 obtain⟨av,cv,rfl⟩:=h.shape;obtain⟨W,hW⟩: ∃W:World,W=(w.alloc (.cells #[.string r.name, .int .i64 r.gen, .int .i64 r.size] 26)).drew:=⟨_,rfl⟩;have hB:Below w.heap.size w W:=by rw[hW]; exact(eK).drew
 have hv:=am hB;have HK:=am (h.below hB);have bx:W.heap[w.heap.size]? =some (.cells #[.string r.name, .int .i64 r.gen, .int .i64 r.size] 26 (0,0)):=by rw[hW]; exact aF w _
 have hI:=am bx;have HR:=am hr;have HW:=am hW;have q0:=bL (k:=0) bx;have q1:=bL (k:=1) bx;have q2:=bL (k:=2) bx;have c2:=bL (k:=2) HK.o.box;have hs:=HK.o.see.look hr;simp only[ai,aj,ah]at q0 q1 q2 c2;have hY:wb<w.heap.size:=aw h.box;have H0:=am h;unfold ef at hs ⊢
 clear h hr bx hB
 by_cases hm:r∈rs
 ·have e1:decide (r∈rs)=true:=by simp[hm]
  have HM:=am (show cO r rs=rs by unfold cO; rw[if_pos hm]);rw[e1]at hs;clear e1 hm
  go_enter Tryz.func161,Tryz.ntmps161
  go_wp2_with fail;refine bF [some 7] (by kernel_rfl) (by kernel_rfl) (by kernel_rfl) ?_;simp only[dJ,aR,aX];rw[<-HW.o];clear hW
  repeat (first | (refine bZ rfl ?_; simp only[Act.put,aa,ag,ab]) | (refine cK rfl (fun K hK=> ?_); go_simp; refine hK _ ?_; clear hK K))
  refine cJ ?_;go_wp2_with fail
  go_end0
  exact⟨rfl, .slice av rs.length cv,by rw[HM.o]; exact HK.o,fX.of_below hv.o,fun k hk=> .inl hk⟩
 ·have e1:decide (r∈rs)=false:=by simp[hm]
  have HM:=am (show cO r rs=rs++[r] by unfold cO; rw[if_neg hm]);have hN:=am hm;rw[e1]at hs;clear e1 hm
  go_enter Tryz.func161,Tryz.ntmps161
  go_wp2_with fail;refine bF [some 7] (by kernel_rfl) (by kernel_rfl) (by kernel_rfl) ?_;simp only[dJ,aR,aX];rw[<-HW.o];clear hW
  repeat (first | (refine bZ rfl ?_; simp only[Act.put,aa,ag,ab]) | (refine cK rfl (fun K hK=> ?_); go_simp; refine hK _ ?_; clear hK K))
  refine cJ ?_;go_wp2_with fail;refine bF [some 5,none] (by kernel_rfl) (by kernel_rfl) (by kernel_rfl) ?_;simp only[dJ,aR,aX,bz,bQ];have hM:=am (HK.o.below ((au _ W).drew))
  repeat (first | (refine bZ rfl ?_; simp only[Act.put,aa,ag,ab]) | (refine cK rfl (fun K hK=> ?_); go_simp; refine hK _ ?_; clear hK K))
  refine cJ ?_;refine ee rfl (fun K hK=> ?_);go_wp2_with (at_mapUpdate; go_must (refine ld rfl _ _ _ rfl sb rs hM.o.see rfl r HR.o rfl rfl hN.o ?_); intro w2 hn hF);have hX:sb<w.heap.size:=H0.o.see.map.lt;have hV:eb<w.heap.size:=H0.o.exs.map.lt;have hU:=hv.o.size;obtain⟨W3,hq⟩: ∃W3:World,W3=w2.drew:=⟨_,rfl⟩;have he:W.grownBy W3 (some sb):=by rw[hq]; exact bV (b:=W.drew) ⟨rfl,rfl,rfl,ak _,fun _ _ _=>rfl⟩ (bV hF ⟨rfl,rfl,rfl,ak _,fun _ _ _=>rfl⟩)
  have hZ:=he.size;have hf:=am (show jC W3 sb (rs++[r]) by rw[hq]; exact hn.same rfl);have hC:=am (HK.o.exs.same (w':=W3) (he.block eb HK.o.exs.map.lt (by simp; exact HK.o.ne)));have hA:=am (HK.o.row.kept he (.inr (fun e=>(HK.o.own e).2.2 rfl)));have hp:=am (lQ he HK.o.box HK.o.wne.2);have hy:=am (lQ he hI.o (by omega));have hJ:=am he;have c3:=bL (k:=3) hp.o
  have f3:=dw (k:=3) hp.o;obtain⟨r0,r1,r2,_⟩:=aU hy.o;simp only[ai,aj,ah]at c3;clear q0 q1 q2 c2 hs hn hF he;refine ey (fun w'=>w'.cell? ⟨wb,3,none⟩=some (.slice av rs.length cv)/\w'.cell? ⟨w.heap.size,0,none⟩=some (.string r.name)/\w'.cell? ⟨w.heap.size,1,none⟩=some (.int .i64 r.gen)/\w'.cell? ⟨w.heap.size,2,none⟩=some (.int .i64 r.size)) (by kernel_rfl) (by kernel_rfl) ?_
  simp only[br,bt,aD,bo,Nat.reduceAdd,Nat.reduceSub];rw[<-hq];clear hq
  iterate 6 (refine cA rfl (by kernel_rfl) (fun _ _ _ h=>h) rfl (by go_simp) (by rintro w' ⟨hQ,hR,hS,hT⟩; go_simp; rfl) ?_; simp only[Act.put,aa,ag,ab])
  have hh:wb<W3.heap.size:=aw hp.o;have hc:w.heap.size<W3.heap.size:=aw hy.o;have ho:=am ((au W3.heap.size W3).alloc (ak _) (.cells #[.string r.name, .int .i64 r.gen, .int .i64 r.size] 26));have hE:=aE ((ho.o.cell (p:=⟨wb,3,none⟩) hh).trans c3) (aE ((ho.o.cell (p:=⟨w.heap.size,0,none⟩) hc).trans r0) (aE ((ho.o.cell (p:=⟨w.heap.size,1,none⟩) hc).trans r1) ((ho.o.cell (p:=⟨w.heap.size,2,none⟩) hc).trans r2)))
  have hP:=am hE;clear hE;refine cn 6 rfl (fun K hK=> ?_);go_wp2_with fail
  (first | (refine⟨hP.o, ?_⟩) | skip)
  refine cn 7 rfl (fun K hK=> ?_);go_wp2_with (at_builtin; go_must (refine bO Tryz.appRefs rfl _ _ rfl base (.slice av rs.length cv) rs.length (rs.flatMap jg) rfl W3 [.string r.name, .int .i64 r.gen, .int .i64 r.size] _ rfl rfl (qF (r:=r)) hA.o (by omega) (by omega) ?_); intro v' wc hb ha _ hG; obtain⟨ae,ce,rfl,-,-⟩:=aH hb);have hu: ∀k,(Value.slice av rs.length cv).ownBlock=some k->k≠wb/\k≠eb/\k≠sb:=fun k hk=>H0.o.own hk
  have hj:(Value.slice av rs.length cv).ownBlock≠some w.heap.size:=fun e=>by have:=(H0.o.row.lt _ e).2; omega
  have hd:=am ((ha.block wb hh (fun e=>(hu wb e.symm).1 rfl)).trans hp.o);have hz:=am ((ha.block w.heap.size hc (fun e=>hj e.symm)).trans hy.o);have hw:=am (hC.o.same (ha.block eb hC.o.map.lt (fun e=>(hu eb e.symm).2.1 rfl)));have hg:=am (hf.o.same (ha.block sb hf.o.map.lt (fun e=>(hu sb e.symm).2.2 rfl)));have hL:=am ha;have hD:=am hG
  have hO:=am (show wc.ownsRow base 26 3 (.slice ae (rs.length+1) ce) (rs++[r]).length ((rs++[r]).flatMap jg) by rw[an,bP]; simpa [jg]using hb);have c4:=bL (k:=3) hd.o;have f4:=dw (k:=3) hd.o;obtain⟨s0,s1,s2,_⟩:=aU hz.o;simp only[ai,aj,ah]at c4
  clear hb ha hG c3 f3 r0 r1 r2 hu hj;refine⟨⟨c4,s0,s1,s2⟩, ?_⟩
  iterate 2 (refine cA rfl (by kernel_rfl) (fun _ _ _ h=>h) rfl (by go_simp) (by rintro w' ⟨hQ,hR,hS,hT⟩; go_simp; rfl) ?_; simp only[Act.put,aa,ag,ab])
  refine cE (by kernel_rfl) ?_;refine eD rfl rfl (fun K hK=> ?_);go_wp2_with fail
  go_end0
  refine⟨rfl, .slice ae (rs.length+1) ce, ?_, ?_, ?_⟩
  ·rw[HM.o];have hH:=H0.o.wne;have hx:=jb (k:=3) hd.o (.slice ae (rs.length+1) ce);simp only[aa,ag,ab]at hx;refine⟨hx,hw.o.same (aC _ _ _ _ (jX hH.1)),hg.o.same (aC _ _ _ _ (jX hH.2)),hO.o.kept (cG _ _ _ _) (.inr (fun e=> ?_)),H0.o.ne⟩
   rcases hD.o wb e with h1 | h1
   ·exact(H0.o.own h1).1 rfl
   ·omega
  ·refine fX.trans (fX.of_below hv.o) (fX.trans (S:=mO wb eb sb (.slice av rs.length cv)) (fX.of_grown hJ.o (fun k hk=>by cases hk; exact .inr (.inr (.inl rfl)))) (fX.trans (S:=mO wb eb sb (.slice av rs.length cv)) (fX.of_grown hL.o (fun k hk=> .inr (.inr (.inr hk)))) (fX.of_grown (S:=mO wb eb sb (.slice av rs.length cv)) (cG wc wb 3 _) (fun k hk=>by cases hk; exact .inl rfl)) (fun i _ h=>h)) (fun i _ h=>h)) (fun i _ h=>h)
  ·intro k hk
   rcases hD.o k hk with h1 | h1
   ·exact .inl h1
   ·exact .inr (by omega)
def fi (cs rs:List cy):List cy:=cs.foldl (fun rs r=>cO r rs) rs
def jc (f:cy->List cy×List cy->Option (Int×(List cy×List cy))):List cg->List cy×List cy->Option (Int×(List cy×List cy))
 | [],st=>some (0,st)
 | it::l,st=>if it.kind≠2 then jc f l (st.1,fi it.chunks st.2)else
  (f it.node (st.1,fi it.chunks st.2)).bind fun p=>if p.1≠0 then some p else jc f l p.2
def fq (visit:cy->Except Int (List cg)):Nat->cy->List cy×List cy->Option (Int×(List cy×List cy))
 | 0,_,_=>none
 | n+1,r,st=>if r∈st.1 then some (0,(st.1,cO r st.2))else match visit r with
  | .error x=>some (x,(st.1++[r],cO r st.2))
  | .ok l=>jc (fq visit n) l (st.1++[r],cO r st.2)
theorem ox (r:cy) (rs:List cy):rs.length<=(cO r rs).length:=by
 unfold cO
 split
 ·exact ak _
 ·simp
theorem re : ∀(cs rs:List cy),rs.length<=(fi cs rs).length
 | [],_=>ak _
 | c::cs,rs=>ay (ox c rs) (re cs (cO c rs))
theorem vd (cs:List cy) (c:cy) (rs:List cy):fi (cs++[c]) rs=cO c (fi cs rs):=by
 unfold fi; rw[dV]; rfl
theorem qA (cs rs:List cy) (j:Nat):(fi (cs.take j) rs).length<=(fi cs rs).length:=by
 have:fi cs rs=fi (cs.drop j) (fi (cs.take j) rs):=by
  unfold fi;rw[<-dV,du]
 rw[this];exact re _ _
theorem lE {f:cy->List cy×List cy->Option (Int×(List cy×List cy))} (hf: ∀r st x st',f r st=some (x,st')->st.2.length<=st'.2.length):
  ∀(l:List cg) (st:List cy×List cy) (x:Int) (st':List cy×List cy),jc f l st=some (x,st')->st.2.length<=st'.2.length
 | [],st,x,st',h=>by
  simp only[jc,aV,cI]at h;obtain⟨_,rfl⟩:=h;exact ak _
 | it::l,st,x,st',h=>by
  rw[jc]at h
  split at h
  ·exact ay (re it.chunks st.2) (lE hf l _ x st' h)
  ·rw[dx]at h;obtain⟨⟨y,st2⟩,h1,h2⟩:=h;have h3:=hf _ _ _ _ h1;have h4:=re it.chunks st.2;simp only at h2 h3
   split at h2
   ·simp only[aV,cI]at h2;obtain⟨_,rfl⟩:=h2;exact ay h4 h3
   ·exact ay (ay h4 h3) (lE hf l _ x st' h2)
theorem mH (visit:cy->Except Int (List cg)): ∀(n:Nat) (r:cy) (st:List cy×List cy) (x:Int) (st':List cy×List cy),fq visit n r st=some (x,st')->st.2.length<=st'.2.length
 | 0,_,_,_,_,h=>by simp[fq]at h
 | n+1,r,st,x,st',h=>by
  have hm:=ox r st.2;rw[fq]at h
  split at h
  ·simp only[aV,cI]at h;obtain⟨_,rfl⟩:=h;exact hm
  ·split at h
   ·simp only[aV,cI]at h;obtain⟨_,rfl⟩:=h;exact hm
   ·exact ay hm (lE (mH visit n) _ _ x st' h)
def Pb (res:Except Int (List cg)) (w:World) (e:Ending) (w':World):Prop:=Below w.heap.size w w'/\match res with
 | .error x=>e= .returned (.tuple #[.slice none 0 0, .int .i64 x])/\x≠0
 | .ok l=> ∃v,e= .returned (.tuple #[v, .int .i64 0])/\ew (w.heap.size<= ·) w' v l
theorem my.notown {w:World} {base wb eb sb:Nat} {fv v:Value} {ex rs:List cy} (h:my w base wb eb sb fv v ex rs) {k:Nat} {cs:Array Value} {t:TypeId} {z:Nat×Nat} (hb:w.heap[k]? =some (.cells cs t z)) (h1:t≠191) (h2:t≠26): ¬mO wb eb sb v k:=by
 rintro(e | e | e | e)
 ·subst e;have:=hb.symm.trans h.box;simp at this;exact h1 this.2.1
 ·subst e; exact h.exs.cells hb
 ·subst e; exact h.see.cells hb
 ·obtain⟨cs',hc⟩:=bI h.row e;have:=hb.symm.trans hc;simp at this;exact h2 this.2.1
structure sJ (w : World) (B h5 h6 base wb eb sb : Nat) (fv v itv : Value) (l : List cg) (wr : World) (v2 : Value) (ex rs : List cy) : Prop where
 at':my wr base wb eb sb fv v2 ex rs
 gr:fX (mO wb eb sb v) w wr
 own: ∀k,v2.ownBlock=some k->v.ownBlock=some k\/w.heap.size<=k
 apart: ∀k,v2.ownBlock=some k->k<h5\/h6<=k
 lo:wb<h5/\eb<h5/\sb<h5
 ord:w.heap.size<=h5/\h5<=h6/\h6<=wr.heap.size
 its:ew (fun k=>h5<=k/\k<h6) wr itv l
theorem ew.same {S:Nat->Prop} {w w':World} {v:Value} {l:List cg} (h:ew S w v l) (hs: ∀k,k<w.heap.size->S k->w'.heap[k]? =w.heap[k]?):ew S w' v l:=by
 obtain⟨cells,hr,ha⟩:=h;have h2:=hr.mono (T:=fun k=>k<w.heap.size/\S k) (fun k hk hS=>⟨hk,hS⟩) (by omega);have h3:=h2.same (w':=w') (fun k hk=>hs k hk.1 hk.2);exact⟨cells,h3.weak (fun k hk=>hk.2),ha.mono (fun c x _ hx=>hx.same (fun k hk hS=>⟨hS,hs k hk hS⟩))⟩
section
variable {w wr w' : World} {B h5 h6 base wb eb sb : Nat} {fv v itv v2 v3 : Value} {l : List cg} {ex rs ex3 rs3 : List cy}
theorem sJ.below (h:sJ w B h5 h6 base wb eb sb fv v itv l wr v2 ex rs) (hb:Below wr.heap.size wr w'):sJ w B h5 h6 base wb eb sb fv v itv l w' v2 ex rs:=
 ⟨h.at'.below hb,h.gr.trans (fX.of_below hb (S:=fun _=>False)) (fun _ _ h=>False.elim h),h.own,h.apart,h.lo,⟨h.ord.1,h.ord.2.1,ay h.ord.2.2 hb.size⟩,h.its.below hb⟩
theorem sJ.notown (h:sJ w B h5 h6 base wb eb sb fv v itv l wr v2 ex rs) {k:Nat} (hk:h5<=k/\k<h6): ¬mO wb eb sb v2 k:=by
 have:=h.lo;rintro(e | e | e | e)
 ·omega
 ·omega
 ·omega
 ·have:=h.apart k e; omega
theorem sJ.step (h:sJ w B h5 h6 base wb eb sb fv v itv l wr v2 ex rs) (hr:Ld base wb eb sb fv v2 ex3 rs3 wr w'): ∃v3,sJ w B h5 h6 base wb eb sb fv v itv l w' v3 ex3 rs3/\fX (mO wb eb sb v2) wr w':=by
 obtain⟨v3,h1,h2,h3⟩:=hr;have hz:=h.gr.size;refine⟨v3,⟨h1,h.gr.trans h2 (fun i hi ho=> ?_),fun k hk=> ?_,fun k hk=> ?_,h.lo,⟨h.ord.1,h.ord.2.1,ay h.ord.2.2 h2.size⟩,h.its.same (fun k hk hS=>h2.block k hk (h.notown hS))⟩,h2⟩
 ·rcases ho with e | e | e | e
  ·exact .inl e
  ·exact .inr (.inl e)
  ·exact .inr (.inr (.inl e))
  ·rcases h.own i e with e | e
   ·exact .inr (.inr (.inr e))
   ·omega
 ·rcases h3 k hk with e | e
  ·exact h.own k e
  ·exact .inr (by omega)
 ·rcases h3 k hk with e | e
  ·exact h.apart k e
  ·have:=h.ord; exact .inr (by omega)
end
def yP (visit:cy->Except Int (List cg)) (F:Nat) (cv:Value) (I:World->Prop) (B n:Nat):Prop:= ∀(r:cy) (st:List cy×List cy) (x:Int) (st':List cy×List cy) (base wb eb sb:Nat) (v:Value) (w:World),fq visit n r st=some (x,st')->st'.2.length<1099511627775->
 my w base wb eb sb (.func (.func F) #[cv] #[]) v st.1 st.2->dY r->I w->(B<=base/\B<=wb/\B<=eb/\B<=sb)->base<=w.heap.size->
 Calls Tryz.prog 133 #[.pointer (some ⟨wb,0,none⟩),ef r] w fun e w'=>e= .returned (.int .i64 x)/\Ld base wb eb sb (.func (.func F) #[cv] #[]) v st'.1 st'.2 w w'
def BJ (visit:cy->Except Int (List cg)) (F:Nat) (cv:Value) (I:World->Prop):Prop:= ∀(W:World) (r:cy),I W->dY r->Calls Tryz.prog F #[cv,ef r] W (Pb (visit r) W)
def vO (I:World->Prop) (B:Nat):Prop:= ∀w w':World,I w->fX (B<= ·) w w'->I w'
theorem un {B base wb eb sb:Nat} {w:World} {fv v:Value} {ex rs:List cy} (h:my w base wb eb sb fv v ex rs) (hB:B<=base/\B<=wb/\B<=eb/\B<=sb) {k:Nat} (hk:mO wb eb sb v k):B<=k:=by
 rcases hk with e | e | e | e
 ·omega
 ·omega
 ·omega
 ·have:=(h.row.lt k e).1; omega
theorem pD {S T:Nat->Prop} {w w':World} (h:fX S w w') (hs: ∀k,S k->T k):fX T w w':=⟨h.os,h.tape,h.output,h.size,fun k hk hn=>h.block k hk (fun hS=>hn (hs k hS))⟩
theorem ew.lt {S:Nat->Prop} {w:World} {v:Value} {l:List cg} (h:ew S w v l):ew (fun k=>S k/\k<w.heap.size) w v l:=by
 obtain⟨cells,hr,ha⟩:=h;exact⟨cells,hr.mono (fun k hk hS=>⟨hS,hk⟩) (by omega),ha.mono (fun c x _ hx=>hx.same (fun k hk hS=>⟨⟨hS,hk⟩,rfl⟩))⟩
theorem ss {f:cy->List cy×List cy->Option (Int×(List cy×List cy))} {it:cg} {l:List cg} {ex rs:List cy} {q:Int×(List cy×List cy)} (h:jc f (it::l) (ex,rs)=some q):
  (it.kind≠2/\jc f l (ex,fi it.chunks rs)=some q)\/(it.kind=2/\ ∃y st2,f it.node (ex,fi it.chunks rs)=some (y,st2)/\((y≠0/\q=(y,st2))\/(y=0/\jc f l st2=some q))):=by
 rw[jc]at h
 split at h
 ·rename_i hk;exact .inl ⟨hk,h⟩
 ·rename_i hk;rw[dx]at h;obtain⟨⟨y,st2⟩,h1,h2⟩:=h;refine .inr ⟨Decidable.not_not.1 hk,y,st2,h1, ?_⟩;simp only at h2
  split at h2
  ·rename_i hy;exact .inl ⟨hy,(bC h2).symm⟩
  ·rename_i hy;exact .inr ⟨Decidable.not_not.1 hy,h2⟩
theorem zS {visit:cy->Except Int (List cg)} {n:Nat} {it:cg} {l:List cg} {ex rs:List cy} {x:Int} {st':List cy×List cy} (h:jc (fq visit n) (it::l) (ex,rs)=some (x,st')):(fi it.chunks rs).length<=st'.2.length:=by
 rcases ss h with⟨_,h2⟩ | ⟨_,y,st2,h1,h2⟩
 ·exact lE (mH visit n) l _ x st' h2
 ·have h3:=mH visit n _ _ _ _ h1
  rcases h2 with⟨_,h2⟩ | ⟨_,h2⟩
  ·obtain⟨_,rfl⟩:=gm h2;exact h3
  ·exact ay h3 (lE (mH visit n) l _ x st' h2)
theorem FS (visit:cy->Except Int (List cg)) (cv:Value) (I:World->Prop) (B n:Nat) (hI:vO I B) (hV:BJ visit 83 cv I) (IH:yP visit 83 cv I B n):yP visit 83 cv I B (n+1):=by
 intro r st x st' base wb eb sb v w hw Hj h hr hi hB hq;have HI:=am hI;have HV:=am hV;have HH:=am IH;have HB:=am hB;have HR:=am hr;have H:=am h;have Hq:=am hi;have HK:=am Hj;have He:=am hw;have HW:(cO r st.2).length<=st'.2.length:=by
  rw[fq]at hw
  split at hw
  ·simp only[aV,cI]at hw;obtain⟨_,rfl⟩:=hw;exact ak _
  ·split at hw
   ·simp only[aV,cI]at hw;obtain⟨_,rfl⟩:=hw;exact ak _
   ·exact lE (mH visit n) _ _ x st' hw
 have ya:=ox r st.2;have Ho:=am ((au w.heap.size w).alloc (ak _) (.cells #[.string r.name, .int .i64 r.gen, .int .i64 r.size] 26));have Hr:=am (h.below Ho.o);have hC:=am (aF w (.cells #[.string r.name, .int .i64 r.gen, .int .i64 r.size] 26));have yc:wb<w.heap.size:=aw h.box;unfold ef;clear hw h hr hi hI hV IH hB
 go_enter Tryz.func133,Tryz.ntmps133
 go_wp2_with fail;refine(oy base wb eb sb _ v st.1 st.2 r _ Hr.o HR.o (by omega) (by simp; omega)).mono ?_;rintro e w1 ⟨rfl,v1,Hz,hY,HA⟩;have Ha:=am Hz;have hu:=am (show w1.heap[w.heap.size]? =some (.cells #[.string r.name, .int .i64 r.gen, .int .i64 r.size] 26 (0,0))from(hY.block w.heap.size (by simp) (fun ho=>by
  rcases ho with e | e | e | e
  ·omega
  ·have:=H.o.exs.map.lt; omega
  ·have:=H.o.see.map.lt; omega
  ·have:=(H.o.row.lt _ e).2; omega)).trans hC.o)
 have HZ:=hY.size;simp at HZ;have Hp:=am (show fX (mO wb eb sb v) w w1 from(fX.of_below Ho.o (S:=mO wb eb sb v)).trans hY (fun _ _ h=>h));have Hc:=am (show ∀k,v1.ownBlock=some k->v.ownBlock=some k\/w.heap.size<=k from fun k hk=>by
  rcases HA k hk with e | e
  ·exact .inl e
  ·simp at e; exact .inr (by omega))
 clear Hz hY HA Hr hC;have c1:=bL (k:=1) Ha.o.box;obtain⟨q0,q1,q2,_⟩:=aU hu.o;simp only[ai,aj,ah]at c1;go_wp2_with fail;refine bF [some 6] (by kernel_rfl) (by kernel_rfl) (by kernel_rfl) ?_;simp only[dJ,aR,aX];obtain⟨W1,Hg⟩: ∃W1:World,W1=w1.drew:=⟨_,rfl⟩
 rw[<-Hg];have hf:Below w1.heap.size w1 W1:=by rw[Hg]; exact(au _ _).drew
 have hl:=am (Ha.o.below hf);have hd:=am ((hf.block w.heap.size (by omega)).trans hu.o);have h7:=am (Hp.o.trans (fX.of_below hf (S:=fun _=>False)) (fun _ _ h=>False.elim h));have yl:=hf.size;clear hf Ha hu Hp c1 q0 q1 q2;have c1:=bL (k:=1) hl.o.box;have q0:=bL (k:=0) hd.o;have q1:=bL (k:=1) hd.o;have q2:=bL (k:=2) hd.o;have hZ:=hl.o.exs.look HR.o
 unfold ef at hZ;simp only[ai,aj,ah]at c1 q0 q1 q2;clear Hg
 by_cases hm:r∈st.1
 ·have e1:decide (r∈st.1)=true:=by simp[hm]
  rw[e1]at hZ;have hb:=am (show(x,st')=(0,(st.1,cO r st.2)) by have:=He.o; rw[fq,if_pos hm]at this; exact(bC this).symm);clear e1 hm
  repeat (first | (refine bZ rfl ?_; simp only[Act.put,aa,ag,ab]) | (refine cK rfl (fun K hK=> ?_); go_simp; refine hK _ ?_; clear hK K))
  refine cJ ?_;go_wp2_with fail;go_ret;obtain⟨e1,e2⟩:=gm hb.o;exact⟨dA e1.symm,v1,by rw[e2]; exact hl.o,h7.o,Hc.o⟩
 ·have e1:decide (r∈st.1)=false:=by simp[hm]
  rw[e1]at hZ;have HL:=am hm;have Hf:=am (show(match visit r with | .error x=>some (x,(st.1++[r],cO r st.2)) | .ok l=>jc (fq visit n) l (st.1++[r],cO r st.2))=some (x,st') by have:=He.o; rw[fq,if_neg hm]at this; exact this);clear e1 hm He
  repeat (first | (refine bZ rfl ?_; simp only[Act.put,aa,ag,ab]) | (refine cK rfl (fun K hK=> ?_); go_simp; refine hK _ ?_; clear hK K))
  refine cJ ?_;go_wp2_with fail;refine bF [some 5,none] (by kernel_rfl) (by kernel_rfl) (by kernel_rfl) ?_;simp only[dJ,aR,aX,bz,bQ]
  repeat (first | (refine bZ rfl ?_; simp only[Act.put,aa,ag,ab]) | (refine cK rfl (fun K hK=> ?_); go_simp; refine hK _ ?_; clear hK K))
  refine cJ ?_;refine ee rfl (fun K hK=> ?_);have Hs:=am (hl.o.below ((au _ W1).drew));go_wp2_with (at_mapUpdate; go_must (refine ld rfl _ _ _ rfl eb st.1 Hs.o.exs rfl r HR.o rfl rfl HL.o ?_); intro w2 hR Hx);have H6:eb<w.heap.size:=H.o.exs.map.lt;have yb:sb<w.heap.size:=H.o.see.map.lt;have Hl:=H.o.wne;have hP:=H.o.ne;refine bF [some 5,none,some 5] (by kernel_rfl) (by kernel_rfl) (by kernel_rfl) ?_
  simp only[dJ,aR,aX,bz,bQ];obtain⟨W2,hW⟩: ∃W2:World,W2=w2.drew:=⟨_,rfl⟩;rw[<-hW];have hv:W1.grownBy W2 (some eb):=by rw[hW]; exact bV (b:=W1.drew) ⟨rfl,rfl,rfl,ak _,fun _ _ _=>rfl⟩ (bV Hx ⟨rfl,rfl,rfl,ak _,fun _ _ _=>rfl⟩)
  have hs:jC W2 eb (st.1++[r]):=by rw[hW]; exact hR.same rfl
  have hT:=am (show my W2 base wb eb sb (.func (.func 83) #[cv] #[]) v1 (st.1++[r]) (cO r st.2)from⟨lQ hv hl.o.box Hl.1,hs,hl.o.see.same (hv.block sb hl.o.see.map.lt (by simp; exact jX hP)),hl.o.row.kept hv (.inr (fun e=>(hl.o.own e).2.1 rfl)),hP⟩);have hD:=am (lQ hv hd.o (by omega));have h8:=am (show fX (mO wb eb sb v) w W2 from h7.o.trans (fX.of_grown (S:=fun k=>k=eb) hv (fun k hk=>by cases hk; rfl)) (fun i _ h=> .inr (.inl h)))
  have yn:=hv.size;have HF:=am (HI.o w W2 Hq.o (pD h8.o (fun k hk=>un H.o HB.o hk)));clear hW hv hs hR Hx Hs hl hd h7 c1 q0 q1 q2 hZ;have c0:=bL (k:=0) hT.o.box;obtain⟨q0,q1,q2,_⟩:=aU hD.o;simp only[ai,ah]at c0
  repeat (first | (refine bZ rfl ?_; simp only[Act.put,aa,ag,ab]) | (refine cK rfl (fun K hK=> ?_); go_simp; refine hK _ ?_; clear hK K))
  refine cJ ?_;refine ee rfl (fun K hK=> ?_);go_wp2_with fail;refine(HV.o W2 r HF.o HR.o).mono ?_;rintro e w3 ⟨hJ,ha⟩;have Hb:=am (hT.o.below hJ);have h9:=am (h8.o.trans (fX.of_below hJ (S:=fun _=>False)) (fun _ _ h=>False.elim h));have H5:=am hJ;have H0:=hJ.size;clear hJ c0 q0 q1 q2
  cases hA:visit r with
  | error y=>
   rw[hA]at ha;obtain⟨rfl,hy⟩:=ha;have hb:=am (show(x,st')=(y,(st.1++[r],cO r st.2)) by have:=Hf.o; rw[hA]at this; exact(bC this).symm);have e1:(y != 0)=true:=by simp[hy]
   clear hA hy;go_wp2_with fail
   repeat (first | (refine bZ rfl ?_; simp only[Act.put,aa,ag,ab]) | (refine cK rfl (fun K hK=> ?_); go_simp; refine hK _ ?_; clear hK K))
   refine cJ ?_;go_wp2_with fail;go_ret;obtain⟨e1,e2⟩:=gm hb.o;exact⟨dA e1.symm,v1,by rw[e2]; exact Hb.o,h9.o,Hc.o⟩
  | ok l=>
   rw[hA]at ha;obtain⟨itv,rfl,hx⟩:=ha;have HN:=am (show jc (fq visit n) l (st.1++[r],cO r st.2)=some (x,st') by have:=Hf.o; rw[hA]at this; exact this);obtain⟨ia,ic,rfl,H7,HQ,-⟩:=cP.shape hx kO.len;unfold maxLen at HQ;have HJ:=am (show sJ w B W2.heap.size w3.heap.size base wb eb sb (.func (.func 83) #[cv] #[]) v (.slice ia l.length ic) l w3 v1 (st.1++[r]) (cO r st.2)from
    ⟨Hb.o,h9.o,Hc.o,fun k hk=> .inl (hT.o.row.lt k hk).2,⟨by omega,by omega,by omega⟩,⟨by omega,H0,ak _⟩,ew.lt hx⟩)
   clear hA hx Hf hT Hb h8 h9 hD;go_wp2_with fail
   repeat (first | (refine bZ rfl ?_; simp only[Act.put,aa,ag,ab]) | (refine cK rfl (fun K hK=> ?_); go_simp; refine hK _ ?_; clear hK K))
   refine cJ ?_;go_wp2_with fail
   go_loopw [40] (fun i wr=> ∃(k:Nat) (v2:Value) (ex2 rs2:List cy),k<=l.length/\i= .int .i64 k/\jc (fq visit n) (l.drop k) (ex2,rs2)=some (x,st')/\sJ w B W2.heap.size w3.heap.size base wb eb sb (.func (.func 83) #[cv] #[]) v (.slice ia l.length ic) l wr v2 ex2 rs2) (fun i _=>l.length-(intOf i).toNat)
   case atStart=>exact⟨0,v1,_,_,aW _,rfl,HN.o,HJ.o⟩
   case round=>
    obtain⟨k,v2,ex2,rs2,hk,rfl,HD,Hy⟩:=hrel;have Hv:=am HD;have hF:=am Hy;clear HD Hy
    by_cases HU:k<l.length
    ·obtain⟨it,Hm⟩: ∃it,l[k]? =some it:=⟨l[k],by simp[HU]⟩;obtain⟨b,o,ca,cc,rfl,HC,Hn,-,-,hg⟩:=lB hF.o.its (au _ _) Hm;have hG:=am (show jc (fq visit n) (it::l.drop (k+1)) (ex2,rs2)=some (x,st') by
      obtain⟨HS,rfl⟩:=aG.1 Hm;rw[<-cz HS]; exact Hv.o)
     have H9:=zS hG.o;have HM:=am HC;have q0:=hg 0 (by omega);have q1:=hg 1 (by omega);have q2:=hg 2 (by omega);have q3:=hg 3 (by omega);have q4:=hg 4 (by omega);have q5:=hg 5 (by omega);have q6:=hg 6 (by omega);have q7:=hg 7 (by omega);have q8:=hg 8 (by omega);have q9:=hg 9 (by omega);simp only[eW,ah,aj,cT]at q0 q1 q2 q3 q4 q5 q6 q7 q8 q9
     obtain⟨wo,HY⟩: ∃wo:World,wo=wr:=⟨_,rfl⟩;subst HY;have h0:=am ((au wo.heap.size wo).alloc (ak _) (.cells #[.string it.name, .int .i64 it.kind, .int .i64 it.mode, .int .i64 it.time, .int .i64 it.size, .string it.link, .slice ca it.chunks.length cc, .string it.node.name, .int .i64 it.node.gen, .int .i64 it.node.size] 28));have Ht:=am (hF.o.below h0.o)
     have Hu:=am (show dy (fun k=>W2.heap.size<=k/\k<w3.heap.size) _ (.slice ca it.chunks.length cc) it.chunks from cP.below Hn (by omega) h0.o (fun _ _ _ h=>h));obtain⟨a',cap',HX,HP,Hh,-⟩:=cP.shape Hn oU.len
     cases HX
     unfold maxLen at Hh;clear Hm HC Hn hg;have hE:=am (aF wo (.cells #[.string it.name, .int .i64 it.kind, .int .i64 it.mode, .int .i64 it.time, .int .i64 it.size, .string it.link, .slice ca it.chunks.length cc, .string it.node.name, .int .i64 it.node.gen, .int .i64 it.node.size] 28));go_wp2_with fail;clear q0 q1 q2 q3 q4 q5 q6 q7 q8 q9
     go_loopw [47] (fun i wq=> ∃(j:Nat) (v3:Value),j<=it.chunks.length/\i= .int .i64 j/\sJ w B W2.heap.size w3.heap.size base wb eb sb (.func (.func 83) #[cv] #[]) v (.slice (some ⟨b,o,none⟩) l.length ic) l wq v3 ex2 (fi (it.chunks.take j) rs2)/\dy (fun k=>W2.heap.size<=k/\k<w3.heap.size) wq (.slice ca it.chunks.length cc) it.chunks/\wq.heap[wo.heap.size]? =some (.cells #[.string it.name, .int .i64 it.kind, .int .i64 it.mode, .int .i64 it.time, .int .i64 it.size, .string it.link, .slice ca it.chunks.length cc, .string it.node.name, .int .i64 it.node.gen, .int .i64 it.node.size] 28 (0,0))) (fun i _=>it.chunks.length-(intOf i).toNat)
     case atStart=>exact⟨0,v2,aW _,rfl,Ht.o,Hu.o,hE.o⟩
     case round=>
      obtain⟨j,v3,hj,rfl,hN,hQ,hL⟩:=hrel;have hp:=am hN;have hH:=am hQ;have he:=am hL;clear hN hQ hL Ht Hu hE h0
      by_cases Hk:j<it.chunks.length
      ·obtain⟨c,hc⟩: ∃c,it.chunks[j]? =some c:=⟨it.chunks[j],by simp[Hk]⟩;obtain⟨b2,o2,rfl,hM,p0,p1,p2⟩:=lH hH.o (au _ _) hc;have HE:=am hM;have HO:=am (show fi (it.chunks.take (j+1)) rs2=cO c (fi (it.chunks.take j) rs2) by rw[dL hc,vd]);have H8:=qA it.chunks rs2 j;have hn:=am ((au wr.heap.size wr).alloc (ak _) (.cells #[.string c.name, .int .i64 c.gen, .int .i64 c.size] 26))
       have hU:=am (hp.o.below hn.o);have Hw:base<=(wr.alloc (.cells #[.string c.name, .int .i64 c.gen, .int .i64 c.size] 26)).heap.size:=ay hq (ay hp.o.gr.size hn.o.size);have h4:=am Hw;clear hc hM Hw;go_wp2_with fail;refine(oy base wb eb sb _ v3 ex2 _ c _ hU.o.at' HE.o (by omega) h4.o).mono ?_;rintro e w4 ⟨rfl,ha⟩;obtain⟨v4,hh,Hi⟩:=hU.o.step ha
       have hz:=am hh;have H4:=hn.o.size;have Hd:=am (show dy (fun k=>W2.heap.size<=k/\k<w3.heap.size) w4 (.slice (some ⟨b2,o2,none⟩) it.chunks.length cc) it.chunks from dy.same hH.o (fun k hk hS=>⟨hS,(Hi.block k (aP hk H4) (hU.o.notown hS)).trans (hn.o.block k hk)⟩));have hX:=lW he.o (.cells #[.string c.name, .int .i64 c.gen, .int .i64 c.size] 26)
       have h3:=am ((Hi.block wo.heap.size ((aO.1 hX).1) (hU.o.at'.notown hX (by decide) (by decide))).trans hX);clear ha hh Hi hX p0 p1 p2;go_wp2_with fail
       go_roundw
       case rel=>exact⟨j+1,v4,by omega,by go_num,by rw[HO.o]; exact hz.o,Hd.o,h3.o⟩
       case measure=>simp[intOf]; omega
      ·obtain rfl:j=it.chunks.length:=by omega
       rw[bB (ak _)]at hp;have c1:=bL (k:=1) he.o;have c7:=bL (k:=7) he.o;have c8:=bL (k:=8) he.o;have c9:=bL (k:=9) he.o;simp only[ai,aj,ah]at c1 c7 c8 c9
       rcases ss hG.o with⟨hO,h2⟩ | ⟨hO,y,st2,h1,h2⟩
       ·have e2:(it.kind != 2)=true:=by simp[hO]
        have H2:=am h2;clear hO h2;go_wp2_with fail
        go_roundw
        case rel=>exact⟨k+1,v3,_,_,by omega,by go_num,H2.o,hp.o⟩
        case measure=>simp[intOf]; omega
       ·have e2:(it.kind != 2)=false:=by simp[hO]
        have H1:=am h1;have H2:=am h2;have HT:st2.2.length<=st'.2.length:=by
         rcases h2 with⟨_,h2⟩ | ⟨_,h2⟩
         ·obtain⟨_,rfl⟩:=gm h2;exact ak _
         ·exact lE (mH visit n) _ _ x st' h2
        have HG:=am (HI.o w wr Hq.o (pD hp.o.gr (fun k hk=>un H.o HB.o hk)));have h4:=am (ay hq hp.o.gr.size);clear hO h1 h2;go_wp2_with fail;refine(HH.o it.node (ex2,fi it.chunks rs2) y st2 base wb eb sb v3 wr H1.o (by omega) hp.o.at' HM.o.nd HG.o HB.o h4.o).mono ?_;rintro e w4 ⟨rfl,ha⟩;obtain⟨v4,hh,-⟩:=hp.o.step ha;have hz:=am hh
        clear ha hh c1 c7 c8 c9
        rcases H2.o with⟨hy,h2⟩ | ⟨hy,h2⟩
        ·have e3:(y != 0)=true:=by simp[hy]
         have hb:=am h2;clear hy h2;go_wp2_with fail;go_ret;obtain⟨e1,e2⟩:=gm hb.o;exact⟨dA e1.symm,v4,by rw[e2]; exact hz.o.at',hz.o.gr,hz.o.own⟩
        ·subst hy;have H3:=am h2;clear h2;go_wp2_with fail
         go_roundw
         case rel=>exact⟨k+1,v4,st2.1,st2.2,by omega,by go_num,H3.o,hz.o⟩
         case measure=>simp[intOf]; omega
    ·obtain rfl:k=l.length:=by omega
     have hb:=am (show(x,st')=(0,(ex2,rs2)) by have:=Hv.o; rw[eV (ak _)]at this; exact(bC this).symm);go_wp2_with fail;go_ret;obtain⟨e1,e2⟩:=gm hb.o;exact⟨dA e1.symm,v2,by rw[e2]; exact hF.o.at',hF.o.gr,hF.o.own⟩
theorem Aq (visit:cy->Except Int (List cg)) (cv:Value) (I:World->Prop) (B:Nat) (hI:vO I B) (hV:BJ visit 83 cv I): ∀n,yP visit 83 cv I B n
 | 0=>by intro r st x st' base wb eb sb v w hw; simp[fq]at hw
 | n+1=>FS visit cv I B n hI hV (Aq visit cv I B hI hV n)
def lT (visit:cy->Except Int (List cg)) (n:Nat) (root:cy):Option (Except Int (List cy)):=
 if lm root=true then(fq visit n root ([],[])).map fun p=>if p.1=0 then .ok p.2.2 else .error p.1 else some (.error 1)
def sH (res:Except Int (List cy)) (w:World) (e:Ending) (w':World):Prop:=Below w.heap.size w w'/\match res with
 | .error x=>e= .returned (.tuple #[.slice none 0 0, .int .i64 x])/\x≠0
 | .ok rs=> ∃v,e= .returned (.tuple #[v, .int .i64 0])/\dy (w.heap.size<= ·) w' v rs
theorem DZ {w:World} {B:Nat} {fv:Value} :my (((w.alloc (.map #[] 0)).alloc (.map #[] 0)).alloc (.cells #[fv, .map (some w.heap.size), .map (some (w.heap.size+1)), .slice none 0 0] 191)) B (w.heap.size+1+1) w.heap.size (w.heap.size+1) fv (.slice none 0 0) [] []:=by
 have e1:(w.alloc (.map #[] 0)).heap.size=w.heap.size+1:=by simp
 have e2:((w.alloc (.map #[] 0)).alloc (.map #[] 0)).heap.size=w.heap.size+1+1:=by simp
 have h1:=jC.made w;have h2:=jC.made (w.alloc (.map #[] 0));rw[e1]at h2;have h3:=aF ((w.alloc (.map #[] 0)).alloc (.map #[] 0)) (.cells #[fv, .map (some w.heap.size), .map (some (w.heap.size+1)), .slice none 0 0] 191);rw[e2]at h3;refine⟨h3, ?_,h2.same (cN _ _ _ (by rw[e2]; omega)),bM _ _ _ _,by omega⟩;exact h1.same ((cN _ _ _ (by rw[e2]; omega)).trans (cN _ _ _ (by rw[e1]; omega)))
theorem Fa (visit:cy->Except Int (List cg)) (cv:Value) (I:World->Prop) (n:Nat) (root:cy) (res:Except Int (List cy)) (w:World) (hI:vO I w.heap.size) (hV:BJ visit 83 cv I) (hi:I w) (hr:dY root)
  (hn:lT visit n root=some res) (hl: ∀p,fq visit n root ([],[])=some p->p.2.2.length<1099511627775):
  Calls Tryz.prog 94 #[ef root, .func (.func 83) #[cv] #[]] w (sH res w):=by
 have HI:=am hI;have HV:=am hV;have hB:=am hi;have HR:=am hr;have HL:=am hl;have hG:= @run_makeMap Tryz.prog;have hu:=am ((au w.heap.size w).alloc (ak _) (.cells #[.string root.name, .int .i64 root.gen, .int .i64 root.size] 26));have hd:=am (aF w (.cells #[.string root.name, .int .i64 root.gen, .int .i64 root.size] 26));unfold ef;clear hI hV hi hr hl
 cases hv:lm root
 ·have ha:=am (show res= .error 1 by rw[lT,if_neg (by rw[hv]; simp)]at hn; exact(bC hn).symm);have hp:=am hv;clear hv hn
  go_enter Tryz.func94,Tryz.ntmps94
  go_wp2_with fail;refine(io root false _ HR.o hp.o).mono ?_;rintro e w1 ⟨rfl,hc⟩;have hj:=am (ar hu.o hc);clear hc;go_wp2_with fail
  go_ret2
  exact⟨hj.o,by rw[ha.o]; exact⟨rfl,by decide⟩⟩
 ·have hp:=am hv;obtain⟨⟨x,st⟩,hs,hf⟩: ∃p,fq visit n root ([],[])=some p/\res=(if p.1=0 then .ok p.2.2 else .error p.1):=by
   rw[lT,if_pos hv,gk]at hn;obtain⟨p,h1,h2⟩:=hn;exact⟨p,h1,h2.symm⟩
  have hD:=am hs;have ha:=am hf;have hC:=am (HL.o _ hs);clear hv hn hs hf
  go_enter Tryz.func94,Tryz.ntmps94
  go_wp2_with fail;refine(io root true _ HR.o hp.o).mono ?_;rintro e w1 ⟨rfl,hc⟩;have hj:=am (ar hu.o hc);have hb:=(hc.block w.heap.size (by simp)).trans hd.o;have he:=am hb;have hF:=aw hb;clear hc hb hd;obtain⟨W,hW⟩: ∃W:World,W=((w1.alloc (.map #[] 0)).alloc (.map #[] 0)).alloc (.cells #[.func (.func 83) #[cv] #[], .map (some w1.heap.size), .map (some (w1.heap.size+1)), .slice none 0 0] 191):=⟨_,rfl⟩
  have HK:=am (show my W w.heap.size (w1.heap.size+1+1) w1.heap.size (w1.heap.size+1) (.func (.func 83) #[cv] #[]) (.slice none 0 0) [] [] by rw[hW]; exact DZ);have hq:Below w1.heap.size w1 W:=by rw[hW]; exact((eK).alloc (by simp) _).alloc (by simp; omega) _
  have hg:=am (ar hj.o hq);have hm:=am ((hq.block w.heap.size hF).trans he.o);obtain⟨q0,q1,q2,_⟩:=aU hm.o;obtain⟨r0,r1,r2,_⟩:=aU he.o;have hA:=am (HI.o w W hB.o (fX.of_below hg.o));clear hq
  go_upto_region 4 with(fail)
  rw[<-hW];clear hW;go_wp2_with fail;refine(Aq visit cv I w.heap.size HI.o HV.o n root ([],[]) x st w.heap.size (w1.heap.size+1+1) w1.heap.size (w1.heap.size+1) (.slice none 0 0) W hD.o hC.o HK.o HR.o hA.o ⟨ak _,by omega,by omega,by omega⟩ hg.o.size).mono ?_;rintro e w2 ⟨rfl,v2,hh,hz,hE⟩;have hy:=am hh;have hw:=am (show Below w.heap.size w w2 from hg.o.trans (hz.below hg.o.size (fun k hk=>un HK.o ⟨ak _,by omega,by omega,by omega⟩ hk)))
  obtain⟨a2,c2,rfl⟩:=hh.shape;have d3:=bL (k:=3) hh.box;simp only[ai,aj,ah]at d3;clear hh hz hE q0 q1 q2 r0 r1 r2
  by_cases hx:x=0
  ·subst hx;have ho:=am (show res= .ok st.2 by rw[ha.o]; simp);go_wp2_with fail
   go_ret2
   exact⟨hw.o,by rw[ho.o]; exact⟨_,rfl,dy.same (nT hy.o.row hy.o.ok) (fun k _ hS=>⟨hS.1,rfl⟩)⟩⟩
  ·have e1:(x != 0)=true:=by simp[hx]
   have ho:=am (show res= .error x by rw[ha.o]; simp[hx]);have HX:=am hx;clear hx;go_wp2_with fail
   go_ret2
   exact⟨hw.o,by rw[ho.o]; exact⟨rfl,HX.o⟩⟩
structure kE (B : Nat) (cv : Value) (cs : List (ByteArray × List UInt8)) (w : World) : Prop where
 cont:fW (· <B) w cv cs
 env:nY w
 lt:1<B/\3<B/\4<B
 size:B<=w.heap.size
theorem cC.lt' {S:Nat->Prop} {w:World} {sz:Nat} {v:Value} {n:Nat} {cells:List Value} (h:cC S w sz v n cells) (hs:0<sz):cC (· <w.heap.size) w sz v n cells:=h.mono (fun _ hk _=>hk) hs
theorem fW.lt {S:Nat->Prop} {w:World} {cv:Value} {cs:List (ByteArray×List UInt8)} (h:fW S w cv cs):fW (· <w.heap.size) w cv cs:=by
 rcases h with h | ⟨b,m,h1,h0,h2,h3⟩
 ·exact .inl h
 ·refine .inr ⟨b,m,h1,h2.lt,h2, ?_⟩;clear h1 h2 h0
  induction m generalizing cs with
  | nil=>cases cs with
   | nil=>trivial
   | cons=>exact h3
  | cons p m ih=>cases cs with
   | nil=>exact h3
   | cons q cs=>exact⟨h3.1,cC.lt' h3.2.1 (by omega),ih h3.2.2⟩
theorem kE.keep {B:Nat} {cv:Value} {cs:List (ByteArray×List UInt8)} :vO (kE B cv cs) B:=by
 intro w w' h hg;have hb:Below B w w':=hg.below h.size (fun k hk=>hk);refine⟨?_,h.env.belowB hb h.lt.1 h.lt.2.1 h.lt.2.2,h.lt,ay h.size hg.size⟩
 rcases h.cont with h1 | ⟨b,m,h1,h0,h2,h3⟩
 ·exact .inl h1
 ·exact .inr ⟨b,m,h1,h0,h2.same (hb.block b h0),h3.mono (fun v bs hv=>cC.same hv (fun k hk=>hb.block k hk))⟩
theorem kE.visit {B:Nat} {cv:Value} {cs:List (ByteArray×List UInt8)} :BJ (gh cs) 83 cv (kE B cv cs):=fun W r hI hr=>(tr (· <B) cv cs r W hI.cont hr hI.env).mono fun _ _ h=>h
theorem kE.start {S:Nat->Prop} {w:World} {cv:Value} {cs:List (ByteArray×List UInt8)} (h:fW S w cv cs) (he:nY w):kE w.heap.size cv cs w:=⟨h.lt,he,he.lt,ak _⟩
theorem MI (S:Nat->Prop) (cv:Value) (cs:List (ByteArray×List UInt8)) (n:Nat) (root:cy) (res:Except Int (List cy)) (w:World) (hc:fW S w cv cs) (henv:nY w) (hr:dY root)
  (hn:lT (gh cs) n root=some res) (hl: ∀p,fq (gh cs) n root ([],[])=some p->p.2.2.length<1099511627775):
  Calls Tryz.prog 38 #[ef root,cv] w (sH res w):=by
 have hf: ∀(fn:Fn) (first cap:Array Value) (w:World),(Instr.makeFunc fn first cap).run Tryz.prog w= .ok (.func fn first cap) w:=fun _ _ _ _=>rfl
 have hb:=am ((au w.heap.size w).alloc (ak _) (.cells #[.string root.name, .int .i64 root.gen, .int .i64 root.size] 26));have HI:=am (kE.start (hc.below hb.o) (henv.below hb.o));have HR:=am hr;have HN:=am hn;have HL:=am hl;unfold ef;clear hc henv hr hn hl
 go_enter Tryz.func38,Tryz.ntmps38
 go_wp2_with fail;refine(Fa (gh cs) cv _ n root res _ kE.keep kE.visit HI.o HR.o HN.o HL.o).mono ?_;rintro e w1 ⟨he,ha⟩;have hd:=am (ar hb.o he);clear he
 cases res with
 | error x=>
  obtain⟨rfl,hx⟩:=ha;have HX:=am hx;clear hx;go_wp2_with fail
  go_ret2
  exact⟨hd.o,rfl,HX.o⟩
 | ok rs=>
  obtain⟨v,rfl,hv⟩:=ha;have hz:=hb.o.size;have HV:=am (show dy (w.heap.size<= ·) w1 v rs from dy.same hv (fun k _ hS=>⟨ay hz hS,rfl⟩));obtain⟨a,cap,rfl,-,-,-⟩:=cP.shape hv oU.len;clear hv;go_wp2_with fail
  go_ret2
  exact⟨hd.o,_,rfl,HV.o⟩
theorem mD : ∀ {l U:List cy},l.Nodup->(∀x∈l,x∈U)->l.length<=U.length
 | [],_,_,_=>aW _
 | a::l,U,hn,hs=>by
  obtain⟨h1,h2⟩:=lL.1 hn;have ha:a∈U:=hs a (by simp);have h3:=mD (l:=l) (U:=U.erase a) h2 (fun x hx=>(List.mem_erase_of_ne (fun e=>by subst e; exact h1 hx)).2 (hs x (by simp[hx])));have h4:=List.length_erase_of_mem ha;have h5:0<U.length:=List.length_pos_of_mem ha;simp only[aD];omega
def qy (it:cg):List cy:=it.chunks++[it.node]
def Ps (l:List cg):List cy:=l.flatMap qy
def oK (cs:List (ByteArray×List UInt8)):List cy:=cs.flatMap fun p=>match jf p.2 with
 | some l=>Ps l
 | none=>[]
theorem IZ {cs:List (ByteArray×List UInt8)} {n:ByteArray} {bs:List UInt8} (h:gE cs n=some bs): ∃k,(k,bs)∈cs:=by
 induction cs with
 | nil=>simp[gE]at h
 | cons p cs ih=>
  obtain⟨k,b⟩:=p;simp only[gE]at h
  split at h
  ·simp only[aV]at h; subst h; exact⟨k,by simp⟩
  ·obtain⟨k',hk⟩:=ih h;exact⟨k',by simp[hk]⟩
theorem zN {cs:List (ByteArray×List UInt8)} {r:cy} {l:List cg} (h:gh cs r= .ok l): ∃k bs,(k,bs)∈cs/\jf bs=some l:=by
 unfold gh at h
 cases hc:je cs r with
 | error x=>rw[hc]at h; simp at h
 | ok bs=>
  rw[hc]at h;simp only at h
  cases hi:jf bs with
  | none=>rw[hi]at h; simp at h
  | some l'=>
   rw[hi]at h;simp only[dp]at h;subst h;unfold je at hc
   cases hf:gE cs r.name with
   | none=>rw[hf]at hc; simp at hc
   | some b=>
    rw[hf]at hc;simp only at hc
    split at hc
    ·simp only[dp]at hc; subst hc;obtain⟨k,hk⟩:=IZ hf;exact⟨k,b,hk,hi⟩
    ·simp at hc
theorem xg {cs:List (ByteArray×List UInt8)} {r:cy} {l:List cg} (h:gh cs r= .ok l) {it:cg} (hit:it∈l): ∀c∈qy it,c∈oK cs:=fun c hc=>by
 obtain⟨k,bs,h1,h2⟩:=zN h;refine dz.2 ⟨(k,bs),h1, ?_⟩;simp only[h2];exact dz.2 ⟨it,hit,hc⟩
structure tP (U : List cy) (st : List cy × List cy) : Prop where
 e1:st.1.Nodup
 e2: ∀x∈st.1,x∈U
 l1:st.2.Nodup
 l2: ∀x∈st.2,x∈U
theorem nM {r:cy} {rs:List cy} (h:rs.Nodup):(cO r rs).Nodup:=by
 unfold cO
 split
 ·exact h
 ·rename_i hm;exact fc.2 ⟨h,by simp,fun a ha b hb e=>by simp only[aM]at hb; subst hb e; exact hm ha⟩
theorem lC {r x:cy} {rs:List cy} :x∈cO r rs<->x∈rs\/x=r:=by
 unfold cO
 split
 ·rename_i hm;exact⟨.inl,fun h=>by rcases h with h | rfl; exact h; exact hm⟩
 ·simp
theorem tj : ∀(cs:List cy) {rs:List cy},rs.Nodup->(fi cs rs).Nodup
 | [],_,h=>h
 | _c::cs,_,h=>tj cs (nM h)
theorem pI : ∀(cs:List cy) {rs:List cy} {x:cy},x∈fi cs rs<->x∈rs\/x∈cs
 | [],rs,x=>by simp[fi]
 | c::cs,rs,x=>by
  show x∈fi cs (cO c rs)<->_
  rw[pI cs,lC,aZ,or_assoc]
theorem tP.men {U:List cy} {st:List cy×List cy} (h:tP U st) {cs:List cy} (hc: ∀c∈cs,c∈U):tP U (st.1,fi cs st.2):=
 ⟨h.e1,h.e2,tj cs h.l1,fun x hx=>by
  rcases(pI cs).1 hx with hx | hx
  ·exact h.l2 x hx
  ·exact hc x hx⟩
def La (U:List cy) (f:cy->List cy×List cy->Option (Int×(List cy×List cy))) (n:Nat):Prop:= ∀r st,r∈U->tP U st->U.length<n+st.1.length-> ∃x st',f r st=some (x,st')/\tP U st'/\st.1.length<=st'.1.length
theorem pN {U:List cy} {f:cy->List cy×List cy->Option (Int×(List cy×List cy))} {n:Nat} (hf:La U f n):
  ∀(l:List cg) (st:List cy×List cy),(∀it∈l,∀c∈qy it,c∈U)->tP U st->U.length<n+st.1.length-> ∃x st',jc f l st=some (x,st')/\tP U st'/\st.1.length<=st'.1.length
 | [],st,_,hi,_=>⟨0,st,rfl,hi,ak _⟩
 | it::l,st,hl,hi,hn=>by
  have hi2:=hi.men (cs:=it.chunks) (fun c hc=>hl it (by simp) _ (by simp[qy,hc]));rw[jc]
  split
  ·exact pN hf l _ (fun x hx=>hl x (by simp[hx])) hi2 hn
  ·obtain⟨x,st2,h1,h2,h3⟩:=hf it.node _ (hl it (by simp) _ (by simp[qy])) hi2 hn;rw[h1,Option.bind_some];simp only at h3
   split
   ·exact⟨x,st2,rfl,h2,h3⟩
   ·obtain⟨y,st3,k1,k2,k3⟩:=pN hf l st2 (fun x hx=>hl x (by simp[hx])) h2 (by omega);exact⟨y,st3,k1,k2,ay h3 k3⟩
theorem xW {cs:List (ByteArray×List UInt8)} {U:List cy} (hU: ∀c∈oK cs,c∈U): ∀n,La U (fq (gh cs) n) n
 | 0=>fun r st hr hi hn=>by
  have:=mD hi.e1 hi.e2;omega
 | n+1=>fun r st hr hi hn=>by
  have hm:tP U (st.1,cO r st.2):=⟨hi.e1,hi.e2,nM hi.l1,fun x hx=>by
   rcases lC.1 hx with hx | rfl
   ·exact hi.l2 x hx
   ·exact hr⟩
  rw[fq]
  split
  ·exact⟨0,_,rfl,hm,ak _⟩
  ·rename_i hne;have he:tP U (st.1++[r],cO r st.2):=⟨fc.2 ⟨hi.e1,by simp,fun a ha b hb e=>by simp only[aM]at hb; subst hb e; exact hne ha⟩,fun x hx=>by
    rcases aT.1 hx with hx | hx
    ·exact hi.e2 x hx
    ·simp only[aM]at hx; subst hx; exact hr,hm.l1,hm.l2⟩
   cases hv:gh cs r with
   | error x=>exact⟨x,_,rfl,he,by simp⟩
   | ok l=>
    obtain⟨x,st',h1,h2,h3⟩:=pN (xW hU n) l (st.1++[r],cO r st.2) (fun it hit c hc=>hU c (xg hv hit c hc)) he (by simp; omega);exact⟨x,st',h1,h2,by simp at h3; omega⟩
def mQ (cs:List (ByteArray×List UInt8)):Nat:=(oK cs).length+2
def zM (cs:List (ByteArray×List UInt8)) (r:cy):Except Int (List cy):=(lT (gh cs) (mQ cs) r).getD (.error 0)
theorem As (cs:List (ByteArray×List UInt8)) (r:cy): ∃x st',fq (gh cs) (mQ cs) r ([],[])=some (x,st')/\tP (r::oK cs) st':=by
 obtain⟨x,st',h1,h2,_⟩:=xW (cs:=cs) (U:=r::oK cs) (fun c hc=>by simp[hc]) (mQ cs) r ([],[]) (by simp) ⟨by simp,by simp,by simp,by simp⟩ (by simp[mQ]);exact⟨x,st',h1,h2⟩
theorem IK {data:List UInt8} {s s1:RS} {it:cg} (h:nJ data s=some (it,s1)):it.chunks.length<=963:=by
 unfold nJ qz at h
 split at h
 ·simp only[aV,cI]at h;obtain⟨rfl,_⟩:=h;simp only[wg];exact AO _ _ _
 ·split at h
  ·simp only[aV,cI]at h;obtain⟨rfl,_⟩:=h;simp
  ·split at h
   ·simp only[aV,cI]at h;obtain⟨rfl,_⟩:=h;simp
   ·simp at h
theorem zv {data:List UInt8} {s0:RS} : ∀ {k:Nat} {l:List cg} {s:RS},ka data s0 k=some (l,s)->l.length=k/\ ∀it∈l,it.chunks.length<=963
 | 0,l,s,h=>by
  simp only[ka,aV,cI]at h;obtain⟨rfl,_⟩:=h;exact⟨rfl,by simp⟩
 | k+1,l,s,h=>by
  rw[ov,dx]at h;obtain⟨⟨l0,s1⟩,h1,h2⟩:=h;rw[gk]at h2;obtain⟨⟨it,s2⟩,h3,h4⟩:=h2;simp only[cI]at h4;obtain⟨rfl,_⟩:=h4;obtain⟨k1,k2⟩:=zv h1;refine⟨by simp[k1],fun x hx=> ?_⟩
  rcases aT.1 hx with hx | hx
  ·exact k2 x hx
  ·simp only[aM]at hx; subst hx; exact IK h3
theorem zx {data:List UInt8} {l:List cg} (h:jf data=some l):l.length<=4096/\ ∀it∈l,it.chunks.length<=963:=by
 unfold jf at h
 split at h
 ·simp at h
 ·rw[dx]at h;obtain⟨⟨l0,s1⟩,h1,h2⟩:=h
  split at h2
  ·simp only[aV]at h2;subst h2;obtain⟨k1,k2⟩:=zv h1;exact⟨by rw[k1]; exact AO _ _ _,k2⟩
  ·simp at h2
theorem mz {α β:Type} (f:α->List β) (m:Nat): ∀(l:List α),(∀x∈l,(f x).length<=m)->(l.flatMap f).length<=l.length*m
 | [],_=>by simp
 | a::l,h=>by
  have h1:=mz f m l (fun x hx=>h x (by simp[hx]));have h2:=h a (by simp);rw[bu,an,aD,Nat.succ_mul];omega
theorem zb {cs:List (ByteArray×List UInt8)} :(oK cs).length<=cs.length*3948544:=mz _ _ cs (fun p _=>by
 cases h:jf p.2 with
 | none=>simp
 | some l=>
  obtain⟨h1,h2⟩:=zx h;simp only;have h3:=mz qy 964 l (fun it hit=>by have:=h2 it hit; simp[qy]; omega);exact ay h3 (ay (cY 964 h1) (by decide)))
theorem xh {cs:List (ByteArray×List UInt8)} {r:cy} {l:List cg} (h:gh cs r= .ok l):l.length<=4096/\jy l=true/\ ∀it∈l,it.chunks.length<=963:=by
 obtain⟨k,bs,_,h2⟩:=zN h;have h3:=zx h2;refine⟨h3.1, ?_,h3.2⟩;unfold jf at h2
 split at h2
 ·simp at h2
 ·rw[dx]at h2;obtain⟨⟨l0,s1⟩,_,h4⟩:=h2
  split at h4
  ·rename_i h5;simp only[aV]at h4;subst h4;exact h5.2
  ·simp at h4
open Go Go.RowKit
def lj (w:World) (base eb:Nat) (v:Value) (acc:List dl):Prop:=
 w.heap[eb]? =some (.cells #[v] 46 (0,0))/\ ∃ys:List pw,ys.map Prod.snd=acc/\w.ownsRow base 79 6 v ys.length (jl ys)/\ ∀y∈ys,w.ownsRow base 5 1 y.1 y.2.data.length (y.2.data.map aY)
structure rO (base eb : Nat) (v v' : Value) (w w' : World) : Prop where
 below:Below base w w'
 same: ∀k,k<w.heap.size->k≠eb->v.ownBlock≠some k->w'.heap[k]? =w.heap[k]?
 place: ∀k,v'.ownBlock=some k->v.ownBlock=some k\/w.heap.size<=k
theorem rO.refl (base eb:Nat) (v:Value) (w:World):rO base eb v v w w:=⟨au _ _,fun _ _ _ _=>rfl,fun _ h=> .inl h⟩
theorem rO.trans {base eb:Nat} {v v1 v2:Value} {A B C:World} (h:rO base eb v v1 A B) (k:rO base eb v1 v2 B C) (hs:A.heap.size<=B.heap.size):rO base eb v v2 A C:=
 ⟨h.below.trans k.below,fun i h1 h2 h3=>(k.same i (by omega) h2 (fun e=>by
  rcases h.place i e with e2 | e2
  ·exact h3 e2
  ·omega)).trans (h.same i h1 h2 h3),fun i e=>by
  rcases k.place i e with e2 | e2
  ·exact h.place i e2
  ·exact .inr (by omega)⟩
theorem rO.ofBelow {base eb:Nat} {v:Value} {w w':World} (h:Below w.heap.size w w') (hb:base<=w.heap.size):rO base eb v v w w':=⟨h.mono hb,fun k h1 _ _=>h.block k h1,fun _ e=> .inl e⟩
theorem lj.below {w w':World} {base eb:Nat} {v:Value} {acc:List dl} (h:lj w base eb v acc) (hb:Below w.heap.size w w'):lj w' base eb v acc:=by
 obtain⟨h1,ys,h2,h3,h4⟩:=h;exact⟨dX hb h1,ys,h2,cR h3 hb,fun y hy=>cR (h4 y hy) hb⟩
theorem bU {w:World} {k:Nat} {cs cs':Array Value} {t t':TypeId} {z z':Nat×Nat} (h:w.heap[k]? =some (.cells cs t z)) (h':w.heap[k]? =some (.cells cs' t' z')):t=t':=by
 have:=h.symm.trans h';simp at this;exact this.2.1
theorem eP {w w':World} {base sz n:Nat} {e:TypeId} {v:Value} {xs:List Value} (h:w.ownsRow base e sz v n xs) (hs: ∀k,k<w.heap.size->v.ownBlock=some k->w'.heap[k]? =w.heap[k]?):w'.ownsRow base e sz v n xs:=by
 obtain⟨hl,h2⟩:=h;refine⟨hl, ?_⟩
 rcases h2 with h2 | ⟨g,cap,cur,rfl,hg,hh,h3⟩
 ·exact .inl h2
 ·exact .inr ⟨g,cap,cur,rfl,hg,(hs g (aw hh) rfl).trans hh,h3⟩
theorem lj.push {w w2:World} {base eb:Nat} {v v' dv:Value} {ys:List pw} {e:dl} (hx:w.heap[eb]? =some (.cells #[v] 46 (0,0))) (hr:w.ownsRow base 79 6 v ys.length (jl ys)) (hd: ∀y∈ys,w.ownsRow base 5 1 y.1 y.2.data.length (y.2.data.map aY)) (hn:w.ownsRow base 5 1 dv e.data.length (e.data.map aY))
  (hown:w2.ownsRow base 79 6 v' (ys.length+1) (jl ys++wF dv e)) (hg:w.grownBy w2 v.ownBlock) (hpl: ∀k,v'.ownBlock=some k->v.ownBlock=some k\/w.heap.size<=k) (hbe:base<=eb) (hbz:base<=w.heap.size):
  lj (w2.setCell ⟨eb,0,none⟩ v') base eb v' (ys.map Prod.snd++[e])/\rO base eb v v' w (w2.setCell ⟨eb,0,none⟩ v'):=by
 have hj:=aw hx;have he:v.ownBlock≠some eb:=fun h=>by
  obtain⟨cs,hc⟩:=bI hr h;exact absurd (bU hx hc) (by decide)
 have hb:v'.ownBlock≠some eb:=fun h=>by
  rcases hpl eb h with h | h
  ·exact he h
  ·omega
 have hf:=(hg.block eb hj (fun h=>he h.symm)).trans hx;have ha: ∀(u:Value) (bs:List UInt8),w.ownsRow base 5 1 u bs.length (bs.map aY)->(w2.setCell ⟨eb,0,none⟩ v').ownsRow base 5 1 u bs.length (bs.map aY):=by
  intro u bs h;refine eP h (fun k hk hu=> ?_);obtain⟨cs,hc⟩:=bI h hu;rw[aC _ _ _ _ (show k≠eb from fun e=>absurd (bU (e▸hc) hx) (by decide))];refine hg.block k hk (fun e=> ?_);obtain⟨cs2,hh⟩:=bI hr e.symm;exact absurd (bU hc hh) (by decide)
 refine⟨⟨?_,ys++[(dv,e)],by simp, ?_,fun y hy=> ?_⟩,⟨?_,fun k hk h1 h2=> ?_,hpl⟩⟩
 ·have:=jb (k:=0) hf v'
  simpa using this
 ·rw[an,bT,wH];exact hown.kept (cG _ _ _ _) (.inr (fun h=>hb h))
 ·rcases aT.1 hy with hy | hy
  ·exact ha _ _ (hd y hy)
  ·rw[aM]at hy;subst hy;exact ha _ _ hn
 ·exact((au base w).grown hg hbz (fun k hk=>(hr.lt k hk).1)).grown (cG w2 eb 0 v') (ay hbz hg.size) (fun k hk=>by cases hk; exact hbe)
 ·rw[aC _ _ _ _ (show k≠eb from h1)];exact hg.block k hk (fun e=>h2 e.symm)
structure vo (w : World) (h5 h6 base eb : Nat) (v itv : Value) (l : List cg) (wr : World) (v2 : Value) (acc : List dl) : Prop where
 box:lj wr base eb v2 acc
 kp:rO base eb v v2 w wr
 apart: ∀k,v2.ownBlock=some k->k<h5\/h6<=k
 lo:eb<h5
 ord:w.heap.size<=h5/\h5<=h6/\h6<=wr.heap.size
 its:ew (fun k=>h5<=k/\k<h6) wr itv l
theorem vo.step {w wr w':World} {h5 h6 base eb:Nat} {v itv v2 v3:Value} {l:List cg} {acc acc3:List dl} (h:vo w h5 h6 base eb v itv l wr v2 acc) (h1:lj w' base eb v3 acc3) (h2:rO base eb v2 v3 wr w'):vo w h5 h6 base eb v itv l w' v3 acc3:=by
 have ho:=h.ord;have hl:=h.lo;have hz:=h2.below.size;refine⟨h1,h.kp.trans h2 (by omega),fun k hk=> ?_,hl,⟨ho.1,ho.2.1,by omega⟩,h.its.same (fun k hk hS=>h2.same k hk (by omega) (fun e=> ?_))⟩
 ·rcases h2.place k hk with e | e
  ·exact h.apart k e
  ·exact .inr (by omega)
 ·have:=h.apart k e;omega
theorem vo.below {w wr w':World} {h5 h6 base eb:Nat} {v itv v2:Value} {l:List cg} {acc:List dl} (h:vo w h5 h6 base eb v itv l wr v2 acc) (hb:Below wr.heap.size wr w') (hbz:base<=wr.heap.size):vo w h5 h6 base eb v itv l w' v2 acc:=
 h.step (h.box.below hb) (rO.ofBelow hb hbz)
theorem vj {w:World} {b:Nat} {a0 a1 a2 x0 x1 x2:Value} {t:TypeId} (h:w.heap[b]? =some (.cells #[a0,a1,a2] t (0,0))):
  (((w.setCell ⟨b,0,none⟩ x0).setCell ⟨b,1,none⟩ x1).setCell ⟨b,2,none⟩ x2).heap[b]? =some (.cells #[x0,x1,x2] t (0,0)):=by
 have:=jb (k:=2) (jb (k:=1) (jb (k:=0) h x0) x1) x2
 simpa using this
theorem Ig {w:World} {b:Nat} {a0 a1 a2 a3 a4 a5 a6 a7 a8 a9 x0 x1 x2 x3 x4 x5 x6 x7 x8 x9:Value} {t:TypeId} (h:w.heap[b]? =some (.cells #[a0,a1,a2,a3,a4,a5,a6,a7,a8,a9] t (0,0))):
  ((((((((((w.setCell ⟨b,0,none⟩ x0).setCell ⟨b,1,none⟩ x1).setCell ⟨b,2,none⟩ x2).setCell ⟨b,3,none⟩ x3).setCell ⟨b,4,none⟩ x4).setCell ⟨b,5,none⟩ x5).setCell ⟨b,6,none⟩ x6).setCell ⟨b,7,none⟩ x7).setCell ⟨b,8,none⟩ x8).setCell ⟨b,9,none⟩ x9).heap[b]? =some (.cells #[x0,x1,x2,x3,x4,x5,x6,x7,x8,x9] t (0,0)):=by
 have:=jb (k:=9) (jb (k:=8) (jb (k:=7) (jb (k:=6) (jb (k:=5) (jb (k:=4) (jb (k:=3) (jb (k:=2) (jb (k:=1) (jb (k:=0) (h) x0) x1) x2) x3) x4) x5) x6) x7) x8) x9
 simpa using this
theorem gZ {B b:Nat} {a w:World} {x0 x1 x2:Value} (h:Below B a w) (hb:B<=b):Below B a (((w.setCell ⟨b,0,none⟩ x0).setCell ⟨b,1,none⟩ x1).setCell ⟨b,2,none⟩ x2):=(cw (cw (cw h hb x0) hb x1) hb x2)
theorem ji {B b:Nat} {a w:World} {x0 x1 x2 x3 x4 x5 x6 x7 x8 x9:Value} (h:Below B a w) (hb:B<=b):Below B a ((((((((((w.setCell ⟨b,0,none⟩ x0).setCell ⟨b,1,none⟩ x1).setCell ⟨b,2,none⟩ x2).setCell ⟨b,3,none⟩ x3).setCell ⟨b,4,none⟩ x4).setCell ⟨b,5,none⟩ x5).setCell ⟨b,6,none⟩ x6).setCell ⟨b,7,none⟩ x7).setCell ⟨b,8,none⟩ x8).setCell ⟨b,9,none⟩ x9):=(cw (cw (cw (cw (cw (cw (cw (cw (cw (cw h hb x0) hb x1) hb x2) hb x3) hb x4) hb x5) hb x6) hb x7) hb x8) hb x9)
theorem ed {b k:Nat} {w:World} {x0 x1 x2:Value} (hk:k≠b):(((w.setCell ⟨b,0,none⟩ x0).setCell ⟨b,1,none⟩ x1).setCell ⟨b,2,none⟩ x2).heap[k]? =w.heap[k]? :=(aC _ _ _ _ hk).trans ((aC _ _ _ _ hk).trans (aC _ _ _ _ hk))
theorem pE {b k:Nat} {w:World} {x0 x1 x2 x3 x4 x5 x6 x7 x8 x9:Value} (hk:k≠b):((((((((((w.setCell ⟨b,0,none⟩ x0).setCell ⟨b,1,none⟩ x1).setCell ⟨b,2,none⟩ x2).setCell ⟨b,3,none⟩ x3).setCell ⟨b,4,none⟩ x4).setCell ⟨b,5,none⟩ x5).setCell ⟨b,6,none⟩ x6).setCell ⟨b,7,none⟩ x7).setCell ⟨b,8,none⟩ x8).setCell ⟨b,9,none⟩ x9).heap[k]? =w.heap[k]? :=(aC _ _ _ _ hk).trans ((aC _ _ _ _ hk).trans ((aC _ _ _ _ hk).trans ((aC _ _ _ _ hk).trans ((aC _ _ _ _ hk).trans ((aC _ _ _ _ hk).trans ((aC _ _ _ _ hk).trans ((aC _ _ _ _ hk).trans ((aC _ _ _ _ hk).trans (aC _ _ _ _ hk)))))))))
def wP (c:ByteArray):List cg->Nat->Int
 | [],_=> -1
 | x::t,k=>if x.name=c then(k:Int)else wP c t (k+1)
theorem zq {c:ByteArray} {l:List cg} {k:Nat} {x:cg} (h:l[k]? =some x):wP c (l.drop k) k=if x.name=c then(k:Int)else wP c (l.drop (k+1)) (k+1):=by
 obtain⟨hk,rfl⟩:=aG.1 h;rw[cz hk,wP]
theorem zr (c:ByteArray): ∀(l:List cg) (k:Nat),(l.find? (fun y=>decide (y.name=c))=none/\wP c l k= -1)\/ ∃(j:Nat) (y:cg),l[j]? =some y/\l.find? (fun y=>decide (y.name=c))=some y/\wP c l k=((k+j:Nat):Int)
 | [],_=> .inl ⟨rfl,rfl⟩
 | x::t,k=>by
  by_cases h:x.name=c
  ·exact .inr ⟨0,x,rfl,by rw[List.find?_cons_of_pos (by simp[h])],by rw[wP,if_pos h]; rfl⟩
  ·rw[List.find?_cons_of_neg (by simp[h]),wP,if_neg h]
   rcases zr c t (k+1)with⟨h1,h2⟩ | ⟨j,y,h1,h2,h3⟩
   ·exact .inl ⟨h1,h2⟩
   ·exact .inr ⟨j+1,y,by simpa using h1,h2,by rw[h3]; congr 1; omega⟩
theorem zE (it:cg) (cv:Value) (c:ByteArray) (pb:Nat) (w:World) (hc:w.cell? ⟨pb,0,none⟩=some (.string c)):
  Calls Tryz.prog 85 #[rK cv it, .pointer (some ⟨pb,0,none⟩)] w fun e w'=>e= .returned (.bool (decide (it.name=c)))/\Below w.heap.size w w':=by
 have ha:=cF hc;simp only at ha;have hb: ¬pb=w.heap.size:=by omega
 unfold rK
 go_enter Tryz.func85,Tryz.ntmps85
 go_wp2_with fail;go_ret;refine⟨bW ?_,eK⟩;rw[dk];simp only[fp,jP,aL];exact⟨fun h=>kL h,fun h=>by rw[h]⟩
theorem yo (S:Nat->Prop) (l:List cg) (c:ByteArray) (pb:Nat) (v:Value) (w:World) (hv:ew S w v l) (hc:w.cell? ⟨pb,0,none⟩=some (.string c)):
  Calls Tryz.prog 84 #[v, .func (.func 85) #[] #[.pointer (some ⟨pb,0,none⟩)]] w fun e w'=>e= .returned (.int .i64 (wP c l 0))/\Below w.heap.size w w':=by
 obtain⟨a,cap,rfl,ho,hm,-⟩:=cP.shape hv kO.len;unfold maxLen at hm;have HV:=am hv;have HC:=am hc;clear hv hc
 go_enter Tryz.func84,Tryz.ntmps84
 go_wp2_with fail
 go_loopw [8] (fun i wr=> ∃k:Nat,k<=l.length/\i= .int .i64 k/\Below w.heap.size w wr/\wP c l 0=wP c (l.drop k) k) (fun i _=>l.length-(intOf i).toNat)
 case atStart=>exact⟨0,aW _,rfl,au _ _,rfl⟩
 case round=>
  obtain⟨k,hk,rfl,hb,hd⟩:=hrel;have HB:=am hb;have HD:=am hd;clear hb hd
  by_cases hl:k<l.length
  ·obtain⟨it,hr⟩: ∃it,l[k]? =some it:=⟨l[k],by simp[hl]⟩;obtain⟨b,o,ca,cc,rfl,-,-,hn,-,ha⟩:=lB HV.o HB.o hr;have q0:=ha 0 (by omega);have q1:=ha 1 (by omega);have q2:=ha 2 (by omega);have q3:=ha 3 (by omega);have q4:=ha 4 (by omega);have q5:=ha 5 (by omega);have q6:=ha 6 (by omega);have q7:=ha 7 (by omega);have q8:=ha 8 (by omega);have q9:=ha 9 (by omega)
   simp only[eW,ah,aj,cT]at q0 q1 q2 q3 q4 q5 q6 q7 q8 q9;have hj:=am ((HB.o.cell (p:=⟨pb,0,none⟩) (cF HC.o)).trans HC.o);have HR:=am hr;clear ha hr
   by_cases hg:it.name=c
   ·have he:=am hg;clear hg;go_wp2_with (go_at_call 85; refine(zE it (.slice ca it.chunks.length cc) c pb _ hj.o).mono ?_; rintro e w1 ⟨rfl,hf⟩; rw[cV he.o]; have hh:=am hf; clear hf);go_ret;exact⟨dA (by rw[HD.o,zq HR.o,if_pos he.o]),ar HB.o hh.o⟩
   ·have he:=am hg;clear hg;go_wp2_with (go_at_call 85; refine(zE it (.slice ca it.chunks.length cc) c pb _ hj.o).mono ?_; rintro e w1 ⟨rfl,hf⟩; rw[cD he.o]; have hh:=am hf; clear hf)
    go_roundw
    case rel=>exact⟨k+1,by omega,by go_num,ar HB.o hh.o,by rw[HD.o,zq HR.o,if_neg he.o]⟩
    case measure=>simp[intOf]; omega
  ·go_wp2_with fail;go_ret;exact⟨dA (by rw[HD.o,dN (by omega)]; rfl),HB.o⟩
end Go.Proofs.YtpffpjbkbaleiaaGreatDoor
namespace Go.Proofs.YtpffpjbkbaleiaaGreatDoor
open Go.RowKit
theorem Ck (a:Option Addr) (c:Nat) (w:World):(convert 29 9 (.slice a 0 c)).run Tryz.prog w= .ok (.string ⟨#[]⟩) w:=by cases a<;> kernel_rfl
theorem IP {S:Nat->Prop} {w:World} {v:Value} {bs:List UInt8} (hd:eH S w v bs):(convert 29 9 v).run Tryz.prog w= .ok (.string (strOfNums (bs.map fun b=>(b.toNat:Int)))) w:=by
 obtain⟨_,a,cap,rfl,hn,hm,h0⟩:=hd
 rcases h0 with h0 | ⟨b,o,rfl,_,hc⟩
 ·obtain rfl:=bp h0;exact Ck a cap w
 ·exact run_convert_bytes_arg (P:=Tryz.prog) w 29 5 df Tryz.underlying5 b o bs.length cap (bs.map fun b=>(b.toNat:Int)) (by simp) (fun i hi=>by
   rw[hc i (u8V bs[i]) (by simp[hi])];simp[u8V,List.getD,hi]) 9 dQ
open Go.RowKit Go.Maps
theorem kU (p q:ByteArray) (w:World) (he:nY w) (hv:dD (bl p)=true) (hq:q=⟨(cr (bl p)).toArray⟩):
  Calls Tryz.prog 72 #[.string p] w fun e w'=>e= .returned (.tuple #[.string q, .bool true])/\Below w.heap.size w w':=by
 rw[hq]; exact Fg p w he hv
theorem oh (q:ByteArray):q.toList.isEmpty=decide (bl q=[]):=by rw[fp,dk]; simp
theorem ry (S:Nat->Prop) (en:dl) (v:Value) (b:Bool) (w:World) (hd:eH S w v en.data) (hok:mN en) (henv:nY w) (h:ig en=b):Calls Tryz.prog 117 #[IW v en] w fun e w'=>e= .returned (.bool b)/\Below w.heap.size w w':=by
 rw[<-h]; exact FQ S en v w hd hok henv
theorem yS : ∀ {m pre:List dl} (r:List dl),Tr (pre++m)->oJ pre (m++r)=oJ (pre++m) r
 | [],pre,r,_=>by simp
 | e::m,pre,r,h=>by
  have h1:Tr (pre++[e]):=Tr.pre (M:=m) (by simpa using h);have h2:=(qo h1.pre e).2 h1;have h3:=yS (m:=m) (pre:=pre++[e]) r (by simpa using h);rw[aK,oJ,if_pos h2,h3];simp
theorem BX {L:List dl} (hl:L.length<=4096) {k:Nat} (h:Tr (L.take k)):iy L=oJ (L.take k) (L.drop k):=by
 have h1:=yS (m:=L.take k) (pre:=[]) (L.drop k) (by simpa using h);rw[du,aJ]at h1;unfold iy;rw[if_neg (by omega),h1]
theorem ze {α:Type} {L:List α} {k:Nat} {e:α} (h:L[k]? =some e):L.drop k=e::L.drop (k+1):=by
 obtain⟨h1,h2⟩:=aG.1 h;rw[cz h1,h2]
theorem ju {L:List dl} (hl:L.length<=4096) {k:Nat} (h:Tr (L.take k)) {e:dl} (he:L[k]? =some e) {x:Int} (hx:fS (L.take k) e=x) (h0:x≠0):iy L=x:=by
 rw[BX hl h,ze he,oJ,hx,if_neg h0]
theorem me {L:List dl} {k:Nat} (h:Tr (L.take k)) {e:dl} (he:L[k]? =some e) (hx:fS (L.take k) e=0):Tr (L.take (k+1)):=by
 rw[ci,he];exact(qo h e).1 hx
theorem vY {L:List dl} (hl:L.length<=4096) (h:Tr (L.take L.length)):iy L=0:=by
 rw[BX hl h,iT]; rfl
theorem yT {L:List dl} (hl:4096<L.length):iy L=2:=by unfold iy; rw[if_pos hl]
def wY (e:dl):Value×Value:=(.string e.path, .int .i64 e.kind)
theorem kT :Tryz.prog.underlying 47=some (.map 9 3):=Tryz.underlying47
theorem EX (w:World) (n:Nat) (hn:n<=4096):(Instr.makeMap 47 (some (.int .i64 (n:Int)))).run Tryz.prog w= .ok (.map (some w.heap.size)) (w.alloc (.map #[] 0)):=by
 have h1:IntKind.i64.wrap (n:Int)=n:=by rw[bE]; omega
 simp[Instr.makeMap,asInt,asIntOf]
theorem qX {w:World} {mb:Nat} {M:List dl} (h:ja Tryz.prog 9 w mb (M.map wY)) {p:ByteArray} (hp:p.size<=maxLen) {f:dl} (hf:kF M p=some f):
  (Instr.lookup 47 (.map (some mb)) (.string p) true).run Tryz.prog w= .ok (.tuple #[.int .i64 f.kind, .bool true]) w:=by
 obtain⟨h1,h2⟩:=rW hf;have h3:(Value.string p,Value.int .i64 f.kind)∈M.map wY:=aS.2 ⟨f,h1,by rw[<-h2]; rfl⟩;have:=h.is.hit gg kT (iA hp) h3 true
 simpa only[if_true]using this
theorem wZ {w:World} {mb:Nat} {M:List dl} (h:ja Tryz.prog 9 w mb (M.map wY)) {p:ByteArray} (hp:p.size<=maxLen) (hf:kF M p=none):
  (Instr.lookup 47 (.map (some mb)) (.string p) true).run Tryz.prog w= .ok (.tuple #[.int .i64 0, .bool false]) w:=by
 have hz:(zeroValue 3).run Tryz.prog w= .ok (.int .i64 0) w:=by kernel_rfl
 have:=h.is.miss gg kT hz (iA hp) (fun q hq e=>by
  obtain⟨x,hx,rfl⟩:=aS.1 hq;simp only[wY,ep]at e;exact wK hf x hx e) true
 simpa only[if_true]using this
theorem qY {M:List dl} {e:dl} (h:Tr (M++[e])): ∀q∈M.map wY,q.1≠Value.string e.path:=by
 intro q hq hc;obtain⟨x,hx,rfl⟩:=aS.1 hq;simp only[wY,ep]at hc;have hn:=h.ord.nodup;rw[aN,fc]at hn;exact hn.2.2 x.path (aS.2 ⟨x,hx,rfl⟩) e.path (by simp) hc
theorem yX (a b:ByteArray) (o:Int) (w:World) (ha:a.size<=maxLen) (h:fd (bl a) (bl b)=o):Calls Tryz.prog 118 #[.string a, .string b] w fun e w'=>e= .returned (.int .i64 o)/\Below w.heap.size w w':=by
 rw[<-h]; exact Ch a b w (by unfold maxLen at ha; omega)
theorem BK {L:List dl} {k:Nat} {f e:dl} (hf:L[k]? =some f):nz (L.take (k+1)) e=decide (fd (bl f.path) (bl e.path)<0):=by
 have:(L.take (k+1)).getLast? =some f:=by rw[ci,hf]; simp
 unfold nz;rw[this]; rfl
def OZ (L:List dl) (mb:Nat) (w:World) (k:Nat) (wr:World):Prop:=Tr (L.take k)/\ja Tryz.prog 9 wr mb ((L.take k).map wY)/\Below w.heap.size w wr
theorem IJ (S:Nat->Prop) (L:List dl) (v:Value) (w:World) (hv:eI S w v L) (henv:nY w):Calls Tryz.prog 71 #[v] w fun e w'=>e= .returned (.int .i64 (iy L))/\Below w.heap.size w w':=by
 have HV:=am hv;have HE:=am henv;obtain⟨a,cap,rfl,hc,hm,-⟩:=cP.shape hv nx.len;unfold maxLen at hm;obtain⟨n,hn⟩: ∃n,n=L.length:=⟨_,rfl⟩;have HN:=am hn;rw[<-hn]at hc HV ⊢;clear hv henv
 by_cases hT:4096<n
 ·have Hj:(4096:Int)<(n:Int):=by omega
  have HC:=am (yT (by rw[<-hn]; exact hT));clear hT hn
  go_enter Tryz.func71,Tryz.ntmps71
  go_wp2_with fail;go_ret;exact⟨dA (by rw[HC.o]),au _ _⟩
 ·have Hj:(n:Int)<=(4096:Int):=by omega
  have Ho:=EX w n (by omega);have hS:=am (show L.length<=4096 by omega);clear hT hn
  go_enter Tryz.func71,Tryz.ntmps71
  go_wp2_with fail;obtain⟨W0,h8⟩: ∃W0,W0=w.alloc (.map #[] 0):=⟨_,rfl⟩;rw[<-h8];have Hi:=am (show ja Tryz.prog 9 W0 w.heap.size [] by rw[h8]; exact ja.made w);have Hh:=am (show Below w.heap.size w W0 by rw[h8]; exact eK);clear h8;clear Ho
  go_loopw [18] (fun i wr=> ∃k:Nat,k<=n/\i= .int .i64 k/\OZ L w.heap.size w k wr) (fun i _=>n-(intOf i).toNat)
  case atStart=>exact⟨0,aW _,rfl,⟨fa,by simp,by simp⟩,Hi.o,Hh.o⟩
  case round=>
   obtain⟨k,hk,rfl,Hg,He,Hc⟩:=hrel;have hI:=am Hg;have hw:=am He;have hJ:=am Hc;clear Hg He Hc
   by_cases Hn:k<n
   ·obtain⟨e,he⟩: ∃e,L[k]? =some e:=⟨L[k]'(by rw[<-HN.o]; exact Hn),by simp⟩;obtain⟨b,o,dv,rfl,-,hb,hd,Hf,-,q0,q1,q2,q3,q4,q5⟩:=ki (HV.o.below hJ.o) he;have hp:=am he;have HD:=am hd;have hO:=am Hf;obtain⟨a1,cap1,rfl,Hp,Hk⟩:=hd.slice;unfold maxLen at Hk;clear he hd Hf
    cases hU:ig e
    ·have hB:=am hU;have hG:=am (show fS (L.take k) e=1 by unfold fS; rw[hU]; rfl);clear hU;go_wp2_with fail;obtain⟨W,hW⟩: ∃W,W=wr.alloc (.cells #[.string e.path, .int .i64 e.kind, .int .i64 e.mode, .int .i64 e.time, .slice a1 e.data.length cap1, .string e.link] 79):=⟨_,rfl⟩;rw[<-hW];have HX:=am (show W.heap[wr.heap.size]? =some (.cells #[.string e.path, .int .i64 e.kind, .int .i64 e.mode, .int .i64 e.time, .slice a1 e.data.length cap1, .string e.link] 79 (0,0)) by rw[hW]; exact dZ wr _)
     have hu:=am (show Below wr.heap.size wr W by rw[hW]; exact eK);have hM:=am (ar hJ.o hu.o);clear hW;refine(ry S e _ false _ (HD.o.below hu.o) hO.o (HE.o.below hM.o) hB.o).mono ?_;rintro e7 w7 ⟨rfl,hE⟩;have hg:=am (ar hM.o hE);clear hE;go_wp2_with fail;go_ret;exact⟨dA (by rw[ju hS.o hI.o hp.o (x:=1) hG.o (by decide)]),hg.o⟩
    ·have hB:=am hU;obtain⟨q,hq⟩: ∃q:ByteArray,q=⟨(cr (bl e.path)).toArray⟩:=⟨_,rfl⟩;have hY:=am (show bl q=cr (bl e.path) by rw[hq]; exact jD _);have HQ:=am hq;have hV:=am (show q.size<=maxLen by
      have h1:=fz (dm hU);have h2:=mp (dm hU);rw[bh,hY.o]; unfold maxLen; omega)
     clear hU hq
     rcases eO k with h9 | h9
     ·have e9:decide (0<k)=false:=by simp; omega
      have e8:(k:Int)<=0:=by omega
      have hZ:=am (show(ig e && nz (L.take k) e)=true by rw[h9,hB.o]; rfl);clear h9;go_wp2_with fail;obtain⟨W,hW⟩: ∃W,W=wr.alloc (.cells #[.string e.path, .int .i64 e.kind, .int .i64 e.mode, .int .i64 e.time, .slice a1 e.data.length cap1, .string e.link] 79):=⟨_,rfl⟩;rw[<-hW];have HX:=am (show W.heap[wr.heap.size]? =some (.cells #[.string e.path, .int .i64 e.kind, .int .i64 e.mode, .int .i64 e.time, .slice a1 e.data.length cap1, .string e.link] 79 (0,0)) by rw[hW]; exact dZ wr _)
      have hu:=am (show Below wr.heap.size wr W by rw[hW]; exact eK);have hM:=am (ar hJ.o hu.o);clear hW;refine(ry S e _ true _ (HD.o.below hu.o) hO.o (HE.o.below hM.o) hB.o).mono ?_;rintro e7 w7 ⟨rfl,hE⟩;have hP:=am ((hE.block wr.heap.size (lP HX.o)).trans HX.o);have hN:=am (hu.o.trans (hE.mono hu.o.size));obtain⟨c0,c1,c2,c3,c4,c5,_⟩:=aU hP.o
      clear hE;go_wp2_with fail;refine bF [some 11,none,some 2] (by kernel_rfl) (by kernel_rfl) (by kernel_rfl) ?_;simp only[dJ,aR,aX,bz,bQ];obtain⟨wd,hF⟩: ∃wd:World,wd=w7.drew:=⟨_,rfl⟩;rw[<-hF];have hL:=am (show Below wr.heap.size wr wd by rw[hF]; exact hN.o.trans ((au w7.heap.size w7).drew.mono hN.o.size))
      have hQ:=am (show wd.heap[wr.heap.size]? =some (.cells #[.string e.path, .int .i64 e.kind, .int .i64 e.mode, .int .i64 e.time, .slice a1 e.data.length cap1, .string e.link] 79 (0,0)) by rw[hF]; exact hP.o);clear hF c0 c1 c2 c3 c4 c5;obtain⟨c0,c1,c2,c3,c4,c5,_⟩:=aU hQ.o
      repeat (first | (refine bZ rfl ?_; simp only[Act.put,aa,ag,ab]) | (refine cK rfl (fun K hK=> ?_); go_simp; refine hK _ ?_; clear hK K))
      refine cJ ?_;refine vT rfl ?_;simp only[Act.put,aa,ag,ab]
      repeat (first | (refine bZ rfl ?_; simp only[Act.put,aa,ag,ab]) | (refine cK rfl (fun K hK=> ?_); go_simp; refine hK _ ?_; clear hK K))
      refine cJ ?_;clear c0 c1 c2 c3 c4 c5;have hl:=am hL.o;have ho:=am hQ.o;have hr:=am (ar hJ.o hL.o);obtain⟨c0,c1,c2,c3,c4,c5,_⟩:=aU ho.o;go_wp2_with fail
      by_cases h0:cr (bl e.path)=[]
      ·have e1:q.toList.isEmpty=true:=by rw[oh,hY.o,cV h0]
       have hH:=am (me hI.o hp.o (show fS (L.take k) e=0 by unfold fS; rw[if_pos hZ.o]; unfold mX; rw[if_pos h0]));clear h0;refine(kU e.path q _ (HE.o.below hr.o) (dm hB.o) HQ.o).mono ?_;rintro e9 w9 ⟨rfl,ha⟩;have hz:=am (hl.o.trans (ha.mono hl.o.size));have hg:=am (ar hr.o ha);have hC:=am ((ha.block wr.heap.size (lP ho.o)).trans ho.o)
       have hs:=am (hw.o.same (hz.o.block w.heap.size hw.o.lt));clear ha;obtain⟨c0,c1,c2,c3,c4,c5,_⟩:=aU hC.o;go_wp2_with (at_mapUpdate; go_must (refine kw gg rfl _ _ _ _ rfl kT w.heap.size _ hs.o rfl (.string e.path) (.int .i64 e.kind) rfl rfl (iA hO.o.pth) (qY (by have h1:=hH.o; rw[ci,hp.o]at h1; exact h1)) ?_); intro w10 hj hh)
       have hA:=am hj;have hy:=am hh;clear hj hh c0 c1 c2 c3 c4 c5;go_wp2_with fail
       go_roundw
       case rel=>
        refine⟨k+1,by omega,by go_num,hH.o, ?_, ?_⟩
        ·rw[ci,hp.o,aN]; exact hA.o
        ·exact hg.o.grown hy.o hg.o.size (fun k e=>by cases e; exact ak _)
       case measure=>simp[intOf]; omega
      ·have e1:q.toList.isEmpty=false:=by rw[oh,hY.o,cD h0]
       have hR:=am (show ∀x,(match kF (L.take k) q with | none=>(4:Int) | some f=>if f.kind=2 then 0 else 13)=x->fS (L.take k) e=x from fun x hx=>by unfold fS; rw[if_pos hZ.o]; unfold mX; rw[if_neg h0,<-HQ.o]; exact hx);clear h0
       cases hf:kF (L.take k) q with
       | none=>
        have HF:=am hf;have hG:=am (hR.o 4 (by rw[hf]));clear hf;refine(kU e.path q _ (HE.o.below hr.o) (dm hB.o) HQ.o).mono ?_;rintro e9 w9 ⟨rfl,ha⟩;have hz:=am (hl.o.trans (ha.mono hl.o.size));have hg:=am (ar hr.o ha);have hC:=am ((ha.block wr.heap.size (lP ho.o)).trans ho.o);have hs:=am (hw.o.same (hz.o.block w.heap.size hw.o.lt));clear ha
        obtain⟨c0,c1,c2,c3,c4,c5,_⟩:=aU hC.o;have h3:=wZ hs.o hV.o HF.o;go_wp2_with fail;go_ret;exact⟨dA (by rw[ju hS.o hI.o hp.o (x:=4) hG.o (by decide)]),hg.o⟩
       | some f=>
        have HF:=am hf
        by_cases hD:f.kind=2
        ·have e3:(f.kind != 2)=false:=by simp[hD]
         have hH:=am (me hI.o hp.o (hR.o 0 (by rw[hf]; simp only[if_pos hD])));clear hf hD;refine(kU e.path q _ (HE.o.below hr.o) (dm hB.o) HQ.o).mono ?_;rintro e9 w9 ⟨rfl,ha⟩;have hz:=am (hl.o.trans (ha.mono hl.o.size));have hg:=am (ar hr.o ha);have hC:=am ((ha.block wr.heap.size (lP ho.o)).trans ho.o);have hs:=am (hw.o.same (hz.o.block w.heap.size hw.o.lt))
         clear ha;obtain⟨c0,c1,c2,c3,c4,c5,_⟩:=aU hC.o;have h3:=qX hs.o hV.o HF.o;go_wp2_with (at_mapUpdate; go_must (refine kw gg rfl _ _ _ _ rfl kT w.heap.size _ hs.o rfl (.string e.path) (.int .i64 e.kind) rfl rfl (iA hO.o.pth) (qY (by have h1:=hH.o; rw[ci,hp.o]at h1; exact h1)) ?_); intro w10 hj hh);have hA:=am hj
         have hy:=am hh;clear hj hh c0 c1 c2 c3 c4 c5;go_wp2_with fail
         go_roundw
         case rel=>
          refine⟨k+1,by omega,by go_num,hH.o, ?_, ?_⟩
          ·rw[ci,hp.o,aN]; exact hA.o
          ·exact hg.o.grown hy.o hg.o.size (fun k e=>by cases e; exact ak _)
         case measure=>simp[intOf]; omega
        ·have e3:(f.kind != 2)=true:=by simp[hD]
         have hG:=am (hR.o 13 (by rw[hf]; simp only[if_neg hD]));clear hf hD;refine(kU e.path q _ (HE.o.below hr.o) (dm hB.o) HQ.o).mono ?_;rintro e9 w9 ⟨rfl,ha⟩;have hz:=am (hl.o.trans (ha.mono hl.o.size));have hg:=am (ar hr.o ha);have hC:=am ((ha.block wr.heap.size (lP ho.o)).trans ho.o);have hs:=am (hw.o.same (hz.o.block w.heap.size hw.o.lt))
         clear ha;obtain⟨c0,c1,c2,c3,c4,c5,_⟩:=aU hC.o;have h3:=qX hs.o hV.o HF.o;go_wp2_with fail;go_ret;exact⟨dA (by rw[ju hS.o hI.o hp.o (x:=13) hG.o (by decide)]),hg.o⟩
     ·obtain⟨j,rfl⟩: ∃j,k=j+1:=⟨k-1,by omega⟩;obtain⟨f,hf⟩: ∃f,L[j]? =some f:=⟨L[j]'(by rw[<-HN.o]; omega),by simp⟩;obtain⟨b',o',dv',Hd,-,-,-,h7,-,p0,-⟩:=ki (HV.o.below hJ.o) hf;simp only[aV,gx,and_true]at Hd;obtain⟨rfl,rfl⟩:=Hd;have Hb:=am h7.pth;obtain⟨c,hc⟩: ∃c,fd (bl f.path) (bl e.path)=c:=⟨_,rfl⟩
      have HC:=am hc;have e9:decide (0<j+1)=true:=by simp
      have Hq:j<n:=by omega
      have Hl:(j:Int)<(n:Int):=by omega
      have Hm:decide (j<n)=true:=by simp; omega
      have Hr:IntKind.i64.wrap (j:Int)=j:=by rw[bE]; omega
      have Ha:=am (show nz (L.take (j+1)) e=decide (c<0) by rw[BK hf,hc]);clear hf h7 hc h9
      by_cases h4:c<0
      ·have hZ:=am (show(ig e && nz (L.take (j+1)) e)=true by rw[hB.o,Ha.o,cV h4]; rfl);have e8:decide (0<=c)=false:=by simp; omega
       go_wp2_with fail;obtain⟨W,hW⟩: ∃W,W=wr.alloc (.cells #[.string e.path, .int .i64 e.kind, .int .i64 e.mode, .int .i64 e.time, .slice a1 e.data.length cap1, .string e.link] 79):=⟨_,rfl⟩;rw[<-hW];have HX:=am (show W.heap[wr.heap.size]? =some (.cells #[.string e.path, .int .i64 e.kind, .int .i64 e.mode, .int .i64 e.time, .slice a1 e.data.length cap1, .string e.link] 79 (0,0)) by rw[hW]; exact dZ wr _)
       have hu:=am (show Below wr.heap.size wr W by rw[hW]; exact eK);have hM:=am (ar hJ.o hu.o);clear hW;refine(ry S e _ true _ (HD.o.below hu.o) hO.o (HE.o.below hM.o) hB.o).mono ?_;rintro e7 w7 ⟨rfl,hE⟩;have hP:=am ((hE.block wr.heap.size (lP HX.o)).trans HX.o);have hN:=am (hu.o.trans (hE.mono hu.o.size));obtain⟨c0,c1,c2,c3,c4,c5,_⟩:=aU hP.o
       clear hE;go_wp2_with fail;refine bF [some 11,none,some 2] (by kernel_rfl) (by kernel_rfl) (by kernel_rfl) ?_;simp only[dJ,aR,aX,bz,bQ];obtain⟨wd,hF⟩: ∃wd:World,wd=w7.drew:=⟨_,rfl⟩;rw[<-hF];have hL:=am (show Below wr.heap.size wr wd by rw[hF]; exact hN.o.trans ((au w7.heap.size w7).drew.mono hN.o.size))
       have hQ:=am (show wd.heap[wr.heap.size]? =some (.cells #[.string e.path, .int .i64 e.kind, .int .i64 e.mode, .int .i64 e.time, .slice a1 e.data.length cap1, .string e.link] 79 (0,0)) by rw[hF]; exact hP.o);clear hF c0 c1 c2 c3 c4 c5;obtain⟨c0,c1,c2,c3,c4,c5,_⟩:=aU hQ.o;have y0:=(hL.o.cell (cF p0)).trans p0
       repeat (first | (refine bZ rfl ?_; simp only[Act.put,aa,ag,ab]) | (refine cK rfl (fun K hK=> ?_); go_simp; refine hK _ ?_; clear hK K))
       refine cJ ?_;refine ee rfl (fun K hK=> ?_);go_wp2_with (go_at_call 118; refine(yX f.path e.path c _ Hb.o HC.o).mono ?_; rintro e8' w8 ⟨rfl,hX⟩; have hl:=am (hL.o.trans (hX.mono hL.o.size)); have ho:=am ((hX.block wr.heap.size (lP hQ.o)).trans hQ.o); clear hX c0 c1 c2 c3 c4 c5 y0)
       repeat (first | (refine bZ rfl ?_; simp only[Act.put,aa,ag,ab]) | (refine cK rfl (fun K hK=> ?_); go_simp; refine hK _ ?_; clear hK K))
       refine cJ ?_;have hr:=am (ar hJ.o hl.o);obtain⟨c0,c1,c2,c3,c4,c5,_⟩:=aU ho.o;go_wp2_with fail
       by_cases h0:cr (bl e.path)=[]
       ·have e1:q.toList.isEmpty=true:=by rw[oh,hY.o,cV h0]
        have hH:=am (me hI.o hp.o (show fS (L.take (j+1)) e=0 by unfold fS; rw[if_pos hZ.o]; unfold mX; rw[if_pos h0]));clear h0;refine(kU e.path q _ (HE.o.below hr.o) (dm hB.o) HQ.o).mono ?_;rintro e9 w9 ⟨rfl,ha⟩;have hz:=am (hl.o.trans (ha.mono hl.o.size));have hg:=am (ar hr.o ha);have hC:=am ((ha.block wr.heap.size (lP ho.o)).trans ho.o)
        have hs:=am (hw.o.same (hz.o.block w.heap.size hw.o.lt));clear ha;obtain⟨c0,c1,c2,c3,c4,c5,_⟩:=aU hC.o;go_wp2_with (at_mapUpdate; go_must (refine kw gg rfl _ _ _ _ rfl kT w.heap.size _ hs.o rfl (.string e.path) (.int .i64 e.kind) rfl rfl (iA hO.o.pth) (qY (by have h1:=hH.o; rw[ci,hp.o]at h1; exact h1)) ?_); intro w10 hj hh)
        have hA:=am hj;have hy:=am hh;clear hj hh c0 c1 c2 c3 c4 c5;go_wp2_with fail
        go_roundw
        case rel=>
         refine⟨j+1+1,by omega,by go_num,hH.o, ?_, ?_⟩
         ·rw[ci,hp.o,aN]; exact hA.o
         ·exact hg.o.grown hy.o hg.o.size (fun k e=>by cases e; exact ak _)
        case measure=>simp[intOf]; omega
       ·have e1:q.toList.isEmpty=false:=by rw[oh,hY.o,cD h0]
        have hR:=am (show ∀x,(match kF (L.take (j+1)) q with | none=>(4:Int) | some g=>if g.kind=2 then 0 else 13)=x->fS (L.take (j+1)) e=x from fun x hx=>by unfold fS; rw[if_pos hZ.o]; unfold mX; rw[if_neg h0,<-HQ.o]; exact hx);clear h0
        cases hf:kF (L.take (j+1)) q with
        | none=>
         have HF:=am hf;have hG:=am (hR.o 4 (by rw[hf]));clear hf;refine(kU e.path q _ (HE.o.below hr.o) (dm hB.o) HQ.o).mono ?_;rintro e9 w9 ⟨rfl,ha⟩;have hz:=am (hl.o.trans (ha.mono hl.o.size));have hg:=am (ar hr.o ha);have hC:=am ((ha.block wr.heap.size (lP ho.o)).trans ho.o);have hs:=am (hw.o.same (hz.o.block w.heap.size hw.o.lt))
         clear ha;obtain⟨c0,c1,c2,c3,c4,c5,_⟩:=aU hC.o;have h3:=wZ hs.o hV.o HF.o;go_wp2_with fail;go_ret;exact⟨dA (by rw[ju hS.o hI.o hp.o (x:=4) hG.o (by decide)]),hg.o⟩
        | some g=>
         have HF:=am hf
         by_cases hD:g.kind=2
         ·have e3:(g.kind != 2)=false:=by simp[hD]
          have hH:=am (me hI.o hp.o (hR.o 0 (by rw[hf]; simp only[if_pos hD])));clear hf hD;refine(kU e.path q _ (HE.o.below hr.o) (dm hB.o) HQ.o).mono ?_;rintro e9 w9 ⟨rfl,ha⟩;have hz:=am (hl.o.trans (ha.mono hl.o.size));have hg:=am (ar hr.o ha);have hC:=am ((ha.block wr.heap.size (lP ho.o)).trans ho.o);have hs:=am (hw.o.same (hz.o.block w.heap.size hw.o.lt))
          clear ha;obtain⟨c0,c1,c2,c3,c4,c5,_⟩:=aU hC.o;have h3:=qX hs.o hV.o HF.o;go_wp2_with (at_mapUpdate; go_must (refine kw gg rfl _ _ _ _ rfl kT w.heap.size _ hs.o rfl (.string e.path) (.int .i64 e.kind) rfl rfl (iA hO.o.pth) (qY (by have h1:=hH.o; rw[ci,hp.o]at h1; exact h1)) ?_); intro w10 hj hh);have hA:=am hj
          have hy:=am hh;clear hj hh c0 c1 c2 c3 c4 c5;go_wp2_with fail
          go_roundw
          case rel=>
           refine⟨j+1+1,by omega,by go_num,hH.o, ?_, ?_⟩
           ·rw[ci,hp.o,aN]; exact hA.o
           ·exact hg.o.grown hy.o hg.o.size (fun k e=>by cases e; exact ak _)
          case measure=>simp[intOf]; omega
         ·have e3:(g.kind != 2)=true:=by simp[hD]
          have hG:=am (hR.o 13 (by rw[hf]; simp only[if_neg hD]));clear hf hD;refine(kU e.path q _ (HE.o.below hr.o) (dm hB.o) HQ.o).mono ?_;rintro e9 w9 ⟨rfl,ha⟩;have hz:=am (hl.o.trans (ha.mono hl.o.size));have hg:=am (ar hr.o ha);have hC:=am ((ha.block wr.heap.size (lP ho.o)).trans ho.o);have hs:=am (hw.o.same (hz.o.block w.heap.size hw.o.lt))
          clear ha;obtain⟨c0,c1,c2,c3,c4,c5,_⟩:=aU hC.o;have h3:=qX hs.o hV.o HF.o;go_wp2_with fail;go_ret;exact⟨dA (by rw[ju hS.o hI.o hp.o (x:=13) hG.o (by decide)]),hg.o⟩
      ·have hG:=am (show fS (L.take (j+1)) e=1 by unfold fS; rw[Ha.o,cD h4]; simp);have e8:decide (0<=c)=true:=by simp; omega
       have e7:0<=c:=by omega
       go_wp2_with fail;obtain⟨W,hW⟩: ∃W,W=wr.alloc (.cells #[.string e.path, .int .i64 e.kind, .int .i64 e.mode, .int .i64 e.time, .slice a1 e.data.length cap1, .string e.link] 79):=⟨_,rfl⟩;rw[<-hW];have HX:=am (show W.heap[wr.heap.size]? =some (.cells #[.string e.path, .int .i64 e.kind, .int .i64 e.mode, .int .i64 e.time, .slice a1 e.data.length cap1, .string e.link] 79 (0,0)) by rw[hW]; exact dZ wr _)
       have hu:=am (show Below wr.heap.size wr W by rw[hW]; exact eK);have hM:=am (ar hJ.o hu.o);clear hW;refine(ry S e _ true _ (HD.o.below hu.o) hO.o (HE.o.below hM.o) hB.o).mono ?_;rintro e7 w7 ⟨rfl,hE⟩;have hP:=am ((hE.block wr.heap.size (lP HX.o)).trans HX.o);have hN:=am (hu.o.trans (hE.mono hu.o.size));obtain⟨c0,c1,c2,c3,c4,c5,_⟩:=aU hP.o
       clear hE;go_wp2_with fail;refine bF [some 11,none,some 2] (by kernel_rfl) (by kernel_rfl) (by kernel_rfl) ?_;simp only[dJ,aR,aX,bz,bQ];obtain⟨wd,hF⟩: ∃wd:World,wd=w7.drew:=⟨_,rfl⟩;rw[<-hF];have hL:=am (show Below wr.heap.size wr wd by rw[hF]; exact hN.o.trans ((au w7.heap.size w7).drew.mono hN.o.size))
       have hQ:=am (show wd.heap[wr.heap.size]? =some (.cells #[.string e.path, .int .i64 e.kind, .int .i64 e.mode, .int .i64 e.time, .slice a1 e.data.length cap1, .string e.link] 79 (0,0)) by rw[hF]; exact hP.o);clear hF c0 c1 c2 c3 c4 c5;obtain⟨c0,c1,c2,c3,c4,c5,_⟩:=aU hQ.o;have y0:=(hL.o.cell (cF p0)).trans p0
       repeat (first | (refine bZ rfl ?_; simp only[Act.put,aa,ag,ab]) | (refine cK rfl (fun K hK=> ?_); go_simp; refine hK _ ?_; clear hK K))
       refine cJ ?_;refine ee rfl (fun K hK=> ?_);go_wp2_with (go_at_call 118; refine(yX f.path e.path c _ Hb.o HC.o).mono ?_; rintro e8' w8 ⟨rfl,hX⟩; have hl:=am (hL.o.trans (hX.mono hL.o.size)); clear hX c0 c1 c2 c3 c4 c5 y0)
       repeat (first | (refine bZ rfl ?_; simp only[Act.put,aa,ag,ab]) | (refine cK rfl (fun K hK=> ?_); go_simp; refine hK _ ?_; clear hK K))
       refine cJ ?_;have hg:=am (ar hJ.o hl.o);go_wp2_with fail;go_ret;exact⟨dA (by rw[ju hS.o hI.o hp.o (x:=1) hG.o (by decide)]),hg.o⟩
   ·have hD:k=n:=by omega
    subst hD;go_wp2_with fail;go_ret;exact⟨dA (by rw[vY hS.o (by rw[<-HN.o]; exact hI.o)]),hJ.o⟩
open Go Go.RowKit Go.Maps
def Cw (p:ByteArray×Int):Value×Value:=(.string p.1, .int .i64 p.2)
def kK (S:Nat->Prop) (w:World) (gv:Value) (gs:List (ByteArray×Int)):Prop:=
 (gv= .map none/\gs=[])\/ ∃b,gv= .map (some b)/\S b/\ja Tryz.prog 9 w b (gs.map Cw)
theorem kK.keep {S:Nat->Prop} {w w':World} {gv:Value} {gs:List (ByteArray×Int)} (h:kK S w gv gs) (hs: ∀k,S k->k<w.heap.size->w'.heap[k]? =w.heap[k]?):kK S w' gv gs:=by
 rcases h with h | ⟨b,h1,h0,h2⟩
 ·exact .inl h
 ·exact .inr ⟨b,h1,h0,h2.same (hs b h0 h2.lt)⟩
theorem Cx {S:Nat->Prop} {w:World} {gv:Value} {gs:List (ByteArray×Int)} (h:kK S w gv gs) {n:ByteArray} (hn:n.size<=maxLen):
  (Instr.lookup 47 gv (.string n) false).run Tryz.prog w= .ok (.int .i64 (mA gs n)) w:=by
 have hz:(zeroValue 3).run Tryz.prog w= .ok (.int .i64 0) w:=by kernel_rfl
 obtain⟨l,hl⟩:=iA hn
 rcases h with⟨rfl,rfl⟩ | ⟨b,rfl,_,h2⟩
 ·have:=Maps.look_nil false gg (t:=47) (e:=3) kT hz hl
  simpa [mA]using this
 ·unfold mA
  cases hf:gs.find? (fun p=>decide (p.1=n))with
  | none=>
   have:=h2.is.miss gg kT hz ⟨l,hl⟩ (fun q hq e=>by
    obtain⟨x,hx,rfl⟩:=aS.1 hq;simp only[Cw,ep]at e;have:=eM.1 hf x hx;simp[e]at this) false
   simpa using this
  | some p=>
   have h3:=dM hf;have h4:=jp hf;simp only[aL]at h4;have:=h2.is.hit gg kT ⟨l,hl⟩ (val:= .int .i64 p.2) (aS.2 ⟨p,h3,by rw[<-h4]; rfl⟩) false
   simpa using this
def nD (v:Value) (b:cZ):List Value:=[.string b.ref.name, .int .i64 b.ref.gen, .int .i64 b.ref.size,v]
abbrev mw :=Value×cZ
def jY (zs:List mw):List Value:=zs.flatMap fun z=>nD z.1 z.2
theorem uJ (zs:List mw) (z:mw):jY (zs++[z])=jY zs++nD z.1 z.2:=by simp[jY]
theorem tR {a:Option Addr} {n c:Nat} {b:cZ} : ∀u∈nD (.slice a n c) b,u.oneCell'=true:=by
 intro u hu;simp only[nD,aZ,dq,or_false]at hu
 rcases hu with rfl | rfl | rfl | rfl<;> rfl
theorem Tryz.appBlobs :kf Tryz.prog 49 53 4 56:=kf.mk' (z:= .agg #[.string ⟨#[]⟩, .int .i64 0, .int .i64 0, .slice none 0 0]) Tryz.underlying49 (by kernel_rfl) rfl (by decide) (by decide)
structure ii (w : World) (base : Nat) (v : Value) (zs : List mw) : Prop where
 row:w.ownsRow base 53 4 v zs.length (jY zs)
 dat: ∀z∈zs,w.ownsRow base 5 1 z.1 z.2.con.length (z.2.con.map aY)
def mV (k:dh) (c:fN) (gv:Value) (im kb:Nat) (v:Value):List Value:=eC k++fU c++[gv, .map (some im),v, .map (some kb)]
structure kz (w : World) (base bb : Nat) (k : dh) (c : fN) (gv : Value) (im kb : Nat) (v : Value) (bs : List cZ) : Prop where
 box:w.heap[bb]? =some (.cells (mV k c gv im kb v).toArray 122 (0,0))
 own: ∃zs:List mw,zs.map Prod.snd=bs/\ii w base v zs
 known:jC w kb (bs.map cZ.ref)
structure jh (base bb kb : Nat) (v v' : Value) (w w' : World) : Prop where
 below:Below base w w'
 same: ∀k,k<w.heap.size->k≠bb->k≠kb->v.ownBlock≠some k->w'.heap[k]? =w.heap[k]?
 place: ∀k,v'.ownBlock=some k->v.ownBlock=some k\/w.heap.size<=k
theorem jh.refl (base bb kb:Nat) (v:Value) (w:World):jh base bb kb v v w w:=⟨au _ _,fun _ _ _ _ _=>rfl,fun _ h=> .inl h⟩
theorem jh.trans {base bb kb:Nat} {v v1 v2:Value} {A B C:World} (h:jh base bb kb v v1 A B) (k:jh base bb kb v1 v2 B C):jh base bb kb v v2 A C:=by
 have hs:=h.below.size;refine⟨h.below.trans k.below,fun i h1 h2 ha h3=>(k.same i (by omega) h2 ha (fun e=> ?_)).trans (h.same i h1 h2 ha h3),fun i e=> ?_⟩
 ·rcases h.place i e with e2 | e2
  ·exact h3 e2
  ·omega
 ·rcases k.place i e with e2 | e2
  ·exact h.place i e2
  ·exact .inr (by omega)
theorem jh.ofBelow {base bb kb:Nat} {v:Value} {w w':World} (h:Below w.heap.size w w') (hb:base<=w.heap.size):jh base bb kb v v w w':=⟨h.mono hb,fun k h1 _ _ _=>h.block k h1,fun _ e=> .inl e⟩
theorem ii.below {w w':World} {base:Nat} {v:Value} {zs:List mw} (h:ii w base v zs) (hb:Below w.heap.size w w'):ii w' base v zs:=⟨cR h.row hb,fun z hz=>cR (h.dat z hz) hb⟩
theorem kz.below {w w':World} {base bb im kb:Nat} {k:dh} {c:fN} {gv v:Value} {bs:List cZ} (h:kz w base bb k c gv im kb v bs) (hb:Below w.heap.size w w'):kz w' base bb k c gv im kb v bs:=by
 obtain⟨zs,h1,h2⟩:=h.own;exact⟨(hb.block _ (aw h.box)).trans h.box,⟨zs,h1,h2.below hb⟩,h.known.same (hb.block _ h.known.map.lt)⟩
theorem kz.push {w w1 w2:World} {base bb im kb:Nat} {k:dh} {c:fN} {gv v v' dv:Value} {bs:List cZ} {zs:List mw} {b:cZ} (hz:zs.map Prod.snd=bs) (h:ii w base v zs) (hx:w.heap[bb]? =some (.cells (mV k c gv im kb v).toArray 122 (0,0))) (hs:jC w kb ((bs++[b]).map cZ.ref))
  (hb:Below w.heap.size w w1) (hn:w1.ownsRow base 5 1 dv b.con.length (b.con.map aY)) (hown:w2.ownsRow base 53 4 v' (zs.length+1) (jY zs++nD dv b)) (hg:w1.grownBy w2 v.ownBlock) (hpl: ∀k,v'.ownBlock=some k->v.ownBlock=some k\/w1.heap.size<=k) (hbe:base<=bb) (hbz:base<=w.heap.size):
  kz (w2.setCell ⟨bb,12,none⟩ v') base bb k c gv im kb v' (bs++[b])/\jh base bb kb v v' w (w2.setCell ⟨bb,12,none⟩ v'):=by
 have h1:=h.below hb;have he:=dX hb hx;have hp:=aw he;have hh:=hb.size;have hj:v.ownBlock≠some bb:=fun e=>by
  obtain⟨cs,hc⟩:=bI h1.row e;exact absurd (bU he hc) (by decide)
 have hf:v'.ownBlock≠some bb:=fun e=>by
  rcases hpl bb e with e | e
  ·exact hj e
  ·omega
 have hk:=(hg.block bb hp (fun e=>hj e.symm)).trans he;have ha: ∀(u:Value) (ds:List UInt8),w1.ownsRow base 5 1 u ds.length (ds.map aY)->(w2.setCell ⟨bb,12,none⟩ v').ownsRow base 5 1 u ds.length (ds.map aY):=by
  intro u ds hd;refine eP hd (fun i hi hu=> ?_);obtain⟨cs,hc⟩:=bI hd hu;rw[aC _ _ _ _ (show i≠bb from fun e=>absurd (bU (e▸hc) he) (by decide))];refine hg.block i hi (fun e=> ?_);obtain⟨cs2,hl⟩:=bI h1.row e.symm;exact absurd (bU hc hl) (by decide)
 have hm:kb<w1.heap.size:=aP hs.map.lt hh;have ho:(w2.setCell ⟨bb,12,none⟩ v').heap[kb]? =w.heap[kb]? :=by
  rw[aC _ _ _ _ (show kb≠bb from fun e=>hs.cells (by rw[e]; exact hx))];refine(hg.block kb hm (fun e=> ?_)).trans (hb.block kb hs.map.lt);obtain⟨cs,hc⟩:=bI h.row e.symm;exact hs.cells hc
 refine⟨⟨?_,⟨zs++[(dv,b)],by simp[hz], ?_,fun z hz=> ?_⟩,hs.same ho⟩,⟨?_,fun i hi e1 e2 e3=> ?_,fun i e=> ?_⟩⟩
 ·have:=jb (k:=12) hk v'
  simpa [mV,eC,fU]using this
 ·rw[an,bT,uJ];exact hown.kept (cG _ _ _ _) (.inr (fun e=>hf e))
 ·rcases aT.1 hz with hz | hz
  ·exact ha _ _ (h1.dat z hz)
  ·rw[aM]at hz;subst hz;exact ha _ _ hn
 ·exact((hb.mono hbz).grown hg (ay hbz hh) (fun i hi=>(h.row.lt i hi).1)).grown (cG w2 bb 12 v') (ay hbz (ay hh hg.size)) (fun i hi=>by cases hi; exact hbe)
 ·rw[aC _ _ _ _ (show i≠bb from e1)];exact(hg.block i (by omega) (fun e=>e3 e.symm)).trans (hb.block i hi)
 ·rcases hpl i e with e | e
  ·exact .inl e
  ·exact .inr (by omega)
end Go.Proofs.YtpffpjbkbaleiaaGreatDoor
