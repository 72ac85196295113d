/- Texts of this proof, one after the other: ItemF, NodA, Lib, FileA, FileB, LoadP, PartB, LookP, WalkA, WalkB, WalkC, Needs, NeedP, LoadA, LookA, FtC, FtD, FtE, FtP, FtQ, BldA. -/
import Derived.Test.YtpffpjbkbaleiaaGreatDoorCReturnsD
set_option maxRecDepth 100000
set_option maxHeartbeats 8000000
namespace Go.Proofs.YtpffpjbkbaleiaaGreatDoor
open Go.RowKit
theorem ny (S:Nat->Prop) (l:List cr) (v:Value) (b:Bool) (w:World) (hv:eD S w v l) (henv:og w) (h:jB l=b):Calls Tryz.prog 47 #[v] w fun e w'=>e= .returned (.bool b)/\Below w.heap.size w w':=by
 rw[<-h]; exact yH S l v w hv henv
theorem nU :eC ef:=⟨by decide,by decide,by decide⟩
theorem zy (S:Nat->Prop) (data:List UInt8) (v:Value) (w:World) (hv:bG S w v data) (henv:og w):Calls Tryz.prog 18 #[v] w (BE data w):=by
 obtain⟨_,a,cap,rfl,hn,hm,-⟩:=id hv;unfold maxLen at hm;have HV:=an hv;have HE:=an henv;clear hv henv
 by_cases hX:32768<data.length
 ·have HP:=an (wQ hX)
  go_enter Tryz.func18,Tryz.ntmps18
  go_wp2_with fail
  go_ret2
  exact⟨ay _ _,by rw[HP.o]; rfl⟩
 ·have hN:=an hX
  go_enter Tryz.func18,Tryz.ntmps18
  go_wp2_with fail;refine(yq S data _ w HV.o (by omega)).mono ?_;rintro e w1 ⟨rb,dv,rfl,HM,HS,HJ⟩;have hg:=an HS;have hM:=an HJ;clear HS HJ;go_wp2_with fail;refine(Gq rb dv data ⟨0,0,0⟩ 4096 _ hg.o (by omega)).mono ?_;rintro e w2 ⟨n,s1,Hu,rfl,h4,HL⟩;have y0:n<=4096:=by have:=AP data 4096 ⟨0,0,0⟩; rw[Hu]at this; exact this
  have Hy:=an Hu;have HT:=an (show vL w1 rb w2 dv (.slice none 0 0) data s1 []from⟨h4,⟨_,hg.o⟩,⟨[],bN _ _ _ _,rfl⟩,HL⟩);clear Hu h4 HL;go_wp2_with fail
  go_loopw [5,16] (fun v i wr=> ∃(k:Nat) (l:List cr) (s:RS),k<=n/\i= .int .i64 k/\l.length=k/\jh data s1 k=some (l,s)/\vL w1 rb wr dv v data s l) (fun _ i _=>n-(intOf i).toNat)
  case atStart=>exact⟨0,[],s1,aX _,rfl,rfl,rfl,HT.o⟩
  case round=>
   obtain⟨k,l,s,hk,rfl,HQ,HN,hA⟩:=hrel;have hR:=an HN;have he:=an hA;have hI:=an HQ;obtain⟨cells,hG,h7⟩:=hA.row;have hd:=an hG;have hy:=an h7;obtain⟨av,cv0,yc,y2,y1⟩:=aI hG;have Hn:=an hA.rd;subst yc;clear HN hA HQ hG h7
   by_cases yp:k<n
   ·go_wp2_with fail;refine(MM rb dv data s 64 _ Hn.o (by omega)).mono ?_;rintro e w3 ⟨nm,s2,HR,rfl,h1,h2⟩;have HF:=an HR;have Hh:=an (kr.start Hn.o h1 h2 #[.string ⟨nm.toArray⟩, .int .i64 0, .int .i64 0, .int .i64 0, .int .i64 0, .string ⟨#[]⟩, .slice none 0 0, .string ⟨#[]⟩, .int .i64 0, .int .i64 0]);clear HR h1 h2;go_wp2_with fail;refine(xL rb dv data s2 _ Hh.o.rd).mono ?_
    rintro e w4 ⟨kd,s3,hp,rfl,h1,h2⟩;have H0:=an hp;have h9:=an (Hh.o.call h1 h2);have ck:=h9.o.cell 1;have fk:=h9.o.free 1;simp only[ak,am,aj]at ck;clear hp h1 h2;go_wp2_with fail;obtain⟨kv,hq⟩: ∃ix:Int,ix=wrap64 (kd:Int):=⟨_,rfl⟩;rw[<-hq];have hz:=an hq;clear hq;obtain⟨w5,hs⟩: ∃wx:World,wx=w4.setCell ⟨w3.heap.size,1,none⟩ (.int .i64 kv):=⟨_,rfl⟩
    rw[<-hs];have m4:=h9.o.set 1 (.int .i64 kv);rw[<-hs]at m4;simp only[ag,ai,ah]at m4;have Hi:=an m4;clear m4 hs ck fk Hh h9;refine(xL rb dv data s3 _ Hi.o.rd).mono ?_;rintro e w6 ⟨md,s4,hp,rfl,h1,h2⟩;have H1:=an hp;have Ha:=an (Hi.o.call h1 h2);have ck:=Ha.o.cell 2;have fk:=Ha.o.free 2;simp only[ak,am,aj]at ck
    clear hp h1 h2;go_wp2_with fail;obtain⟨mv,hq⟩: ∃ix:Int,ix=wrap64 (md:Int):=⟨_,rfl⟩;rw[<-hq];have Hq:=an hq;clear hq;obtain⟨w7,hs⟩: ∃wx:World,wx=w6.setCell ⟨w3.heap.size,2,none⟩ (.int .i64 mv):=⟨_,rfl⟩;rw[<-hs];have m4:=Ha.o.set 2 (.int .i64 mv);rw[<-hs]at m4;simp only[ag,ai,ah]at m4;have Hj:=an m4
    clear m4 hs ck fk Hi Ha;refine(xL rb dv data s4 _ Hj.o.rd).mono ?_;rintro e w8 ⟨td,s5,hp,rfl,h1,h2⟩;have H2:=an hp;have Hb:=an (Hj.o.call h1 h2);have ck:=Hb.o.cell 3;have fk:=Hb.o.free 3;simp only[ak,am,aj]at ck;clear hp h1 h2
    go_upto_region 11 with(fail)
    obtain⟨tv,hq⟩: ∃ix:Int,ix=wrap64 (td:Int):=⟨_,rfl⟩;rw[<-hq];have Hr:=an hq;clear hq;obtain⟨w9,hs⟩: ∃wx:World,wx=w8.setCell ⟨w3.heap.size,3,none⟩ (.int .i64 tv):=⟨_,rfl⟩;rw[<-hs];have m4:=Hb.o.set 3 (.int .i64 tv);rw[<-hs]at m4;simp only[ag,ai,ah]at m4;have hl:=an m4;clear m4 hs ck fk Hj Hb
    have ck:=hl.o.cell 1;simp only[ak,am,aj]at ck;have HH:=an (wP HF.o H0.o H1.o H2.o);have H8:nm.length<=64:=by have:=Ib data 64 s; rw[HF.o]at this; exact this
    by_cases hC:kv=1
    ·have e1:(kv == 1)=true:=by simp[hC]
     have HX:=an (show ob kd=1 from hz.o.symm.trans hC);clear hC;go_wp2_with fail;refine(Gq rb dv data s5 963 _ hl.o.rd (by omega)).mono ?_;rintro e wa ⟨n2,s6,hp,rfl,h1,h2⟩;have hV:=an hp;have yv:n2<=963:=by have:=AP data 963 s5; rw[hp]at this; exact this
     have hf:=an (hl.o.call h1 h2);clear hp h1 h2 ck hl;go_wp2_with fail;obtain⟨wo,yn⟩: ∃wo:World,wo=wr:=⟨_,rfl⟩;subst yn
     go_loopw [39] (fun i wq=> ∃(j:Nat) (ch:List cX) (s7:RS) (cv:Value),j<=n2/\i= .int .i64 j/\ch.length=j/\jg data s6 j=(ch,s7)/\kr rb w3.heap.size wo wq dv data s7 #[.string ⟨nm.toArray⟩, .int .i64 kv, .int .i64 mv, .int .i64 tv, .int .i64 0, .string ⟨#[]⟩,cv, .string ⟨#[]⟩, .int .i64 0, .int .i64 0]/\wq.ownsRow (w3.heap.size+1) 26 3 cv ch.length (ch.flatMap ji)) (fun i _=>n2-(intOf i).toNat)
     case atStart=>exact⟨0,[],s6, .slice none 0 0,aX _,rfl,rfl,rfl,hf.o,bN _ _ _ _⟩
     case round=>
      obtain⟨j,ch,s7,cv,hj,rfl,HO,HK,h3,Hw⟩:=hrel;have HB:=an HO;have Hf:=an HK;have hw:=an h3;have Hc:=an Hw;obtain⟨a6,c6,H9,yb,ya⟩:=aI Hw;subst H9;clear HO HK h3 Hw
      by_cases H7:j<n2
      ·have ck:=hw.o.cell 6;have fk:=hw.o.free 6;simp only[ak,am,aj]at ck;go_wp2_with fail;refine ey (fun w'=>w'.cell? ⟨w3.heap.size,6,none⟩=some (.slice a6 ch.length c6)) (by kernel_rfl) (by kernel_rfl) ?_;simp only[bw,bz,aG,bo,Nat.reduceAdd,Nat.reduceSub]
       have Hk:=an (hw.o.below ((ay _ _).drew))
       iterate 3 (refine cF rfl (by kernel_rfl) (fun _ _ _ h=>h) rfl (by go_simp) (by intro w' yl; go_simp; rfl) ?_; simp only[Act.put,ag,ai,ah])
       refine cy 3 rfl (fun K hK=> ?_);go_wp2_with (go_at_call 62; refine(uZ rb dv data s7 _ Hk.o.rd).mono ?_; rintro e wb ⟨r,s8,hp,rfl,h1,h2,hr⟩; unfold fa);have H3:=an hp;have HI:=an hr;have ho:=an (Hk.o.call h1 h2);have Hm:=an (Hc.o.kept (ci (b:=wr.drew) ⟨rfl,rfl,rfl,au _,fun _ _ _=>rfl⟩ h2) (.inr (by
        intro e;have:=(Hc.o.lt _ e).1;have:=dp.lt hg.o;have:=he.o.grown.size;have:=hw.o.ge
        omega)))
       have ck2:=ho.o.cell 6;have HC:=an (ho.o.below ((ay _ _).alloc (au _) (.cells #[.string r.name, .int .i64 r.gen, .int .i64 r.size] 26)));have ck3:=HC.o.cell 6;have fk2:=ho.o.free 6;have Ht:w3.heap.size+1<=wb.heap.size:=(aP.1 ho.o.box).1;simp only[ak,am,aj]at ck2 ck3
       clear hp h1 h2 hr ck fk hw Hk;refine⟨ck2, ?_⟩;refine cy 4 rfl (fun K hK=> ?_);go_wp2_with fail
       (first | (refine⟨ck3, ?_⟩) | skip)
       refine cy 5 rfl (fun K hK=> ?_);go_wp2_with (at_builtin; go_must (refine bR Tryz.appRefs rfl _ _ rfl (w3.heap.size+1) (.slice a6 ch.length c6) ch.length (ch.flatMap ji) rfl wb [.string r.name, .int .i64 r.gen, .int .i64 r.size] _ rfl rfl (qH (r:=r)) Hm.o (by have:=HB.o; omega) Ht ?_); intro v' wc hb ha _ hu; obtain⟨ae,ce,rfl,-,-⟩:=aI hb)
       have Hl:=an (ho.o.app ha (fun k hk=>by have:=(Hm.o.lt k hk).1; omega));have HD:=an (show wc.ownsRow (w3.heap.size+1) 26 3 (.slice ae (ch.length+1) ce) (ch++[r]).length ((ch++[r]).flatMap ji) by rw[ar,bW]; simpa [ji]using hb);have ck4:=Hl.o.cell 6;have fk4:=Hl.o.free 6;simp only[ak,am,aj]at ck4
       clear hb ha hu ck2 ck3 fk2 HC ho Hm Hc;refine⟨ck4, ?_⟩;refine cF rfl (by kernel_rfl) (fun _ _ _ h=>h) rfl (by go_simp) (by intro w' yl; go_simp; rfl) ?_;simp only[Act.put,ag,ai,ah];refine cH (by kernel_rfl) ?_;refine eJ rfl rfl (fun K hK=> ?_);go_wp2_with fail
       go_roundw
       case rel=>
        have m4:=Hl.o.set 6 (.slice ae (ch.length+1) ce);simp only[ag,ai,ah]at m4;refine⟨j+1,ch++[r],s8, .slice ae (ch.length+1) ce,by omega,by go_num,by simp[HB.o],uE Hf.o H3.o,m4,HD.o.kept (cJ _ _ _ _) (.inr (by
         intro e;have:=(HD.o.lt _ e).1
         omega))⟩
       case measure=>simp[intOf]; omega
      ·obtain rfl:j=n2:=by omega
       have hB: ∀r∈ch,eC r:=by
        have:=yT data s6 j;rw[Hf.o]at this; exact this
       have Ho:=an (pT Hc.o hB);have ck:=hw.o.cell 6;simp only[ak,am,aj]at ck;clear hB;go_wp2_with fail;refine(uo _ _ ch _ Ho.o).mono ?_;rintro e wb ⟨rfl,Hs⟩;have ho:=an (hw.o.below Hs);have HG:=an (show dA (fun k=>w3.heap.size<k) wb (.slice a6 ch.length c6) ch from dA.same (cL.below Ho.o (by omega) Hs (fun _ _ _ h=>h)) (fun k hk hS=>⟨by have:=hS.1; omega,rfl⟩))
       have ck4:=ho.o.cell 4;have fk4:=ho.o.free 4;simp only[ak,am,aj]at ck4;obtain⟨tw,Hx⟩: ∃tw:Int,tw=mY ch:=⟨_,rfl⟩;rw[<-Hx];have H4:=an Hx;clear Hs ck Hx Ho
       go_upto_region 23 with(fail)
       obtain⟨wd,Hd⟩: ∃wx:World,wx=wb.setCell ⟨w3.heap.size,4,none⟩ (.int .i64 tw):=⟨_,rfl⟩;rw[<-Hd];have m4:=ho.o.set 4 (.int .i64 tw);rw[<-Hd]at m4;simp only[ag,ai,ah]at m4;have hc:=an m4;have hQ:=an (show mZ data s=some (⟨⟨nm.toArray⟩,ob kd,ob md,ob td,tw,⟨#[]⟩,ch,ef⟩,s7) by rw[HH.o,wN HX.o hV.o Hf.o,H4.o])
       have hU:=an (show ii ⟨⟨nm.toArray⟩,kv,mv,tv,tw,⟨#[]⟩,ch,ef⟩from⟨by show ByteArray.size ⟨_⟩<=_; unfold maxLen; simp[ByteArray.size]; omega,by show ByteArray.size ⟨_⟩<=_; unfold maxLen; simp[ByteArray.size],nU⟩);have hO:=an (show dA (wo.heap.size<= ·) wd (.slice a6 ch.length c6) ch from dA.same HG.o (fun k hk hS=>⟨by have:=hw.o.ge; show wo.heap.size<=k; omega,by rw[Hd]; exact aF _ _ _ _ (by show k≠w3.heap.size; omega)⟩))
       clear m4 Hd ck4 fk4 ho hw HG;have d0:=hc.o.cell 0;have d1:=hc.o.cell 1;have d2:=hc.o.cell 2;have d3:=hc.o.cell 3;have d4:=hc.o.cell 4;have d5:=hc.o.cell 5;have d6:=hc.o.cell 6;have d7:=hc.o.cell 7;have d8:=hc.o.cell 8;have d9:=hc.o.cell 9;simp only[ak,am,aj]at d0 d1 d2 d3 d4 d5 d6 d7 d8 d9
       have hT:=an (hd.o.kept hc.o.grown (.inr (by
        intro e;have:=(hd.o.lt _ e).1;have:=dp.lt hg.o
        omega)))
       have hY:w1.heap.size<=wd.heap.size:=aB he.o.grown.size hc.o.grown.size;have hW:=an (show mZ data s=some (⟨⟨nm.toArray⟩,kv,mv,tv,tw,⟨#[]⟩,ch,ef⟩,s7) by rw[hQ.o,hz.o,Hq.o,Hr.o]; rfl);have hZ:l.length<4096:=by have:=hI.o; omega
       go_wp2_with (at_builtin; go_must (refine bR Tryz.appItems rfl _ _ rfl w1.heap.size (.slice av l.length cv0) l.length cells rfl wd [.string ⟨nm.toArray⟩, .int .i64 kv, .int .i64 mv, .int .i64 tv, .int .i64 (tw), .string ⟨#[]⟩, .slice a6 ch.length c6, .string ⟨#[]⟩, .int .i64 0, .int .i64 0] _ rfl rfl (kH (it:=⟨⟨nm.toArray⟩,kv,mv,tv,tw,⟨#[]⟩,ch,ef⟩)) hT.o (by omega) hY ?_); intro v' we hb ha _ hu; have hP:=an (he.o.added (it:=⟨⟨nm.toArray⟩,kv,mv,tv,tw,⟨#[]⟩,ch,ef⟩) hc.o hO.o hU.o hy.o hd.o hb ha hu); obtain⟨ae,ce,rfl,-,-⟩:=aI hb; clear hb ha hu)
       go_roundw
       case rel=>exact⟨k+1,l++[⟨⟨nm.toArray⟩,kv,mv,tv,tw,⟨#[]⟩,ch,ef⟩],s7,by omega,by go_num,by simp[hI.o],mJ hR.o hW.o,hP.o⟩
       case measure=>simp[intOf]; omega
    ·have e1:(kv == 1)=false:=by simp[hC]
     by_cases hF:kv=2
     ·have e2:(kv == 2)=true:=by simp[hF]
      have HY:=an (show ob kd=2 from hz.o.symm.trans hF);clear hC hF;go_wp2_with fail;refine(uZ rb dv data s5 _ hl.o.rd).mono ?_;rintro e wa ⟨r,s6,hp,rfl,h1,h2,hr⟩;have hV:=an hp;have HI:=an hr;have hf:=an (hl.o.call h1 h2);have c7:=hf.o.cell 7;have c8:=hf.o.cell 8;have c9:=hf.o.cell 9;have f7:=hf.o.free 7;have f8:=hf.o.free 8;have f9:=hf.o.free 9
      simp only[ak,am,aj]at c7 c8 c9;unfold fa;clear hp h1 h2 hr ck
      go_upto_region 23 with(fail)
      obtain⟨wb,hH⟩: ∃wx:World,wx=((wa.setCell ⟨w3.heap.size,7,none⟩ (.string r.name)).setCell ⟨w3.heap.size,8,none⟩ (.int .i64 r.gen)).setCell ⟨w3.heap.size,9,none⟩ (.int .i64 r.size):=⟨_,rfl⟩;rw[<-hH];have m4:=((hf.o.set 7 (.string r.name)).set 8 (.int .i64 r.gen)).set 9 (.int .i64 r.size);rw[<-hH]at m4;simp only[ag,ai,ah]at m4
      have hc:=an m4;have hQ:=an (HH.o.trans (zt HY.o hV.o));have hU:=an (show ii ⟨⟨nm.toArray⟩,kv,mv,tv,0,⟨#[]⟩,[],r⟩from⟨by show ByteArray.size ⟨_⟩<=_; unfold maxLen; simp[ByteArray.size]; omega,by show ByteArray.size ⟨_⟩<=_; unfold maxLen; simp[ByteArray.size],HI.o⟩);have hO:=an (show dA (wr.heap.size<= ·) wb (.slice none 0 0) []from cL.nil);clear m4 hH c7 c8 c9 f7 f8 f9 hf hl
      have d0:=hc.o.cell 0;have d1:=hc.o.cell 1;have d2:=hc.o.cell 2;have d3:=hc.o.cell 3;have d4:=hc.o.cell 4;have d5:=hc.o.cell 5;have d6:=hc.o.cell 6;have d7:=hc.o.cell 7;have d8:=hc.o.cell 8;have d9:=hc.o.cell 9;simp only[ak,am,aj]at d0 d1 d2 d3 d4 d5 d6 d7 d8 d9;have hT:=an (hd.o.kept hc.o.grown (.inr (by
       intro e;have:=(hd.o.lt _ e).1;have:=dp.lt hg.o
       omega)))
      have hY:w1.heap.size<=wb.heap.size:=aB he.o.grown.size hc.o.grown.size;have hW:=an (show mZ data s=some (⟨⟨nm.toArray⟩,kv,mv,tv,0,⟨#[]⟩,[],r⟩,s6) by rw[hQ.o,hz.o,Hq.o,Hr.o]; rfl);have hZ:l.length<4096:=by have:=hI.o; omega
      go_wp2_with (at_builtin; go_must (refine bR Tryz.appItems rfl _ _ rfl w1.heap.size (.slice av l.length cv0) l.length cells rfl wb [.string ⟨nm.toArray⟩, .int .i64 kv, .int .i64 mv, .int .i64 tv, .int .i64 (0), .string ⟨#[]⟩, .slice none 0 0, .string r.name, .int .i64 r.gen, .int .i64 r.size] _ rfl rfl (kH (it:=⟨⟨nm.toArray⟩,kv,mv,tv,0,⟨#[]⟩,[],r⟩)) hT.o (by omega) hY ?_); intro v' we hb ha _ hu; have hP:=an (he.o.added (it:=⟨⟨nm.toArray⟩,kv,mv,tv,0,⟨#[]⟩,[],r⟩) hc.o hO.o hU.o hy.o hd.o hb ha hu); obtain⟨ae,ce,rfl,-,-⟩:=aI hb; clear hb ha hu)
      go_roundw
      case rel=>exact⟨k+1,l++[⟨⟨nm.toArray⟩,kv,mv,tv,0,⟨#[]⟩,[],r⟩],s6,by omega,by go_num,by simp[hI.o],mJ hR.o hW.o,hP.o⟩
      case measure=>simp[intOf]; omega
     ·have e2:(kv == 2)=false:=by simp[hF]
      by_cases hL:kv=3
      ·have e3:(kv == 3)=true:=by simp[hL]
       have HZ:=an (show ob kd=3 from hz.o.symm.trans hL);clear hC hF hL;go_wp2_with fail;refine(MM rb dv data s5 512 _ hl.o.rd (by omega)).mono ?_;rintro e wa ⟨lk,s6,hp,rfl,h1,h2⟩;have hV:=an hp;have H6:lk.length<=512:=by have:=Ib data 512 s5; rw[hp]at this; exact this
       have hf:=an (hl.o.call h1 h2);have c7:=hf.o.cell 5;have f7:=hf.o.free 5;simp only[ak,am,aj]at c7;clear hp h1 h2 ck
       go_upto_region 23 with(fail)
       obtain⟨wb,hH⟩: ∃wx:World,wx=wa.setCell ⟨w3.heap.size,5,none⟩ (.string ⟨lk.toArray⟩):=⟨_,rfl⟩;rw[<-hH];have m4:=hf.o.set 5 (.string ⟨lk.toArray⟩);rw[<-hH]at m4;simp only[ag,ai,ah]at m4;have hc:=an m4;have hQ:=an (HH.o.trans (wO HZ.o hV.o));have hU:=an (show ii ⟨⟨nm.toArray⟩,kv,mv,tv,0,⟨lk.toArray⟩,[],ef⟩from⟨by show ByteArray.size ⟨_⟩<=_; unfold maxLen; simp[ByteArray.size]; omega,by show ByteArray.size ⟨_⟩<=_; unfold maxLen; simp[ByteArray.size]; omega,nU⟩)
       have hO:=an (show dA (wr.heap.size<= ·) wb (.slice none 0 0) []from cL.nil);clear m4 hH c7 f7 hf hl;have d0:=hc.o.cell 0;have d1:=hc.o.cell 1;have d2:=hc.o.cell 2;have d3:=hc.o.cell 3;have d4:=hc.o.cell 4;have d5:=hc.o.cell 5;have d6:=hc.o.cell 6;have d7:=hc.o.cell 7;have d8:=hc.o.cell 8;have d9:=hc.o.cell 9;simp only[ak,am,aj]at d0 d1 d2 d3 d4 d5 d6 d7 d8 d9
       have hT:=an (hd.o.kept hc.o.grown (.inr (by
        intro e;have:=(hd.o.lt _ e).1;have:=dp.lt hg.o
        omega)))
       have hY:w1.heap.size<=wb.heap.size:=aB he.o.grown.size hc.o.grown.size;have hW:=an (show mZ data s=some (⟨⟨nm.toArray⟩,kv,mv,tv,0,⟨lk.toArray⟩,[],ef⟩,s6) by rw[hQ.o,hz.o,Hq.o,Hr.o]; rfl);have hZ:l.length<4096:=by have:=hI.o; omega
       go_wp2_with (at_builtin; go_must (refine bR Tryz.appItems rfl _ _ rfl w1.heap.size (.slice av l.length cv0) l.length cells rfl wb [.string ⟨nm.toArray⟩, .int .i64 kv, .int .i64 mv, .int .i64 tv, .int .i64 (0), .string ⟨lk.toArray⟩, .slice none 0 0, .string ⟨#[]⟩, .int .i64 0, .int .i64 0] _ rfl rfl (kH (it:=⟨⟨nm.toArray⟩,kv,mv,tv,0,⟨lk.toArray⟩,[],ef⟩)) hT.o (by omega) hY ?_); intro v' we hb ha _ hu; have hP:=an (he.o.added (it:=⟨⟨nm.toArray⟩,kv,mv,tv,0,⟨lk.toArray⟩,[],ef⟩) hc.o hO.o hU.o hy.o hd.o hb ha hu); obtain⟨ae,ce,rfl,-,-⟩:=aI hb; clear hb ha hu)
       go_roundw
       case rel=>exact⟨k+1,l++[⟨⟨nm.toArray⟩,kv,mv,tv,0,⟨lk.toArray⟩,[],ef⟩],s6,by omega,by go_num,by simp[hI.o],mJ hR.o hW.o,hP.o⟩
       case measure=>simp[intOf]; omega
      ·have e3:(kv == 3)=false:=by simp[hL]
       have hE:=an (uR hN.o Hy.o (CF (uP hR.o (HH.o.trans (EK (fun e=>hC (hz.o.trans e)) (fun e=>hF (hz.o.trans e)) (fun e=>hL (hz.o.trans e))))) n (by omega)));clear hC hF hL;go_wp2_with fail
       go_ret2
       have H5:Below w.heap.size w w9:=hM.o.trans ((gY.of_grown (S:=fun k=>k=rb) (ci he.o.grown hl.o.grown) (fun k hk=>by cases hk; rfl)).below hM.o.size (fun k hk=>by subst hk; exact HM));exact⟨H5,by rw[hE.o]; rfl⟩
   ·obtain rfl:k=n:=by omega
    have Hg:=an (qy hN.o Hy.o hR.o);have HU:=an (show eD (w.heap.size<= ·) wr (.slice av l.length cv0) l from by
     have y3:=hM.o.size;refine⟨cells,(cG hd.o).weak (fun k hk=>by have:=hk.1; omega),hy.o.mono (fun c x _ hx=>hx.same (fun k hk hS=>⟨by have:=hS.1; omega,rfl⟩))⟩)
    have h8:=an (show Below w.heap.size w wr from hM.o.trans ((gY.of_grown (S:=fun k=>k=rb) he.o.grown (fun k hk=>by cases hk; rfl)).below hM.o.size (fun k hk=>by subst hk; exact HM)));go_wp2_with fail;refine(NH rb dv data s _ Hn.o).mono ?_;rintro e we ⟨rfl,nd,rfl⟩;obtain⟨ev,Hv⟩: ∃ev:Int,ev=tV data s:=⟨_,rfl⟩;rw[<-Hv];have HA:=an Hv;clear Hv
    by_cases h0:ev=0
    ·subst h0;have hD:=an (show eD (w.heap.size<= ·) (wr.drewN nd) (.slice av l.length cv0) l from eD.below HU.o (fO (ay _ _) nd));have Hz:=an (HE.o.below (fO h8.o nd))
     cases hh:jB l
     ·have hE:=an (show iR data=none by rw[Hg.o,hh]; simp);have Hp:=an hh;clear hh;go_wp2_with fail;refine(ny _ l _ false _ hD.o Hz.o Hp.o).mono ?_;rintro e wf ⟨rfl,hJ⟩;have He:=an (aw (fO h8.o nd) hJ);clear hJ;go_wp2_with fail
      go_ret2
      exact⟨He.o,by rw[hE.o]; rfl⟩
     ·have hE:=an (show iR data=some l by rw[Hg.o,hh]; simp[HA.o.symm]);have Hp:=an hh;clear hh;go_wp2_with fail;refine(ny _ l _ true _ hD.o Hz.o Hp.o).mono ?_;rintro e wf ⟨rfl,hJ⟩;have He:=an (aw (fO h8.o nd) hJ);have HW:=an (eD.below hD.o hJ);clear hJ;go_wp2_with fail
      go_ret2
      exact⟨He.o,by rw[hE.o]; exact⟨_,rfl,HW.o⟩⟩
    ·have hE:=an (show iR data=none by rw[Hg.o,if_neg (fun h=>h0 (HA.o.trans h.1))]);have e6:(ev != 0)=true:=by simp[h0]
     clear h0;go_wp2_with fail
     go_ret2
     exact⟨fO h8.o nd,by rw[hE.o]; rfl⟩
open Go Go.RowKit
def kG (l:List cr) (k:Nat):List UInt8:=bE l.length++(l.take k).flatMap gp
theorem AY {l:List cr} {k:Nat} {it:cr} (h:l[k]? =some it):kG l (k+1)=kG l k++gp it:=by
 unfold kG;rw[bZ,h,bW,<-bp]; simp
theorem Cn (l:List cr):kG l l.length=fY l:=by unfold kG fY; rw[dg]
theorem wy (l:List cr) (k:Nat):(kG l k).length<=(fY l).length:=by
 have:(l.flatMap gp).length=((l.take k).flatMap gp).length+((l.drop k).flatMap gp).length:=by
  rw[<-ar,<-bW,dx]
 unfold kG fY;rw[ar,ar];omega
def vM (l:List cr) (w:World) (e:Ending) (w':World):Prop:=Below w.heap.size w w'/\
 if jB l=true then(if(fY l).length<=32768 then ∃v,e= .returned (.tuple #[v, .int .i64 0])/\lA w' w.heap.size v (fY l)else e= .returned (.tuple #[.slice none 0 0, .int .i64 2]))
 else e= .returned (.tuple #[.slice none 0 0, .int .i64 1])
theorem CZ (S:Nat->Prop) (l:List cr) (v:Value) (w:World) (hv:eD S w v l) (henv:og w) (hsm:(fY l).length<1000000000000) (htm: ∀it∈l,it.time<9223372036854775808):Calls Tryz.prog 15 #[v] w (vM l w):=by
 obtain⟨a,cap,rfl,hc,hm,-⟩:=cL.shape hv lr.len;unfold maxLen at hm;obtain⟨n,hn⟩: ∃n,n=l.length:=⟨_,rfl⟩;rw[<-hn]at hv hc ⊢;have HV:=an hv;have HE:=an henv;have HN:=an hn;have hZ:=an hsm;have HP:=an htm;clear hv henv hn hsm htm
 by_cases hx:jB l=true
 ·have hC:=an hx;have hG:=an (nF hx);clear hx;have yn:n<=4096:=by rw[HN.o]; exact hG.o.1
  go_enter Tryz.func15,Tryz.ntmps15
  go_wp2_with fail;refine(ny S l _ true w HV.o HE.o hC.o).mono ?_;rintro e w1 ⟨rfl,hJ⟩;have hN:=an hJ;clear hJ;go_wp2_with fail;refine(yr w1).mono ?_;rintro e w2 ⟨rfl,Hb,Hk⟩;obtain⟨wb,Hd⟩: ∃wb,wb=w1.heap.size:=⟨_,rfl⟩;rw[<-Hd]at Hb ⊢;have Hz:=an (aw hN.o Hk);have HT:=an Hb;have hs:=an (show w.heap.size<=wb by rw[Hd]; exact hN.o.size)
  clear Hb Hk Hd;go_wp2_with fail;refine(xR wb n [] w2 HT.o (by simp) (by omega)).mono ?_;rintro e w3 ⟨rfl,Hc,Hn⟩;rw[aL]at Hc;have HU:=an Hc;have HC:=an (Hz.o.trans (Hn.1.mono hs.o));clear Hc Hn;go_wp2_with fail
  go_loopw [21] (fun i wr=> ∃k:Nat,k<=n/\i= .int .i64 (k:Int)/\sA wr wb (kG l k)/\Below w.heap.size w wr) (fun i _=>n-(intOf i).toNat)
  case atStart=>exact⟨0,aX _,rfl,by have:=HU.o; rw[HN.o]at this; simpa [kG]using this,HC.o⟩
  case round=>
   obtain⟨k,hk,rfl,hw,hb⟩:=hrel;have HW:=an hw;have HB:=an hb;clear hw hb
   by_cases H6:k<n
   ·obtain⟨it,hr⟩: ∃it,l[k]? =some it:=⟨l[k]'(by rw[<-HN.o]; exact H6),by simp⟩;obtain⟨b,o,ca,cc,rfl,Hs,Ht,HY,-,hL⟩:=mL HV.o (ay _ _) hr;have hu: ∀j,j<10->wr.cell? ⟨b,o+k*10+j,none⟩=(fh (.slice ca it.chunks.length cc) it)[j]? :=fun j hj=>(HB.o.cell (p:=⟨b,o+k*10+j,none⟩) HY).trans (hL j hj)
    have HR:=an hr;have HO:=an Hs;have hX:=an Ht;have HQ:=an (hG.o.2 it (aS hr));have q0:=hu 0 (by omega);have q1:=hu 1 (by omega);have q2:=hu 2 (by omega);have q3:=hu 3 (by omega);have q4:=hu 4 (by omega);have q5:=hu 5 (by omega);have q6:=hu 6 (by omega);have q7:=hu 7 (by omega);have q8:=hu 8 (by omega);have q9:=hu 9 (by omega);simp only[fh,aj,am,de]at q0 q1 q2 q3 q4 q5 q6 q7 q8 q9
    have hF:=HQ.o;unfold gO at hF;rw[aJ]at hF;have hh:=pg.1 hF.1;have hT:=an (nA hF.2);have h0:=an hF.2;have htm:=HP.o it (aS hr);obtain⟨kd,Hp⟩: ∃kd,kd=it.kind.toNat:=⟨_,rfl⟩;obtain⟨md,Hq⟩: ∃md,md=it.mode.toNat:=⟨_,rfl⟩;obtain⟨td,Hu⟩: ∃td,td=it.time.toNat:=⟨_,rfl⟩;have H2:=hh.md0;have hE:=hh.md1
    have ya:=hh.tm0;have Hr:=sJ hh.val hh.nos;have h8:it.kind=(kd:Int):=by rcases hT.o with h | h | h<;> omega
    have hP:it.mode=(md:Int):=by omega
    have Hv:it.time=(td:Int):=by omega
    have H4:kd<=3:=by rcases hT.o with h | h | h<;> omega
    have H8:md<=511:=by omega
    have yb:td<9223372036854775808:=by omega
    have hz:=an (aD Hp (aD Hq Hu));have H9:it.name.size=(bl it.name).length:=bi _;have yp:IntKind.u64.wrap (kd:Int)=(kd:Int):=by rw[cT]; omega
    have yv:IntKind.u64.wrap (md:Int)=(md:Int):=by rw[cT]; omega
    have y0:IntKind.u64.wrap (td:Int)=(td:Int):=by rw[cT]; omega
    rw[h8]at q1;rw[hP]at q2;rw[Hv]at q3;have hU:=an (show kd=1\/kd=2\/kd=3 by rcases hT.o with h | h | h<;> omega);have hA:=an h8;clear hr Hs Ht hu hL hF hh htm Hp Hq Hu H2 hE ya h8 hP Hv;have l1:=wy l k;have l2:=hZ.o;have l3:=iE (n:=it.name.size) (by omega);have l4:=iE (n:=kd) (by omega);have l5:=iE (n:=md) (by omega)
    have l6:=iE (n:=td) (by omega);have hy:=an (show(kG l k).length<1000000000000/\(bE it.name.size).length<=10/\(bE kd).length<=10/\(bE md).length<=10/\(bE td).length<=10/\(bl it.name).length<=64/\it.name.size<=64 from⟨by omega,l3,l4,l5,l6,Hr,by omega⟩);clear l1 l2 l3 l4 l5 l6 Hr H9;have yc:wb<wr.heap.size:=by obtain⟨_,h,_⟩:=HW.o; exact az h
    have HA:=an ((ay wr.heap.size wr).alloc (au _) (.cells #[.string it.name, .int .i64 (kd:Int), .int .i64 (md:Int), .int .i64 (td:Int), .int .i64 it.size, .string it.link, .slice ca it.chunks.length cc, .string it.node.name, .int .i64 it.node.gen, .int .i64 it.node.size] 28));have ha:=an (dY wr (.cells #[.string it.name, .int .i64 (kd:Int), .int .i64 (md:Int), .int .i64 (td:Int), .int .i64 it.size, .string it.link, .slice ca it.chunks.length cc, .string it.node.name, .int .i64 it.node.gen, .int .i64 it.node.size] 28))
    have hf:=an (HW.o.below HA.o);have he:=an (HB.o.trans (HA.o.mono HB.o.size));go_wp2_with fail;clear q0 q1 q2 q3 q4 q5 q6 q7 q8 q9;refine(Ap wb it.name _ _ hf.o (by have:=hy.o; omega) (by have:=hy.o; omega)).mono ?_;rintro e wx ⟨rfl,hp,hd⟩;have ho:=an ((hd.2 _ (by decide) (by decide) _ _ ha.o).trans ha.o);have hl:=an hp;have hg:=an (he.o.trans (hd.1.mono hs.o))
    clear hp hd ha hf he;have ha:=ho;have hf:=hl;have he:=hg;clear ho hl hg;obtain⟨c0,c1,c2,c3,_⟩:=aT ha.o;have c5:=aA (k:=5) ha.o;have c6:=aA (k:=6) ha.o;have c7:=aA (k:=7) ha.o;have c8:=aA (k:=8) ha.o;have c9:=aA (k:=9) ha.o;simp only[ak,am,aj]at c5 c6 c7 c8 c9
    go_wp2_with fail;clear c0 c1 c2 c3 c5 c6 c7 c8 c9;refine(lz wb kd _ _ hf.o (by have:=hy.o; simp only[ar]; omega) (by omega)).mono ?_;rintro e wx ⟨rfl,hp,hd⟩;have ho:=an ((hd.2 _ (by decide) (by decide) _ _ ha.o).trans ha.o);have hl:=an hp;have hg:=an (he.o.trans (hd.1.mono hs.o));clear hp hd ha hf he;have ha:=ho;have hf:=hl;have he:=hg
    clear ho hl hg;obtain⟨c0,c1,c2,c3,_⟩:=aT ha.o;have c5:=aA (k:=5) ha.o;have c6:=aA (k:=6) ha.o;have c7:=aA (k:=7) ha.o;have c8:=aA (k:=8) ha.o;have c9:=aA (k:=9) ha.o;simp only[ak,am,aj]at c5 c6 c7 c8 c9;go_wp2_with fail;clear c0 c1 c2 c3 c5 c6 c7 c8 c9;refine(lz wb md _ _ hf.o (by have:=hy.o; simp only[ar]; omega) (by omega)).mono ?_
    rintro e wx ⟨rfl,hp,hd⟩;have ho:=an ((hd.2 _ (by decide) (by decide) _ _ ha.o).trans ha.o);have hl:=an hp;have hg:=an (he.o.trans (hd.1.mono hs.o));clear hp hd ha hf he;have ha:=ho;have hf:=hl;have he:=hg;clear ho hl hg;obtain⟨c0,c1,c2,c3,_⟩:=aT ha.o;have c5:=aA (k:=5) ha.o;have c6:=aA (k:=6) ha.o;have c7:=aA (k:=7) ha.o
    have c8:=aA (k:=8) ha.o;have c9:=aA (k:=9) ha.o;simp only[ak,am,aj]at c5 c6 c7 c8 c9;go_wp2_with fail;clear c0 c1 c2 c3 c5 c6 c7 c8 c9;have hW:=an (AY HR.o);have HI:=an (show(kG l (k+1)).length<1000000000000 by have h1:=wy l (k+1); have h2:=hZ.o; omega)
    rcases hU.o with h | h | h
    ·subst h;have hB:=lw (by rw[hA.o]; rfl) h0.o;have hH:=an hB.2.2.1;obtain⟨_,_,Hm,H1,H0,-⟩:=cL.shape hX.o oJ.len;simp only[cS]at Hm;obtain⟨rfl,-,rfl⟩:=Hm;obtain⟨n2,hQ⟩: ∃n2,n2=it.chunks.length:=⟨_,rfl⟩;have Hg:=an hQ;unfold maxLen at H0;rw[<-hQ]at ha hX H1;have h9:n2<9223372036854775808:=by omega
     have hI:=an (show gp it=bE it.name.size++(bl it.name++(bE 1++(bE md++(bE td++(bE n2++it.chunks.flatMap fw))))) by
      unfold gp lj;rw[if_pos (by rw[hA.o]; rfl),<-hz.o.1,<-hz.o.2.1,<-hz.o.2.2,<-hQ])
     clear hQ hB;refine(lz wb td _ _ hf.o (by have:=hy.o; simp only[ar]; omega) (by omega)).mono ?_;rintro e wx ⟨rfl,hp,hd⟩;have ho:=an ((hd.2 _ (by decide) (by decide) _ _ ha.o).trans ha.o);have hl:=an hp;have hg:=an (he.o.trans (hd.1.mono hs.o));clear hp hd ha hf he;have ha:=ho;have hf:=hl;have he:=hg;clear ho hl hg;obtain⟨c0,c1,c2,c3,_⟩:=aT ha.o
     have c5:=aA (k:=5) ha.o;have c6:=aA (k:=6) ha.o;have c7:=aA (k:=7) ha.o;have c8:=aA (k:=8) ha.o;have c9:=aA (k:=9) ha.o;simp only[ak,am,aj]at c5 c6 c7 c8 c9;go_wp2_with fail;clear c0 c1 c2 c3 c5 c6 c7 c8 c9;refine(xR wb n2 _ _ hf.o (by have:=hy.o; simp only[ar]; omega) h9).mono ?_
     rintro e wx ⟨rfl,hp,hd⟩;have ho:=an ((hd.2 _ (by decide) (by decide) _ _ ha.o).trans ha.o);have hl:=an hp;have hg:=an (he.o.trans (hd.1.mono hs.o));clear hp hd ha hf he;have ha:=ho;have hf:=hl;have he:=hg;clear ho hl hg;obtain⟨c0,c1,c2,c3,_⟩:=aT ha.o;have c5:=aA (k:=5) ha.o;have c6:=aA (k:=6) ha.o;have c7:=aA (k:=7) ha.o
     have c8:=aA (k:=8) ha.o;have c9:=aA (k:=9) ha.o;simp only[ak,am,aj]at c5 c6 c7 c8 c9;go_wp2_with fail;clear c0 c1 c2 c3 c5 c6 c7 c8 c9;obtain⟨D,Hj,Hi⟩: ∃D,sA wx wb D/\D++it.chunks.flatMap fw=kG l (k+1):=⟨_,hf.o,by rw[hW.o,hI.o]; simp[List.append_assoc]⟩;have HG:=an Hj
     have Hf:=an Hi;clear Hj Hi
     go_loopw [56] (fun j w6=> ∃m:Nat,m<=n2/\j= .int .i64 (m:Int)/\sA w6 wb (D++(it.chunks.take m).flatMap fw)/\Below w.heap.size w w6) (fun j _=>n2-(intOf j).toNat)
     case atStart=>exact⟨0,aX _,rfl,by simpa using HG.o,he.o⟩
     case round=>
      obtain⟨m,yl,rfl,Hx,Hl⟩:=hrel;have Hh:=an Hx;have hO:=an Hl;clear Hx Hl
      by_cases H5:m<n2
      ·obtain⟨r,hR⟩: ∃r,it.chunks[m]? =some r:=⟨it.chunks[m]'(by rw[<-Hg.o]; exact H5),by simp⟩;have HK:=an hR;have HS:=an ((hH.o r (aS hR)).1);obtain⟨b2,o2,rfl,-,p0,p1,p2⟩:=oE hX.o hO.o hR;have HH:=an (show(D++(it.chunks.take m).flatMap fw).length<1098000000000 by
        have h1:=congrArg List.length Hf.o;have h2:=HI.o;have h3:(it.chunks.flatMap fw).length=((it.chunks.take m).flatMap fw).length+((it.chunks.drop m).flatMap fw).length:=by
         rw[<-ar,<-bW,dx]
        rw[ar]at h1 ⊢
        omega)
       clear hR;have He:=an ((ay wr.heap.size wr).alloc (au _) (.cells #[.string r.name, .int .i64 r.gen, .int .i64 r.size] 26));have HM:=an (show(it.chunks.take (m+1)).flatMap fw=(it.chunks.take m).flatMap fw++fw r by
        rw[bZ,HK.o,bW]; simp)
       have HL:=an (tL wb r _ _ (Hh.o.below He.o) HH.o HS.o);have HD:=an (hO.o.trans (He.o.mono hO.o.size));go_wp2_with fail;refine HL.o.mono ?_;rintro e w8 ⟨rfl,Hy,Ho⟩;have HX:=an Hy;have HF:=an (HD.o.trans (Ho.1.mono hs.o));clear Hy Ho p0 p1 p2;go_wp2_with fail
       go_roundw
       case rel=>
        refine⟨m+1,by omega,by go_num, ?_,HF.o⟩;rw[HM.o,<-bp];exact HX.o
       case measure=>simp[intOf]; omega
      ·have H7:m=n2:=by omega
       subst H7;have h4:=an (show sA _ wb (kG l (k+1)) by have:=Hh.o; rw[Hg.o,dg,Hf.o]at this; exact this);go_wp2_with fail
       go_roundw
       case rel=>exact⟨k+1,by omega,by go_num,h4.o,hO.o⟩
       case measure=>simp[intOf]; omega
    ·subst h;have hB:=qn (by rw[hA.o]; rfl) h0.o;have hH:=an hB.2.2.2;have hI:=an (show gp it=bE it.name.size++(bl it.name++(bE 2++(bE md++(bE td++fw it.node)))) by
      unfold gp lj;rw[if_neg (by rw[hA.o]; decide),if_pos (by rw[hA.o]; rfl),<-hz.o.1,<-hz.o.2.1,<-hz.o.2.2])
     clear hB;refine(lz wb td _ _ hf.o (by have:=hy.o; simp only[ar]; omega) (by omega)).mono ?_;rintro e wx ⟨rfl,hp,hd⟩;have ho:=an ((hd.2 _ (by decide) (by decide) _ _ ha.o).trans ha.o);have hl:=an hp;have hg:=an (he.o.trans (hd.1.mono hs.o));clear hp hd ha hf he;have ha:=ho;have hf:=hl;have he:=hg;clear ho hl hg;obtain⟨c0,c1,c2,c3,_⟩:=aT ha.o
     have c5:=aA (k:=5) ha.o;have c6:=aA (k:=6) ha.o;have c7:=aA (k:=7) ha.o;have c8:=aA (k:=8) ha.o;have c9:=aA (k:=9) ha.o;simp only[ak,am,aj]at c5 c6 c7 c8 c9;go_wp2_with fail;clear c0 c1 c2 c3 c5 c6 c7 c8 c9;refine(tL wb it.node _ _ hf.o (by have:=hy.o; simp only[ar]; omega) hH.o).mono ?_
     rintro e wx ⟨rfl,hp,hd⟩;have ho:=an ((hd.2 _ (by decide) (by decide) _ _ ha.o).trans ha.o);have hl:=an hp;have hg:=an (he.o.trans (hd.1.mono hs.o));clear hp hd ha hf he;have ha:=ho;have hf:=hl;have he:=hg;clear ho hl hg;obtain⟨c0,c1,c2,c3,_⟩:=aT ha.o;have c5:=aA (k:=5) ha.o;have c6:=aA (k:=6) ha.o;have c7:=aA (k:=7) ha.o
     have c8:=aA (k:=8) ha.o;have c9:=aA (k:=9) ha.o;simp only[ak,am,aj]at c5 c6 c7 c8 c9;go_wp2_with fail;clear c0 c1 c2 c3 c5 c6 c7 c8 c9
     go_roundw
     case rel=>
      refine⟨k+1,by omega,by go_num, ?_,he.o⟩;rw[hW.o,hI.o]
      simpa [List.append_assoc]using hf.o
     case measure=>simp[intOf]; omega
    ·subst h;have hB:=qX (by rw[hA.o]; rfl) h0.o;have hH:=an hB.2.2.2.2.1;have hI:=an (show gp it=bE it.name.size++(bl it.name++(bE 3++(bE md++(bE td++(bE it.link.size++bl it.link))))) by
      unfold gp lj;rw[if_neg (by rw[hA.o]; decide),if_neg (by rw[hA.o]; decide),<-hz.o.1,<-hz.o.2.1,<-hz.o.2.2])
     clear hB;refine(lz wb td _ _ hf.o (by have:=hy.o; simp only[ar]; omega) (by omega)).mono ?_;rintro e wx ⟨rfl,hp,hd⟩;have ho:=an ((hd.2 _ (by decide) (by decide) _ _ ha.o).trans ha.o);have hl:=an hp;have hg:=an (he.o.trans (hd.1.mono hs.o));clear hp hd ha hf he;have ha:=ho;have hf:=hl;have he:=hg;clear ho hl hg;obtain⟨c0,c1,c2,c3,_⟩:=aT ha.o
     have c5:=aA (k:=5) ha.o;have c6:=aA (k:=6) ha.o;have c7:=aA (k:=7) ha.o;have c8:=aA (k:=8) ha.o;have c9:=aA (k:=9) ha.o;simp only[ak,am,aj]at c5 c6 c7 c8 c9;go_wp2_with fail;clear c0 c1 c2 c3 c5 c6 c7 c8 c9;refine(Ap wb it.link _ _ hf.o (by have:=hy.o; simp only[ar]; omega) (by have:=hH.o; omega)).mono ?_
     rintro e wx ⟨rfl,hp,hd⟩;have ho:=an ((hd.2 _ (by decide) (by decide) _ _ ha.o).trans ha.o);have hl:=an hp;have hg:=an (he.o.trans (hd.1.mono hs.o));clear hp hd ha hf he;have ha:=ho;have hf:=hl;have he:=hg;clear ho hl hg;obtain⟨c0,c1,c2,c3,_⟩:=aT ha.o;have c5:=aA (k:=5) ha.o;have c6:=aA (k:=6) ha.o;have c7:=aA (k:=7) ha.o
     have c8:=aA (k:=8) ha.o;have c9:=aA (k:=9) ha.o;simp only[ak,am,aj]at c5 c6 c7 c8 c9;go_wp2_with fail;clear c0 c1 c2 c3 c5 c6 c7 c8 c9
     go_roundw
     case rel=>
      refine⟨k+1,by omega,by go_num, ?_,he.o⟩;rw[hW.o,hI.o]
      simpa [List.append_assoc]using hf.o
     case measure=>simp[intOf]; omega
   ·have H3:k=n:=by omega
    subst H3;have h4:=an (show sA wr wb (fY l) by have:=HW.o; rw[HN.o,Cn]at this; exact this);go_wp2_with fail;refine(Ks wb (fY l) wr h4.o (by have:=hZ.o; omega)).mono ?_;rintro e w9 ⟨h7,hM⟩;obtain⟨m,hE⟩: ∃m,m=(fY l).length:=⟨_,rfl⟩;rw[<-hE]at hM;have hV:=an hE;have hS:=an (HB.o.trans (h7.mono HB.o.size));have HZ:=HB.o.size
    by_cases hD:m<=1048576
    ·rw[if_pos hD]at hM;obtain⟨v9,rfl,Ha⟩:=hM;obtain⟨a9,c9,Hw,-,-⟩:=aI Ha;rw[<-hE]at Hw;subst Hw;have HJ:=an (fT Ha HZ);clear hE Ha h7
     by_cases hq:m<=32768
     ·have hP:(m:Int)<=32768:=by omega
      go_wp2_with fail
      go_ret2
      refine⟨hS.o, ?_⟩;rw[if_pos hC.o,<-hV.o,if_pos hq];exact⟨_,rfl,HJ.o⟩
     ·have hP:(32768:Int)<(m:Int):=by omega
      have hY:=an hq;clear hq;go_wp2_with fail
      go_ret2
      refine⟨hS.o, ?_⟩;rw[if_pos hC.o,<-hV.o,if_neg hY.o]
      rfl
    ·rw[if_neg hD]at hM;subst hM;have hY:=an (show ¬m<=32768 by omega);clear hE h7 hD;go_wp2_with fail
     go_ret2
     refine⟨hS.o, ?_⟩;rw[if_pos hC.o,<-hV.o,if_neg hY.o]
     rfl
 ·have hC:=an (show jB l=false by simpa using hx);clear hx
  go_enter Tryz.func15,Tryz.ntmps15
  go_wp2_with fail;refine(ny S l _ false w HV.o HE.o hC.o).mono ?_;rintro e w1 ⟨rfl,hJ⟩;have hN:=an hJ;clear hJ;go_wp2_with fail
  go_ret2
  refine⟨hN.o, ?_⟩;rw[hC.o]
  rfl
end Go.Proofs.YtpffpjbkbaleiaaGreatDoor
namespace Go.Proofs.YtpffpjbkbaleiaaGreatDoor
open Go.RowKit Go.Maps
def eY (S:Nat->Prop) (w:World):List (Value×Value)->List (ByteArray×List UInt8)->Prop
 | [],[]=>True
 | (k,v)::m,(n,bs)::cs=>k= .string n/\bG S w v bs/\eY S w m cs
 | _,_=>False
theorem eY.mono {S:Nat->Prop} {w w':World} : ∀ {m:List (Value×Value)} {cs:List (ByteArray×List UInt8)},eY S w m cs->(∀v bs,bG S w v bs->bG S w' v bs)->eY S w' m cs
 | [],[],_,_=>trivial
 | [],_::_,h,_=>h
 | _::_,[],h,_=>h
 | (_,_)::_,(_,_)::_,h,hm=>⟨h.1,hm _ _ h.2.1,eY.mono h.2.2 hm⟩
def gB :List (ByteArray×List UInt8)->ByteArray->Option (List UInt8)
 | [],_=>none
 | (k,bs)::cs,n=>if k=n then some bs else gB cs n
theorem eY.hit {S:Nat->Prop} {w:World} {n:ByteArray} {bs:List UInt8} : ∀ {m:List (Value×Value)} {cs:List (ByteArray×List UInt8)},eY S w m cs->gB cs n=some bs-> ∃v,(Value.string n,v)∈m/\bG S w v bs
 | [],[],_,hf=>by simp[gB]at hf
 | [],_::_,h,_=>False.elim h
 | _::_,[],h,_=>False.elim h
 | (k,v)::m,(n',bs')::cs,h,hf=>by
  simp only[gB]at hf
  split at hf
  ·rename_i e;simp only[br]at hf;subst hf e;exact⟨v,by rw[h.1]; simp,h.2.1⟩
  ·obtain⟨v',h1,h2⟩:=eY.hit h.2.2 hf;exact⟨v',by simp[h1],h2⟩
theorem eY.miss {S:Nat->Prop} {w:World} {n:ByteArray} : ∀ {m:List (Value×Value)} {cs:List (ByteArray×List UInt8)},eY S w m cs->gB cs n=none-> ∀p∈m,p.1≠Value.string n
 | [],[],_,_,_,hp=>by simp at hp
 | [],_::_,h,_,_,_=>False.elim h
 | _::_,[],h,_,_,_=>False.elim h
 | (k,v)::m,(n',bs')::cs,h,hf,p,hp=>by
  simp only[gB]at hf
  split at hf
  ·simp at hf
  ·rename_i e
   rcases bh.1 hp with rfl | hp
   ·intro e2;have:=h.1.symm.trans e2;simp only[eq]at this;exact e this
   ·exact eY.miss h.2.2 hf p hp
def fU (S:Nat->Prop) (w:World) (cv:Value) (cs:List (ByteArray×List UInt8)):Prop:=
 (cv= .map none/\cs=[])\/ ∃b m,cv= .map (some b)/\S b/\jN Tryz.prog 9 w b m/\eY S w m cs
theorem fU.below {S:Nat->Prop} {w w':World} {cv:Value} {cs:List (ByteArray×List UInt8)} (h:fU S w cv cs) (hb:Below w.heap.size w w'):fU S w' cv cs:=by
 rcases h with h | ⟨b,m,h1,h0,h2,h3⟩
 ·exact .inl h
 ·exact .inr ⟨b,m,h1,h0,h2.same (hb.block b h2.lt),h3.mono (fun v bs hv=>cE.below hv (by omega) hb)⟩
theorem ua :Keyed Tryz.prog 9:=string_keyed dR
theorem tZ {n:ByteArray} (h:n.size<=maxLen): ∃l,keyOf Tryz.prog 9 (.string n)=some l:=⟨.string n.data.toList,by simp[keyOf,mapKey,Tryz.underlying9,h]⟩
theorem fU.hitL {S:Nat->Prop} {w:World} {cv:Value} {cs:List (ByteArray×List UInt8)} (h:fU S w cv cs) {n:ByteArray} {bs:List UInt8} (hn:n.size<=maxLen) (hf:gB cs n=some bs):
  ∃v,(Instr.lookup 133 cv (.string n) true).run Tryz.prog w= .ok (.tuple #[v, .bool true]) w/\bG S w v bs:=by
 rcases h with⟨_,rfl⟩ | ⟨b,m,rfl,_,h2,h3⟩
 ·simp[gB]at hf
 ·obtain⟨v,hv,hb⟩:=h3.hit hf;exact⟨v,h2.hit ua (t:=133) (e:=29) (by kernel_rfl) (tZ hn) hv true,hb⟩
theorem fU.missL {S:Nat->Prop} {w:World} {cv:Value} {cs:List (ByteArray×List UInt8)} (h:fU S w cv cs) {n:ByteArray} (hn:n.size<=maxLen) (hf:gB cs n=none):
  (Instr.lookup 133 cv (.string n) true).run Tryz.prog w= .ok (.tuple #[.slice none 0 0, .bool false]) w:=by
 obtain⟨l,hl⟩:=tZ hn
 rcases h with⟨rfl,_⟩ | ⟨b,m,rfl,_,h2,h3⟩
 ·exact Maps.look_nil true ua (t:=133) (e:=29) (by kernel_rfl) (by kernel_rfl) hl
 ·exact h2.miss ua (t:=133) (e:=29) (by kernel_rfl) (by kernel_rfl) (tZ hn) (h3.miss hf) true
def jG (cs:List (ByteArray×List UInt8)) (r:cX):Except Int (List UInt8):=match gB cs r.name with
 | none=> .error 10
 | some bs=>if(bs.length:Int)=r.size then .ok bs else .error 9
def jy (cs:List (ByteArray×List UInt8)) (r:cX):Except Int (List cr):=match jG cs r with
 | .error e=> .error e
 | .ok bs=>match iR bs with
  | none=> .error 9
  | some l=> .ok l
def BB (cs:List (ByteArray×List UInt8)) (r:cX) (S:Nat->Prop) (w:World) (e:Ending) (w':World):Prop:=Below w.heap.size w w'/\match jG cs r with
 | .error x=>e= .returned (.tuple #[.slice none 0 0, .int .i64 x])/\x≠0
 | .ok bs=> ∃v,e= .returned (.tuple #[v, .int .i64 0])/\bG S w' v bs
theorem yU (S:Nat->Prop) (cv:Value) (cs:List (ByteArray×List UInt8)) (r:cX) (w:World) (hc:fU S w cv cs) (hr:eC r):Calls Tryz.prog 129 #[cv,fa r] w (BB cs r S w):=by
 have ha:=hr.nm;have HC:=an (hc.below ((ay _ _).alloc (au _) (.cells #[.string r.name, .int .i64 r.gen, .int .i64 r.size] 26)));have HB:=an ((ay w.heap.size w).alloc (au _) (.cells #[.string r.name, .int .i64 r.gen, .int .i64 r.size] 26));unfold fa;clear hc hr
 cases hf:gB cs r.name with
 | none=>
  have hb:=HC.o.missL ha hf;have HF:=an (show jG cs r= .error 10 by unfold jG; rw[hf]);clear hf ha
  go_enter Tryz.func129,Tryz.ntmps129
  go_wp2_with fail
  go_ret2
  exact⟨HB.o,by rw[HF.o]; exact⟨rfl,by decide⟩⟩
 | some bs=>
  obtain⟨v,hb,hv⟩:=HC.o.hitL ha hf;have HV:=an hv;obtain⟨_,a,cap,rfl,hn,hm,-⟩:=hv;unfold maxLen at hm
  by_cases hl:(bs.length:Int)=r.size
  ·have HF:=an (show jG cs r= .ok bs by unfold jG; rw[hf]; simp only[if_pos hl]);have e1:((bs.length:Int) != r.size)=false:=by simp[hl]
   clear hf ha hl
   go_enter Tryz.func129,Tryz.ntmps129
   go_wp2_with fail
   go_ret2
   exact⟨HB.o,by rw[HF.o]; exact⟨_,rfl,HV.o⟩⟩
  ·have HF:=an (show jG cs r= .error 9 by unfold jG; rw[hf]; simp only[if_neg hl]);have e1:((bs.length:Int) != r.size)=true:=by simp[hl]
   clear hf ha hl
   go_enter Tryz.func129,Tryz.ntmps129
   go_wp2_with fail
   go_ret2
   exact⟨HB.o,by rw[HF.o]; exact⟨rfl,by decide⟩⟩
def AE (cs:List (ByteArray×List UInt8)) (r:cX) (w:World) (e:Ending) (w':World):Prop:=Below w.heap.size w w'/\match jy cs r with
 | .error x=>e= .returned (.tuple #[.slice none 0 0, .int .i64 x])/\x≠0
 | .ok l=> ∃v,e= .returned (.tuple #[v, .int .i64 0])/\eD (w.heap.size<= ·) w' v l
theorem ti (S:Nat->Prop) (cv:Value) (cs:List (ByteArray×List UInt8)) (r:cX) (w:World) (hc:fU S w cv cs) (hr:eC r) (henv:og w):Calls Tryz.prog 83 #[cv,fa r] w (AE cs r w):=by
 have HB:=an ((ay w.heap.size w).alloc (au _) (.cells #[.string r.name, .int .i64 r.gen, .int .i64 r.size] 26));have HC:=an (hc.below HB.o);have HR:=an hr;have HE:=an (henv.below HB.o);unfold fa;clear hc hr henv
 go_enter Tryz.func83,Tryz.ntmps83
 go_wp2_with fail;refine(yU S cv cs r _ HC.o HR.o).mono ?_;rintro e w1 ⟨hf,ha⟩;have he:=an (aw HB.o hf);have ho:=an (HE.o.below hf);clear hf
 cases hb:jG cs r with
 | error x=>
  rw[hb]at ha;obtain⟨rfl,hx⟩:=ha;have HN:=an (show jy cs r= .error x by unfold jy; rw[hb]);have HX:=an hx;have e1:(x != 0)=true:=by simp[hx]
  clear hb hx;go_wp2_with fail
  go_ret2
  exact⟨he.o,by rw[HN.o]; exact⟨rfl,HX.o⟩⟩
 | ok bs=>
  rw[hb]at ha;obtain⟨v,rfl,hv⟩:=ha;have HV:=an hv;obtain⟨_,a,cap,rfl,hn,hm,-⟩:=hv;unfold maxLen at hm;have hh:=an hb;clear hb;go_wp2_with fail;refine(zy S bs _ w1 HV.o ho.o).mono ?_;rintro e w2 ⟨hj,ha⟩;have hg:=an (aw he.o hj);clear hj
  cases hd:iR bs with
  | none=>
   rw[hd]at ha;simp only at ha;subst ha;have HN:=an (show jy cs r= .error 9 by unfold jy; rw[hh.o]; simp only[hd]);clear hd;go_wp2_with fail
   go_ret2
   exact⟨hg.o,by rw[HN.o]; exact⟨rfl,by decide⟩⟩
  | some l=>
   rw[hd]at ha;simp only at ha;obtain⟨v,rfl,hv⟩:=ha;have hl:=he.o.size;have hp:=an (show eD (w.heap.size<= ·) w2 v l from by
    obtain⟨cells,h1,h2⟩:=hv;exact⟨cells,h1.weak (fun k hk=>aB hl hk),h2.mono (fun c x _ hx=>hx.same (fun k _ hS=>⟨aB hl hS,rfl⟩))⟩)
   obtain⟨a2,c2,rfl,-,-,-⟩:=cL.shape hv lr.len;have HN:=an (show jy cs r= .ok l by unfold jy; rw[hh.o]; simp only[hd]);clear hd hv;go_wp2_with fail
   go_ret2
   exact⟨hg.o,by rw[HN.o]; exact⟨_,rfl,hp.o⟩⟩
end Go.Proofs.YtpffpjbkbaleiaaGreatDoor
namespace Go.Proofs.YtpffpjbkbaleiaaGreatDoor
open Go Go.RowKit
def kL (cs:List (ByteArray×List UInt8)):List cX->List UInt8->Except Int (List UInt8)
 | [],acc=> .ok acc
 | r::rs,acc=>match jG cs r with
  | .error x=> .error x
  | .ok bs=>kL cs rs (acc++bs)
def vw (cs:List (ByteArray×List UInt8)) (rs:List cX) (w:World) (e:Ending) (w':World):Prop:=Below w.heap.size w w'/\match kL cs rs []with
 | .error x=>e= .returned (.tuple #[.slice none 0 0, .int .i64 x])/\x≠0
 | .ok bs=> ∃v,e= .returned (.tuple #[v, .int .i64 0])/\lA w' w.heap.size v bs
theorem MO (S:Nat->Prop) (v:Value) (rs:List cX) (n:Nat) (w:World) (hv:dA S w v rs) (h:mY rs=(n:Int)):Calls Tryz.prog 63 #[v] w fun e w'=>e= .returned (.int .i64 (n:Int))/\Below w.heap.size w w':=by
 rw[<-h]; exact uo S v rs w hv
theorem qA (S:Nat->Prop) (cv rv:Value) (cs:List (ByteArray×List UInt8)) (rs:List cX) (w:World) (hc:fU S w cv cs) (hv:dA S w rv rs) (ht0:0<=mY rs) (ht1:mY rs<=1048576) (hn6:rs.length<=1048576) (hrs: ∀r∈rs,ld r=true):
  Calls Tryz.prog 97 #[cv,rv] w (vw cs rs w):=by
 obtain⟨a,cap,rfl,hz,h1,-⟩:=cL.shape hv oJ.len;obtain⟨t,ht⟩: ∃t,t=(mY rs).toNat:=⟨_,rfl⟩;have hM:mY rs=(t:Int):=by omega
 have h4:t<=1048576:=by omega
 obtain⟨n,hn⟩: ∃n,n=rs.length:=⟨_,rfl⟩;rw[<-hn]at hv hz hn6 ⊢;unfold maxLen at h1;have HC:=an hc;have HV:=an hv;have HN:=an hn;have hY:=an hM;have hW:=an hrs;clear hrs;obtain⟨h7,⟨i9,z9,hD,hE,hF,hG,hZ⟩,-,-⟩:=Tryz.appBytes;have hp:i9.bytes*t<=281474976710656:=by rw[hG]; omega
 have H9:=an (aD hD (aD hE (aD hF hp)));clear hc hv hn ht0 ht1 ht hM hD hE hF hG hZ hp
 go_enter Tryz.func97,Tryz.ntmps97
 have hX:=an (show t<=maxLen by unfold maxLen; omega);go_wp2_with fail;refine(MO S _ rs t w HV.o hY.o).mono ?_;rintro e w1 ⟨rfl,hH⟩;have hs:=an hH;clear hH;go_wp2_with (first | ((refine wpList_make_own _ rfl _ _ 29 rfl w.heap.size 5 i9 z9 1 dh H9.o.1 H9.o.2.1 H9.o.2.2.1 .i64 .i64 (t:Int) t rfl rfl rfl H9.o.2.2.2 hX.o hs.o.size ?_); intro w4 he hI; have hS:=an he; have hP:=an hI; clear he hI))
 have hN:=an ((jt hP.o).mono hs.o.size |> hs.o.trans)
 go_loopw [16,6] (fun i x wr=> ∃(k:Nat) (acc:List UInt8),k<=n/\i= .int .i64 (k:Int)/\kL cs rs []=kL cs (rs.drop k) acc/\acc.length<=k*32768/\lA wr w.heap.size x acc/\Below w.heap.size w wr) (fun i _ _=>n-(intOf i).toNat)
 case atStart=>exact⟨0,[],aX _,rfl,rfl,by simp,hS.o,hN.o⟩
 case round=>
  obtain⟨k,acc,hk,rfl,hf,h3,ho,hb⟩:=hrel;obtain⟨ax,cx,rfl,h8,h9⟩:=aI ho;have HF:=an hf;have HO:=an ho;have HB:=an hb;clear hf ho hb
  by_cases hJ:k<n
  ·obtain⟨r,hr⟩: ∃r,rs[k]? =some r:=⟨rs[k]'(by rw[<-HN.o]; exact hJ),by simp⟩;obtain⟨b,o,rfl,hA,p0,p1,p2⟩:=oE HV.o HB.o hr;have HA:=an ((ay wr.heap.size wr).alloc (au _) (.cells #[.string r.name, .int .i64 r.gen, .int .i64 r.size] 26));have hh:=yU S cv cs r _ ((HC.o.below HB.o).below HA.o) hA;have hL:=(mQ.1 (hW.o r (aS hr))).2.2.2
   have hq:=an (HB.o.trans (HA.o.mono HB.o.size));have hU:=an (cU HO.o HA.o);have hB:=an (show rs.drop k=r::rs.drop (k+1) by
    rw[cI (by rw[<-HN.o]; exact hJ)]
    congr 1
    exact(aN.1 hr).2)
   unfold BB at hh
   cases ha:jG cs r with
   | error x=>
    rw[ha]at hh;have hu:=an hh;have hw:=an (show kL cs rs []= .error x by rw[HF.o,hB.o,kL,ha]);clear ha hh hr hA hL;go_wp2_with fail;refine hu.o.mono ?_;rintro e w5 ⟨hj,rfl,hx⟩;have hl:=an (hq.o.trans (hj.mono hq.o.size));clear hj;go_wp2_with fail
    go_ret2
    refine⟨hl.o, ?_⟩;rw[hw.o];exact⟨rfl,hx⟩
   | ok bs=>
    rw[ha]at hh;have hu:=an hh;have hw:=an (show kL cs rs []=kL cs (rs.drop (k+1)) (acc++bs) by rw[HF.o,hB.o,kL,ha]);have h0:bs.length<=32768:=by
     unfold jG at ha
     cases hf:gB cs r.name with
     | none=>rw[hf]at ha; cases ha
     | some y=>
      rw[hf]at ha;simp only at ha
      split at ha
      ·cases ha; omega
      ·cases ha
    clear ha hh hr hA hL;go_wp2_with fail;refine hu.o.mono ?_;rintro e w5 ⟨hj,v5,rfl,hy⟩;obtain⟨_,a5,c5,rfl,-,-,-⟩:=id hy
    obtain⟨m,hm⟩: ∃m,m=bs.length:=⟨_,rfl⟩;have HM:=an hm;have hl:=an (hq.o.trans (hj.mono hq.o.size));have hC:=an (cU hU.o hj);have hO:=an (show cE S w5 1 (.slice a5 m c5) m (bs.map aY) by rw[hm]; exact hy);rw[<-hm]at h0 ⊢;have hV:=an (show ∀u∈bs.map aY,u.oneCell'=true from fo bs);have hR:=an (show acc.length+m<1099511627775 by omega)
    clear hj hy hm p0 p1 p2;go_wp2_with (at_builtin; go_must (refine el Tryz.appBytes rfl _ _ rfl w.heap.size (.slice ax acc.length cx) acc.length (acc.map aY) rfl hC.o _ m (bs.map aY) rfl hO.o hV.o hR.o hl.o.size ?_); intro v6 wz hg hd; have hT:=an hg; have hQ:=an hd; clear hg hd)
    go_roundw
    case rel=>
     refine⟨k+1,acc++bs,by omega,by go_num,hw.o, ?_, ?_,hl.o.grown hQ.o hl.o.size (fun k e=>(oP hC.o e).1)⟩
     ·rw[ar,<-HM.o]; omega
     ·unfold lA;rw[ar,aO,<-HM.o];exact hT.o
    case measure=>simp[intOf]; omega
  ·have h2:k=n:=by omega
   subst h2;go_wp2_with fail
   go_ret2
   refine⟨HB.o, ?_⟩;rw[HF.o,HN.o,iW];exact⟨_,rfl,HO.o⟩
theorem tI {l:List cX} (hl:l.length<=1048576) (h: ∀r∈l,ld r=true): ∀k,k<=l.length->0<=mY (l.take k)/\mY (l.take k)<=(k:Int)*32768
 | 0,_=>by simp[mY]
 | k+1,hk=>by
  have ih:=tI hl h k (by omega);have hr:l[k]? =some (l[k]'(by omega)):=by simp
  have hz:=(mQ.1 (h _ (List.getElem_mem (by omega:k<l.length)))).2.2.2;rw[dZ hr,An];unfold wrap64;omega
def rK (cs:List (ByteArray×List UInt8)) (it:cr) (w:World) (e:Ending) (w':World):Prop:=
 Below w.heap.size w w'/\if it.kind=1/\gO it=true then(match kL cs it.chunks []with
  | .error x=>e= .returned (.tuple #[.slice none 0 0, .int .i64 x])/\x≠0
  | .ok bs=> ∃v,e= .returned (.tuple #[v, .int .i64 0])/\lA w' w.heap.size v bs)
 else e= .returned (.tuple #[.slice none 0 0, .int .i64 1])
theorem CY (S:Nat->Prop) (cv rv:Value) (cs:List (ByteArray×List UInt8)) (it:cr) (w:World) (hc:fU S w cv cs) (hv:dA S w rv it.chunks) (hok:ii it) (henv:og w) (hn6:it.chunks.length<=1048576):
  Calls Tryz.prog 40 #[lT rv it,cv] w (rK cs it w):=by
 obtain⟨a,cap,rfl,hy,hz,-⟩:=cL.shape hv oJ.len;have HC:=an hc;have HV:=an hv;have HO:=an hok;have HE:=an henv;clear hc hv hok henv;have HA:=an ((ay w.heap.size w).alloc (au _) (.cells #[.string it.name, .int .i64 it.kind, .int .i64 it.mode, .int .i64 it.time, .int .i64 it.size, .string it.link, .slice a it.chunks.length cap, .string it.node.name, .int .i64 it.node.gen, .int .i64 it.node.size] 28))
 by_cases hk:it.kind=1
 ·cases he:gO it with
  | true=>
   have hf:=an he;unfold gO at he;rw[aJ]at he;have hl:=an (lw hk he.2);have HK:=an hk;clear he;have ho:=an (HE.o.below HA.o);have ha:=kI S it (.slice a it.chunks.length cap) true _ (cL.below HV.o (by omega) HA.o (fun _ _ _ h=>h)) HO.o ho.o hf.o;unfold lT at ha ⊢;rw[hk]at ha HA ⊢
   go_enter Tryz.func40,Tryz.ntmps40
   go_wp2_with fail;refine ha.mono ?_;rintro e w1 ⟨rfl,hg⟩;have hb:=an (aw HA.o hg);have q6:=(hg.cell (by simp)).trans (aA (k:=6) (dY w (.cells #[.string it.name, .int .i64 1, .int .i64 it.mode, .int .i64 it.time, .int .i64 it.size, .string it.link, .slice a it.chunks.length cap, .string it.node.name, .int .i64 it.node.gen, .int .i64 it.node.size] 28)));simp only[ak,am,aj]at q6
   clear ha hg;have hd:=qA S cv (.slice a it.chunks.length cap) cs it.chunks w1 (HC.o.below hb.o) (cL.below HV.o (by omega) hb.o (fun _ _ _ h=>h)) (by have:=tI hn6 (fun r hr=>(hl.o.2.2.1 r hr).1) _ (au _); rw[dg]at this; exact this.1) (by rw[<-hl.o.2.2.2.1]; exact hl.o.2.2.2.2) hn6 (fun r hr=>(hl.o.2.2.1 r hr).1);unfold vw at hd
   cases hh:kL cs it.chunks []with
   | error x=>
    rw[hh]at hd;have hp:=an hd;have hq:=an hh;clear hd hh;go_wp2_with fail;refine hp.o.mono ?_;rintro e w2 ⟨hj,rfl,hx⟩;have hn:=an (aw hb.o hj);clear hj;go_wp2_with fail
    go_ret2
    refine⟨hn.o, ?_⟩;rw[if_pos ⟨HK.o,hf.o⟩,hq.o];exact⟨rfl,hx⟩
   | ok bs=>
    rw[hh]at hd;have hp:=an hd;have hq:=an hh;clear hd hh;go_wp2_with fail;refine hp.o.mono ?_;rintro e w2 ⟨hj,v2,rfl,hs⟩;obtain⟨a2,c2,hu,-,-⟩:=aI hs;obtain⟨m,hm⟩: ∃m,m=bs.length:=⟨_,rfl⟩;rw[<-hm]at hu;subst hu;have hn:=an (aw hb.o hj);have hw:=an (fT hs hb.o.size);clear hj hs hm;go_wp2_with fail
    go_ret2
    refine⟨hn.o, ?_⟩;rw[if_pos ⟨HK.o,hf.o⟩,hq.o];exact⟨_,rfl,hw.o⟩
  | false=>
   have hf:=an he;have HK:=an hk;clear he;have ho:=an (HE.o.below HA.o);have ha:=kI S it (.slice a it.chunks.length cap) false _ (cL.below HV.o (by omega) HA.o (fun _ _ _ h=>h)) HO.o ho.o hf.o;unfold lT at ha ⊢;rw[hk]at ha HA ⊢
   go_enter Tryz.func40,Tryz.ntmps40
   go_wp2_with fail;refine ha.mono ?_;rintro e w1 ⟨rfl,hg⟩;have hb:=an (aw HA.o hg);clear ha hg;go_wp2_with fail
   go_ret2
   refine⟨hb.o, ?_⟩;rw[if_neg (fun h=>by rw[hf.o]at h; cases h.2)]
   rfl
 ·have HK:=an hk;have hA:(it.kind != 1)=true:=by simp[hk]
  clear hk;unfold lT
  go_enter Tryz.func40,Tryz.ntmps40
  go_wp2_with fail
  go_ret2
  refine⟨HA.o, ?_⟩;rw[if_neg (fun h=>HK.o h.1)]
  rfl
end Go.Proofs.YtpffpjbkbaleiaaGreatDoor
namespace Go.Proofs.YtpffpjbkbaleiaaGreatDoor
open Go.RowKit
def jS (dir name:ByteArray):ByteArray:=if dir.size=0 then name else dir++⟨#[47]⟩++name
def lS (cs:List (ByteArray×List UInt8)) (it:cr):List UInt8×Int:=
 if it.kind=1 then(match kL cs it.chunks []with | .error x=>([],x) | .ok bs=>(bs,0))else([],0)
def jz (cs:List (ByteArray×List UInt8)) (rec:ByteArray->cX->List dj->Int×List dj) (dir:ByteArray):List cr->List dj->Int×List dj
 | [],acc=>(0,acc)
 | it::r,acc=>
  if dB (bl (jS dir it.name))=true/\acc.length<4096 then
   let acc1:=acc++[⟨jS dir it.name,it.kind,it.mode,it.time,(lS cs it).1,it.link⟩]
   let p:=if it.kind=2 then rec (jS dir it.name) it.node acc1 else((lS cs it).2,acc1)
   if p.1=0 then jz cs rec dir r p.2 else p
  else(2,acc)
def iz (cs:List (ByteArray×List UInt8)):Nat->ByteArray->cX->List dj->Int×List dj
 | 0,_,_,acc=>(0,acc)
 | f+1,dir,ref,acc=>match jy cs ref with
  | .error x=>(x,acc)
  | .ok l=>jz cs (iz cs f) dir l acc
def oz (cs:List (ByteArray×List UInt8)) (root:cX):Except Int (List dj):=
 if ld root=true then(if(iz cs 514 ⟨#[]⟩ root []).1=0 then .ok (iz cs 514 ⟨#[]⟩ root []).2 else .error (iz cs 514 ⟨#[]⟩ root []).1)else .error 1
def KI (xs:List ByteArray) (w:World) (e:Ending) (w':World):Prop:=
 ∃a cap,e= .returned (.tuple #[.slice a xs.length cap, .int .i64 0])/\xs.length<=cap/\cap<=maxLen/\lF (w.heap.size<= ·) w' (.slice a xs.length cap) xs/\Below w.heap.size w w'
theorem rL : ∀ {xs ys:List ByteArray},xs.map bl=ys.map bl->xs=ys
 | [],[],_=>rfl
 | [],_::_,h=>by simp at h
 | _::_,[],h=>by simp at h
 | x::xs,y::ys,h=>by
  simp only[cw,fi]at h;rw[jP h.1,rL h.2]
def jH (l:List UInt8):List ByteArray:=(dd 47 l).map fun p=>⟨p.toArray⟩
theorem zT (l:List UInt8):(jH l).map bl=dd 47 l:=by
 unfold jH;rw[jL];have:(bl ∘ fun p:List UInt8=>(⟨p.toArray⟩:ByteArray))=id:=by funext p; exact iu p
 rw[this,List.map_id]
theorem DL (s:ByteArray) (w:World) (he:og w) (hv:dB (bl s)=true):Calls Tryz.prog 82 #[.string s] w (KI (jH (bl s)) w):=by
 refine(qO s w he).mono ?_;rintro e w' (⟨_,v,xs,rfl,hx,hs,hb⟩ | ⟨hf,_⟩)
 ·have:xs=jH (bl s):=rL (hx.trans (zT _).symm);subst this;obtain⟨a,cap,rfl,h1,h2,_⟩:=hs.shape;exact⟨a,cap,rfl,h1,h2,hs,hb⟩
 ·rw[hv]at hf; cases hf
theorem Kj (s:ByteArray) (w:World) (he:og w) (hv:dB (bl s)=false):Calls Tryz.prog 82 #[.string s] w fun e w'=>e= .returned (.tuple #[.slice none 0 0, .int .i64 1])/\Below w.heap.size w w':=by
 refine(qO s w he).mono ?_;rintro e w' (⟨ht,_⟩ | ⟨_,rfl,hb⟩)
 ·rw[hv]at ht; cases ht
 ·exact⟨rfl,hb⟩
def mN (cs:List (ByteArray×List UInt8)):List ByteArray->cr->Except Int cr
 | [],it=> .ok it
 | c::r,it=>if it.kind=2 then(match jy cs it.node with
  | .error x=> .error x
  | .ok l=>match l.find? (fun y=>decide (y.name=c))with
   | none=> .error 4
   | some y=>mN cs r y)else .error 4
def my (root:cX):cr:=⟨⟨#[]⟩,2,0,0,0,⟨#[]⟩,[],root⟩
def Nb :cr:=⟨⟨#[]⟩,0,0,0,0,⟨#[]⟩,[],ef⟩
def jW (cs:List (ByteArray×List UInt8)) (root:cX) (path:ByteArray):Except Int cr:=
 if dB (bl path)=true/\ld root=true then mN cs (jH (bl path)) (my root)else .error 1
structure nj (w : World) (base wb eb sb : Nat) (fv v : Value) (ex rs : List cX) : Prop where
 box:w.heap[wb]? =some (.cells #[fv, .map (some eb), .map (some sb),v] 191 (0,0))
 exs:jO w eb ex
 see:jO w sb rs
 row:w.ownsRow base 26 3 v rs.length (rs.flatMap ji)
 ne:eb≠sb
def oW (wb eb sb:Nat) (v:Value) (k:Nat):Prop:=k=wb\/k=eb\/k=sb\/v.ownBlock=some k
section
variable {w w' : World} {base wb eb sb : Nat} {fv v : Value} {ex rs : List cX}
theorem jO.cells {b:Nat} {l:List cX} (h:jO w b l) {cs:Array Value} {t:TypeId} {z:Nat×Nat} :w.heap[b]? ≠some (.cells cs t z):=fun e=>by
 obtain⟨es,clock,hb,_⟩:=h.map;rw[hb]at e; cases e
theorem nj.wne (h:nj w base wb eb sb fv v ex rs):wb≠eb/\wb≠sb:=⟨fun e=>h.exs.cells (e▸h.box),fun e=>h.see.cells (e▸h.box)⟩
theorem bL {e:TypeId} {sz:Nat} {n:Nat} {xs:List Value} {k:Nat} (h:w.ownsRow base e sz v n xs) (hk:v.ownBlock=some k): ∃cs,w.heap[k]? =some (.cells cs e (0,0)):=by
 obtain⟨_,h2⟩:=h
 rcases h2 with⟨rfl,rfl⟩ | ⟨g,cap,cur,rfl,_,hh,_⟩
 ·cases hk
 ·have:g=k:=by simpa [Value.ownBlock]using hk
  subst this;exact⟨cur,hh⟩
theorem nj.own (h:nj w base wb eb sb fv v ex rs) {k:Nat} (hk:v.ownBlock=some k):k≠wb/\k≠eb/\k≠sb:=by
 obtain⟨cs,hc⟩:=bL h.row hk;refine⟨fun e=> ?_,fun e=> ?_,fun e=> ?_⟩
 ·subst e;have:=hc.symm.trans h.box;simp at this
 ·subst e; exact h.exs.cells hc
 ·subst e; exact h.see.cells hc
theorem nj.keep (h:nj w base wb eb sb fv v ex rs) (hs: ∀k,k<w.heap.size->oW wb eb sb v k->w'.heap[k]? =w.heap[k]?):nj w' base wb eb sb fv v ex rs:=by
 refine⟨(hs wb (az h.box) (.inl rfl)).trans h.box,h.exs.same (hs eb h.exs.map.lt (.inr (.inl rfl))),h.see.same (hs sb h.see.map.lt (.inr (.inr (.inl rfl)))), ?_,h.ne⟩;obtain⟨hl,h2⟩:=h.row;refine⟨hl, ?_⟩
 rcases h2 with h2 | ⟨g,cap,cur,rfl,hg,hh,h3⟩
 ·exact .inl h2
 ·exact .inr ⟨g,cap,cur,rfl,hg,(hs g (az hh) (.inr (.inr (.inr rfl)))).trans hh,h3⟩
theorem nj.below (h:nj w base wb eb sb fv v ex rs) (hb:Below w.heap.size w w'):nj w' base wb eb sb fv v ex rs:=h.keep (fun k hk _=>hb.block k hk)
theorem nj.ok (h:nj w base wb eb sb fv v ex rs): ∀r∈rs,eC r:=h.see.ok
theorem nj.shape (h:nj w base wb eb sb fv v ex rs): ∃a cap,v= .slice a rs.length cap:=by
 obtain⟨a,cap,h1,_⟩:=aI h.row;exact⟨a,cap,h1⟩
end
def dX (r:cX) (rs:List cX):List cX:=if r∈rs then rs else rs++[r]
def KO (base wb eb sb:Nat) (fv v:Value) (ex rs:List cX) (w w':World):Prop:=
 ∃v',nj w' base wb eb sb fv v' ex rs/\gY (oW wb eb sb v) w w'/\ ∀k,v'.ownBlock=some k->v.ownBlock=some k\/w.heap.size<=k
theorem uU (base wb eb sb:Nat) (fv v:Value) (ex rs:List cX) (r:cX) (w:World) (h:nj w base wb eb sb fv v ex rs) (hr:eC r) (hl:rs.length<1099511627775) (hbase:base<=w.heap.size):
  Calls Tryz.prog 161 #[.pointer (some ⟨wb,0,none⟩),fa r] w fun e w'=>e= .returned (.tuple #[])/\KO base wb eb sb fv v ex (dX r rs) w w':=by
 obtain⟨av,cv,rfl⟩:=h.shape;obtain⟨W,hW⟩: ∃W:World,W=(w.alloc (.cells #[.string r.name, .int .i64 r.gen, .int .i64 r.size] 26)).drew:=⟨_,rfl⟩;have hB:Below w.heap.size w W:=by rw[hW]; exact(eN).drew
 have hv:=an hB;have HK:=an (h.below hB);have bx:W.heap[w.heap.size]? =some (.cells #[.string r.name, .int .i64 r.gen, .int .i64 r.size] 26 (0,0)):=by rw[hW]; exact aH w _
 have hI:=an bx;have HR:=an hr;have HW:=an hW;have q0:=bH (k:=0) bx;have q1:=bH (k:=1) bx;have q2:=bH (k:=2) bx;have c2:=bH (k:=2) HK.o.box;have hs:=HK.o.see.look hr;simp only[ak,am,aj]at q0 q1 q2 c2;have hY:wb<w.heap.size:=az h.box;have H0:=an h;unfold fa at hs ⊢
 clear h hr bx hB
 by_cases hm:r∈rs
 ·have e1:decide (r∈rs)=true:=by simp[hm]
  have HM:=an (show dX r rs=rs by unfold dX; rw[if_pos hm]);rw[e1]at hs;clear e1 hm
  go_enter Tryz.func161,Tryz.ntmps161
  go_wp2_with fail;refine bP [some 7] (by kernel_rfl) (by kernel_rfl) (by kernel_rfl) ?_;simp only[dQ,aV,aZ];rw[<-HW.o];clear hW
  repeat (first | (refine cB rfl ?_; simp only[Act.put,ag,ai,ah]) | (refine cR rfl (fun K hK=> ?_); go_simp; refine hK _ ?_; clear hK K))
  refine cQ ?_;go_wp2_with fail
  go_end0
  exact⟨rfl, .slice av rs.length cv,by rw[HM.o]; exact HK.o,gY.of_below hv.o,fun k hk=> .inl hk⟩
 ·have e1:decide (r∈rs)=false:=by simp[hm]
  have HM:=an (show dX r rs=rs++[r] by unfold dX; rw[if_neg hm]);have hN:=an hm;rw[e1]at hs;clear e1 hm
  go_enter Tryz.func161,Tryz.ntmps161
  go_wp2_with fail;refine bP [some 7] (by kernel_rfl) (by kernel_rfl) (by kernel_rfl) ?_;simp only[dQ,aV,aZ];rw[<-HW.o];clear hW
  repeat (first | (refine cB rfl ?_; simp only[Act.put,ag,ai,ah]) | (refine cR rfl (fun K hK=> ?_); go_simp; refine hK _ ?_; clear hK K))
  refine cQ ?_;go_wp2_with fail;refine bP [some 5,none] (by kernel_rfl) (by kernel_rfl) (by kernel_rfl) ?_;simp only[dQ,aV,aZ,bB,bT];have hM:=an (HK.o.below ((ay _ W).drew))
  repeat (first | (refine cB rfl ?_; simp only[Act.put,ag,ai,ah]) | (refine cR rfl (fun K hK=> ?_); go_simp; refine hK _ ?_; clear hK K))
  refine cQ ?_;refine ei rfl (fun K hK=> ?_);go_wp2_with (at_mapUpdate; go_must (refine mC rfl _ _ _ rfl sb rs hM.o.see rfl r HR.o rfl rfl hN.o ?_); intro w2 hn hF);have hX:sb<w.heap.size:=H0.o.see.map.lt;have hV:eb<w.heap.size:=H0.o.exs.map.lt;have hU:=hv.o.size;obtain⟨W3,hq⟩: ∃W3:World,W3=w2.drew:=⟨_,rfl⟩;have he:W.grownBy W3 (some sb):=by rw[hq]; exact ci (b:=W.drew) ⟨rfl,rfl,rfl,au _,fun _ _ _=>rfl⟩ (ci hF ⟨rfl,rfl,rfl,au _,fun _ _ _=>rfl⟩)
  have hZ:=he.size;have hf:=an (show jO W3 sb (rs++[r]) by rw[hq]; exact hn.same rfl);have hC:=an (HK.o.exs.same (w':=W3) (he.block eb HK.o.exs.map.lt (by simp; exact HK.o.ne)));have hA:=an (HK.o.row.kept he (.inr (fun e=>(HK.o.own e).2.2 rfl)));have hp:=an (ng he HK.o.box HK.o.wne.2);have hy:=an (ng he hI.o (by omega));have hJ:=an he;have c3:=bH (k:=3) hp.o
  have f3:=dy (k:=3) hp.o;obtain⟨r0,r1,r2,_⟩:=aT hy.o;simp only[ak,am,aj]at c3;clear q0 q1 q2 c2 hs hn hF he;refine ey (fun w'=>w'.cell? ⟨wb,3,none⟩=some (.slice av rs.length cv)/\w'.cell? ⟨w.heap.size,0,none⟩=some (.string r.name)/\w'.cell? ⟨w.heap.size,1,none⟩=some (.int .i64 r.gen)/\w'.cell? ⟨w.heap.size,2,none⟩=some (.int .i64 r.size)) (by kernel_rfl) (by kernel_rfl) ?_
  simp only[bw,bz,aG,bo,Nat.reduceAdd,Nat.reduceSub];rw[<-hq];clear hq
  iterate 6 (refine cF rfl (by kernel_rfl) (fun _ _ _ h=>h) rfl (by go_simp) (by rintro w' ⟨hQ,hR,hS,hT⟩; go_simp; rfl) ?_; simp only[Act.put,ag,ai,ah])
  have hh:wb<W3.heap.size:=az hp.o;have hc:w.heap.size<W3.heap.size:=az hy.o;have ho:=an ((ay W3.heap.size W3).alloc (au _) (.cells #[.string r.name, .int .i64 r.gen, .int .i64 r.size] 26));have hE:=aD ((ho.o.cell (p:=⟨wb,3,none⟩) hh).trans c3) (aD ((ho.o.cell (p:=⟨w.heap.size,0,none⟩) hc).trans r0) (aD ((ho.o.cell (p:=⟨w.heap.size,1,none⟩) hc).trans r1) ((ho.o.cell (p:=⟨w.heap.size,2,none⟩) hc).trans r2)))
  have hP:=an hE;clear hE;refine cy 6 rfl (fun K hK=> ?_);go_wp2_with fail
  (first | (refine⟨hP.o, ?_⟩) | skip)
  refine cy 7 rfl (fun K hK=> ?_);go_wp2_with (at_builtin; go_must (refine bR Tryz.appRefs rfl _ _ rfl base (.slice av rs.length cv) rs.length (rs.flatMap ji) rfl W3 [.string r.name, .int .i64 r.gen, .int .i64 r.size] _ rfl rfl (qH (r:=r)) hA.o (by omega) (by omega) ?_); intro v' wc hb ha _ hG; obtain⟨ae,ce,rfl,-,-⟩:=aI hb);have hu: ∀k,(Value.slice av rs.length cv).ownBlock=some k->k≠wb/\k≠eb/\k≠sb:=fun k hk=>H0.o.own hk
  have hj:(Value.slice av rs.length cv).ownBlock≠some w.heap.size:=fun e=>by have:=(H0.o.row.lt _ e).2; omega
  have hd:=an ((ha.block wb hh (fun e=>(hu wb e.symm).1 rfl)).trans hp.o);have hz:=an ((ha.block w.heap.size hc (fun e=>hj e.symm)).trans hy.o);have hw:=an (hC.o.same (ha.block eb hC.o.map.lt (fun e=>(hu eb e.symm).2.1 rfl)));have hg:=an (hf.o.same (ha.block sb hf.o.map.lt (fun e=>(hu sb e.symm).2.2 rfl)));have hL:=an ha;have hD:=an hG
  have hO:=an (show wc.ownsRow base 26 3 (.slice ae (rs.length+1) ce) (rs++[r]).length ((rs++[r]).flatMap ji) by rw[ar,bW]; simpa [ji]using hb);have c4:=bH (k:=3) hd.o;have f4:=dy (k:=3) hd.o;obtain⟨s0,s1,s2,_⟩:=aT hz.o;simp only[ak,am,aj]at c4
  clear hb ha hG c3 f3 r0 r1 r2 hu hj;refine⟨⟨c4,s0,s1,s2⟩, ?_⟩
  iterate 2 (refine cF rfl (by kernel_rfl) (fun _ _ _ h=>h) rfl (by go_simp) (by rintro w' ⟨hQ,hR,hS,hT⟩; go_simp; rfl) ?_; simp only[Act.put,ag,ai,ah])
  refine cH (by kernel_rfl) ?_;refine eJ rfl rfl (fun K hK=> ?_);go_wp2_with fail
  go_end0
  refine⟨rfl, .slice ae (rs.length+1) ce, ?_, ?_, ?_⟩
  ·rw[HM.o];have hH:=H0.o.wne;have hx:=jf (k:=3) hd.o (.slice ae (rs.length+1) ce);simp only[ag,ai,ah]at hx;refine⟨hx,hw.o.same (aF _ _ _ _ (kK hH.1)),hg.o.same (aF _ _ _ _ (kK hH.2)),hO.o.kept (cJ _ _ _ _) (.inr (fun e=> ?_)),H0.o.ne⟩
   rcases hD.o wb e with h1 | h1
   ·exact(H0.o.own h1).1 rfl
   ·omega
  ·refine gY.trans (gY.of_below hv.o) (gY.trans (S:=oW wb eb sb (.slice av rs.length cv)) (gY.of_grown hJ.o (fun k hk=>by cases hk; exact .inr (.inr (.inl rfl)))) (gY.trans (S:=oW wb eb sb (.slice av rs.length cv)) (gY.of_grown hL.o (fun k hk=> .inr (.inr (.inr hk)))) (gY.of_grown (S:=oW wb eb sb (.slice av rs.length cv)) (cJ wc wb 3 _) (fun k hk=>by cases hk; exact .inl rfl)) (fun i _ h=>h)) (fun i _ h=>h)) (fun i _ h=>h)
  ·intro k hk
   rcases hD.o k hk with h1 | h1
   ·exact .inl h1
   ·exact .inr (by omega)
def iG (cs rs:List cX):List cX:=cs.foldl (fun rs r=>dX r rs) rs
def mO (f:cX->List cX×List cX->Option (Int×(List cX×List cX))):List cr->List cX×List cX->Option (Int×(List cX×List cX))
 | [],st=>some (0,st)
 | it::l,st=>if it.kind≠2 then mO f l (st.1,iG it.chunks st.2)else
  (f it.node (st.1,iG it.chunks st.2)).bind fun p=>if p.1≠0 then some p else mO f l p.2
def kP (visit:cX->Except Int (List cr)):Nat->cX->List cX×List cX->Option (Int×(List cX×List cX))
 | 0,_,_=>none
 | n+1,r,st=>if r∈st.1 then some (0,(st.1,dX r st.2))else match visit r with
  | .error x=>some (x,(st.1++[r],dX r st.2))
  | .ok l=>mO (kP visit n) l (st.1++[r],dX r st.2)
theorem qB (r:cX) (rs:List cX):rs.length<=(dX r rs).length:=by
 unfold dX
 split
 ·exact au _
 ·simp
theorem rh : ∀(cs rs:List cX),rs.length<=(iG cs rs).length
 | [],_=>au _
 | c::cs,rs=>aB (qB c rs) (rh cs (dX c rs))
theorem Da (cs:List cX) (c:cX) (rs:List cX):iG (cs++[c]) rs=dX c (iG cs rs):=by
 unfold iG; rw[eF]; rfl
theorem xa (cs rs:List cX) (j:Nat):(iG (cs.take j) rs).length<=(iG cs rs).length:=by
 have:iG cs rs=iG (cs.drop j) (iG (cs.take j) rs):=by
  unfold iG;rw[<-eF,dx]
 rw[this];exact rh _ _
theorem nW {f:cX->List cX×List cX->Option (Int×(List cX×List cX))} (hf: ∀r st x st',f r st=some (x,st')->st.2.length<=st'.2.length):
  ∀(l:List cr) (st:List cX×List cX) (x:Int) (st':List cX×List cX),mO f l st=some (x,st')->st.2.length<=st'.2.length
 | [],st,x,st',h=>by
  simp only[mO,br,cW]at h;obtain⟨_,rfl⟩:=h;exact au _
 | it::l,st,x,st',h=>by
  rw[mO]at h
  split at h
  ·exact aB (rh it.chunks st.2) (nW hf l _ x st' h)
  ·rw[eW]at h;obtain⟨⟨y,st2⟩,h1,h2⟩:=h;have h3:=hf _ _ _ _ h1;have h4:=rh it.chunks st.2;simp only at h2 h3
   split at h2
   ·simp only[br,cW]at h2;obtain⟨_,rfl⟩:=h2;exact aB h4 h3
   ·exact aB (aB h4 h3) (nW hf l _ x st' h2)
theorem py (visit:cX->Except Int (List cr)): ∀(n:Nat) (r:cX) (st:List cX×List cX) (x:Int) (st':List cX×List cX),kP visit n r st=some (x,st')->st.2.length<=st'.2.length
 | 0,_,_,_,_,h=>by simp[kP]at h
 | n+1,r,st,x,st',h=>by
  have hm:=qB r st.2;rw[kP]at h
  split at h
  ·simp only[br,cW]at h;obtain⟨_,rfl⟩:=h;exact hm
  ·split at h
   ·simp only[br,cW]at h;obtain⟨_,rfl⟩:=h;exact hm
   ·exact aB hm (nW (py visit n) _ _ x st' h)
def OM (res:Except Int (List cr)) (w:World) (e:Ending) (w':World):Prop:=Below w.heap.size w w'/\match res with
 | .error x=>e= .returned (.tuple #[.slice none 0 0, .int .i64 x])/\x≠0
 | .ok l=> ∃v,e= .returned (.tuple #[v, .int .i64 0])/\eD (w.heap.size<= ·) w' v l
theorem nj.notown {w:World} {base wb eb sb:Nat} {fv v:Value} {ex rs:List cX} (h:nj w base wb eb sb fv v ex rs) {k:Nat} {cs:Array Value} {t:TypeId} {z:Nat×Nat} (hb:w.heap[k]? =some (.cells cs t z)) (h1:t≠191) (h2:t≠26): ¬oW wb eb sb v k:=by
 rintro(e | e | e | e)
 ·subst e;have:=hb.symm.trans h.box;simp at this;exact h1 this.2.1
 ·subst e; exact h.exs.cells hb
 ·subst e; exact h.see.cells hb
 ·obtain⟨cs',hc⟩:=bL h.row e;have:=hb.symm.trans hc;simp at this;exact h2 this.2.1
structure vO (w : World) (B h5 h6 base wb eb sb : Nat) (fv v itv : Value) (l : List cr) (wr : World) (v2 : Value) (ex rs : List cX) : Prop where
 at':nj wr base wb eb sb fv v2 ex rs
 gr:gY (oW wb eb sb v) w wr
 own: ∀k,v2.ownBlock=some k->v.ownBlock=some k\/w.heap.size<=k
 apart: ∀k,v2.ownBlock=some k->k<h5\/h6<=k
 lo:wb<h5/\eb<h5/\sb<h5
 ord:w.heap.size<=h5/\h5<=h6/\h6<=wr.heap.size
 its:eD (fun k=>h5<=k/\k<h6) wr itv l
theorem eD.same {S:Nat->Prop} {w w':World} {v:Value} {l:List cr} (h:eD S w v l) (hs: ∀k,k<w.heap.size->S k->w'.heap[k]? =w.heap[k]?):eD S w' v l:=by
 obtain⟨cells,hr,ha⟩:=h;have h2:=hr.mono (T:=fun k=>k<w.heap.size/\S k) (fun k hk hS=>⟨hk,hS⟩) (by omega);have h3:=h2.same (w':=w') (fun k hk=>hs k hk.1 hk.2);exact⟨cells,h3.weak (fun k hk=>hk.2),ha.mono (fun c x _ hx=>hx.same (fun k hk hS=>⟨hS,hs k hk hS⟩))⟩
section
variable {w wr w' : World} {B h5 h6 base wb eb sb : Nat} {fv v itv v2 v3 : Value} {l : List cr} {ex rs ex3 rs3 : List cX}
theorem vO.below (h:vO w B h5 h6 base wb eb sb fv v itv l wr v2 ex rs) (hb:Below wr.heap.size wr w'):vO w B h5 h6 base wb eb sb fv v itv l w' v2 ex rs:=
 ⟨h.at'.below hb,h.gr.trans (gY.of_below hb (S:=fun _=>False)) (fun _ _ h=>False.elim h),h.own,h.apart,h.lo,⟨h.ord.1,h.ord.2.1,aB h.ord.2.2 hb.size⟩,h.its.below hb⟩
theorem vO.notown (h:vO w B h5 h6 base wb eb sb fv v itv l wr v2 ex rs) {k:Nat} (hk:h5<=k/\k<h6): ¬oW wb eb sb v2 k:=by
 have:=h.lo;rintro(e | e | e | e)
 ·omega
 ·omega
 ·omega
 ·have:=h.apart k e; omega
theorem vO.step (h:vO w B h5 h6 base wb eb sb fv v itv l wr v2 ex rs) (hr:KO base wb eb sb fv v2 ex3 rs3 wr w'): ∃v3,vO w B h5 h6 base wb eb sb fv v itv l w' v3 ex3 rs3/\gY (oW wb eb sb v2) wr w':=by
 obtain⟨v3,h1,h2,h3⟩:=hr;have hz:=h.gr.size;refine⟨v3,⟨h1,h.gr.trans h2 (fun i hi ho=> ?_),fun k hk=> ?_,fun k hk=> ?_,h.lo,⟨h.ord.1,h.ord.2.1,aB h.ord.2.2 h2.size⟩,h.its.same (fun k hk hS=>h2.block k hk (h.notown hS))⟩,h2⟩
 ·rcases ho with e | e | e | e
  ·exact .inl e
  ·exact .inr (.inl e)
  ·exact .inr (.inr (.inl e))
  ·rcases h.own i e with e | e
   ·exact .inr (.inr (.inr e))
   ·omega
 ·rcases h3 k hk with e | e
  ·exact h.own k e
  ·exact .inr (by omega)
 ·rcases h3 k hk with e | e
  ·exact h.apart k e
  ·have:=h.ord; exact .inr (by omega)
end
def KN (visit:cX->Except Int (List cr)) (F:Nat) (cv:Value) (I:World->Prop) (B n:Nat):Prop:= ∀(r:cX) (st:List cX×List cX) (x:Int) (st':List cX×List cX) (base wb eb sb:Nat) (v:Value) (w:World),kP visit n r st=some (x,st')->st'.2.length<1099511627775->
 nj w base wb eb sb (.func (.func F) #[cv] #[]) v st.1 st.2->eC r->I w->(B<=base/\B<=wb/\B<=eb/\B<=sb)->base<=w.heap.size->
 Calls Tryz.prog 133 #[.pointer (some ⟨wb,0,none⟩),fa r] w fun e w'=>e= .returned (.int .i64 x)/\KO base wb eb sb (.func (.func F) #[cv] #[]) v st'.1 st'.2 w w'
def KM (visit:cX->Except Int (List cr)) (F:Nat) (cv:Value) (I:World->Prop):Prop:= ∀(W:World) (r:cX),I W->eC r->Calls Tryz.prog F #[cv,fa r] W (OM (visit r) W)
def FY (I:World->Prop) (B:Nat):Prop:= ∀w w':World,I w->gY (B<= ·) w w'->I w'
theorem Fe {B base wb eb sb:Nat} {w:World} {fv v:Value} {ex rs:List cX} (h:nj w base wb eb sb fv v ex rs) (hB:B<=base/\B<=wb/\B<=eb/\B<=sb) {k:Nat} (hk:oW wb eb sb v k):B<=k:=by
 rcases hk with e | e | e | e
 ·omega
 ·omega
 ·omega
 ·have:=(h.row.lt k e).1; omega
theorem wI {S T:Nat->Prop} {w w':World} (h:gY S w w') (hs: ∀k,S k->T k):gY T w w':=⟨h.os,h.tape,h.output,h.size,fun k hk hn=>h.block k hk (fun hS=>hn (hs k hS))⟩
theorem eD.lt {S:Nat->Prop} {w:World} {v:Value} {l:List cr} (h:eD S w v l):eD (fun k=>S k/\k<w.heap.size) w v l:=by
 obtain⟨cells,hr,ha⟩:=h;exact⟨cells,hr.mono (fun k hk hS=>⟨hS,hk⟩) (by omega),ha.mono (fun c x _ hx=>hx.same (fun k hk hS=>⟨⟨hS,hk⟩,rfl⟩))⟩
theorem xk {f:cX->List cX×List cX->Option (Int×(List cX×List cX))} {it:cr} {l:List cr} {ex rs:List cX} {q:Int×(List cX×List cX)} (h:mO f (it::l) (ex,rs)=some q):
  (it.kind≠2/\mO f l (ex,iG it.chunks rs)=some q)\/(it.kind=2/\ ∃y st2,f it.node (ex,iG it.chunks rs)=some (y,st2)/\((y≠0/\q=(y,st2))\/(y=0/\mO f l st2=some q))):=by
 rw[mO]at h
 split at h
 ·rename_i hk;exact .inl ⟨hk,h⟩
 ·rename_i hk;rw[eW]at h;obtain⟨⟨y,st2⟩,h1,h2⟩:=h;refine .inr ⟨Decidable.not_not.1 hk,y,st2,h1, ?_⟩;simp only at h2
  split at h2
  ·rename_i hy;exact .inl ⟨hy,(bK h2).symm⟩
  ·rename_i hy;exact .inr ⟨Decidable.not_not.1 hy,h2⟩
theorem Jv {visit:cX->Except Int (List cr)} {n:Nat} {it:cr} {l:List cr} {ex rs:List cX} {x:Int} {st':List cX×List cX} (h:mO (kP visit n) (it::l) (ex,rs)=some (x,st')):(iG it.chunks rs).length<=st'.2.length:=by
 rcases xk h with⟨_,h2⟩ | ⟨_,y,st2,h1,h2⟩
 ·exact nW (py visit n) l _ x st' h2
 ·have h3:=py visit n _ _ _ _ h1
  rcases h2 with⟨_,h2⟩ | ⟨_,h2⟩
  ·obtain⟨_,rfl⟩:=kg h2;exact h3
  ·exact aB h3 (nW (py visit n) l _ x st' h2)
def tg (visit:cX->Except Int (List cr)) (n:Nat) (root:cX):Option (Except Int (List cX)):=
 if ld root=true then(kP visit n root ([],[])).map fun p=>if p.1=0 then .ok p.2.2 else .error p.1 else some (.error 1)
def AD (res:Except Int (List cX)) (w:World) (e:Ending) (w':World):Prop:=Below w.heap.size w w'/\match res with
 | .error x=>e= .returned (.tuple #[.slice none 0 0, .int .i64 x])/\x≠0
 | .ok rs=> ∃v,e= .returned (.tuple #[v, .int .i64 0])/\dA (w.heap.size<= ·) w' v rs
theorem MW {w:World} {B:Nat} {fv:Value} :nj (((w.alloc (.map #[] 0)).alloc (.map #[] 0)).alloc (.cells #[fv, .map (some w.heap.size), .map (some (w.heap.size+1)), .slice none 0 0] 191)) B (w.heap.size+1+1) w.heap.size (w.heap.size+1) fv (.slice none 0 0) [] []:=by
 have e1:(w.alloc (.map #[] 0)).heap.size=w.heap.size+1:=by simp
 have e2:((w.alloc (.map #[] 0)).alloc (.map #[] 0)).heap.size=w.heap.size+1+1:=by simp
 have h1:=jO.made w;have h2:=jO.made (w.alloc (.map #[] 0));rw[e1]at h2;have h3:=aH ((w.alloc (.map #[] 0)).alloc (.map #[] 0)) (.cells #[fv, .map (some w.heap.size), .map (some (w.heap.size+1)), .slice none 0 0] 191);rw[e2]at h3;refine⟨h3, ?_,h2.same (cP _ _ _ (by rw[e2]; omega)),bN _ _ _ _,by omega⟩;exact h1.same ((cP _ _ _ (by rw[e2]; omega)).trans (cP _ _ _ (by rw[e1]; omega)))
structure lE (B : Nat) (cv : Value) (cs : List (ByteArray × List UInt8)) (w : World) : Prop where
 cont:fU (· <B) w cv cs
 env:og w
 lt:1<B/\3<B/\4<B
 size:B<=w.heap.size
theorem cE.lt' {S:Nat->Prop} {w:World} {sz:Nat} {v:Value} {n:Nat} {cells:List Value} (h:cE S w sz v n cells) (hs:0<sz):cE (· <w.heap.size) w sz v n cells:=h.mono (fun _ hk _=>hk) hs
theorem fU.lt {S:Nat->Prop} {w:World} {cv:Value} {cs:List (ByteArray×List UInt8)} (h:fU S w cv cs):fU (· <w.heap.size) w cv cs:=by
 rcases h with h | ⟨b,m,h1,h0,h2,h3⟩
 ·exact .inl h
 ·refine .inr ⟨b,m,h1,h2.lt,h2, ?_⟩;clear h1 h2 h0
  induction m generalizing cs with
  | nil=>cases cs with
   | nil=>trivial
   | cons=>exact h3
  | cons p m ih=>cases cs with
   | nil=>exact h3
   | cons q cs=>exact⟨h3.1,cE.lt' h3.2.1 (by omega),ih h3.2.2⟩
theorem lE.keep {B:Nat} {cv:Value} {cs:List (ByteArray×List UInt8)} :FY (lE B cv cs) B:=by
 intro w w' h hg;have hb:Below B w w':=hg.below h.size (fun k hk=>hk);refine⟨?_,h.env.belowB hb h.lt.1 h.lt.2.1 h.lt.2.2,h.lt,aB h.size hg.size⟩
 rcases h.cont with h1 | ⟨b,m,h1,h0,h2,h3⟩
 ·exact .inl h1
 ·exact .inr ⟨b,m,h1,h0,h2.same (hb.block b h0),h3.mono (fun v bs hv=>cE.same hv (fun k hk=>hb.block k hk))⟩
theorem lE.visit {B:Nat} {cv:Value} {cs:List (ByteArray×List UInt8)} :KM (jy cs) 83 cv (lE B cv cs):=fun W r hI hr=>(ti (· <B) cv cs r W hI.cont hr hI.env).mono fun _ _ h=>h
theorem lE.start {S:Nat->Prop} {w:World} {cv:Value} {cs:List (ByteArray×List UInt8)} (h:fU S w cv cs) (he:og w):lE w.heap.size cv cs w:=⟨h.lt,he,he.lt,au _⟩
theorem tj : ∀ {l U:List cX},l.Nodup->(∀x∈l,x∈U)->l.length<=U.length
 | [],_,_,_=>aX _
 | a::l,U,hn,hs=>by
  obtain⟨h1,h2⟩:=lO.1 hn;have ha:a∈U:=hs a (by simp);have h3:=tj (l:=l) (U:=U.erase a) h2 (fun x hx=>(List.mem_erase_of_ne (fun e=>by subst e; exact h1 hx)).2 (hs x (by simp[hx])));have h4:=List.length_erase_of_mem ha;have h5:0<U.length:=List.length_pos_of_mem ha;simp only[aG];omega
def qx (it:cr):List cX:=it.chunks++[it.node]
def Pg (l:List cr):List cX:=l.flatMap qx
def rO (cs:List (ByteArray×List UInt8)):List cX:=cs.flatMap fun p=>match iR p.2 with
 | some l=>Pg l
 | none=>[]
theorem IQ {cs:List (ByteArray×List UInt8)} {n:ByteArray} {bs:List UInt8} (h:gB cs n=some bs): ∃k,(k,bs)∈cs:=by
 induction cs with
 | nil=>simp[gB]at h
 | cons p cs ih=>
  obtain⟨k,b⟩:=p;simp only[gB]at h
  split at h
  ·simp only[br]at h; subst h; exact⟨k,by simp⟩
  ·obtain⟨k',hk⟩:=ih h;exact⟨k',by simp[hk]⟩
theorem ud {cs:List (ByteArray×List UInt8)} {r:cX} {l:List cr} (h:jy cs r= .ok l): ∃k bs,(k,bs)∈cs/\iR bs=some l:=by
 unfold jy at h
 cases hc:jG cs r with
 | error x=>rw[hc]at h; simp at h
 | ok bs=>
  rw[hc]at h;simp only at h
  cases hi:iR bs with
  | none=>rw[hi]at h; simp at h
  | some l'=>
   rw[hi]at h;simp only[dr]at h;subst h;unfold jG at hc
   cases hf:gB cs r.name with
   | none=>rw[hf]at hc; simp at hc
   | some b=>
    rw[hf]at hc;simp only at hc
    split at hc
    ·simp only[dr]at hc; subst hc;obtain⟨k,hk⟩:=IQ hf;exact⟨k,b,hk,hi⟩
    ·simp at hc
theorem Fa {cs:List (ByteArray×List UInt8)} {r:cX} {l:List cr} (h:jy cs r= .ok l) {it:cr} (hit:it∈l): ∀c∈qx it,c∈rO cs:=fun c hc=>by
 obtain⟨k,bs,h1,h2⟩:=ud h;refine dG.2 ⟨(k,bs),h1, ?_⟩;simp only[h2];exact dG.2 ⟨it,hit,hc⟩
structure xZ (U : List cX) (st : List cX × List cX) : Prop where
 e1:st.1.Nodup
 e2: ∀x∈st.1,x∈U
 l1:st.2.Nodup
 l2: ∀x∈st.2,x∈U
theorem qC {r:cX} {rs:List cX} (h:rs.Nodup):(dX r rs).Nodup:=by
 unfold dX
 split
 ·exact h
 ·rename_i hm;exact gL.2 ⟨h,by simp,fun a ha b hb e=>by simp only[aQ]at hb; subst hb e; exact hm ha⟩
theorem sZ {r x:cX} {rs:List cX} :x∈dX r rs<->x∈rs\/x=r:=by
 unfold dX
 split
 ·rename_i hm;exact⟨.inl,fun h=>by rcases h with h | rfl; exact h; exact hm⟩
 ·simp
theorem sY : ∀(cs:List cX) {rs:List cX},rs.Nodup->(iG cs rs).Nodup
 | [],_,h=>h
 | _c::cs,_,h=>sY cs (qC h)
theorem wZ : ∀(cs:List cX) {rs:List cX} {x:cX},x∈iG cs rs<->x∈rs\/x∈cs
 | [],rs,x=>by simp[iG]
 | c::cs,rs,x=>by
  show x∈iG cs (dX c rs)<->_
  rw[wZ cs,sZ,bh,or_assoc]
theorem xZ.men {U:List cX} {st:List cX×List cX} (h:xZ U st) {cs:List cX} (hc: ∀c∈cs,c∈U):xZ U (st.1,iG cs st.2):=
 ⟨h.e1,h.e2,sY cs h.l1,fun x hx=>by
  rcases(wZ cs).1 hx with hx | hx
  ·exact h.l2 x hx
  ·exact hc x hx⟩
def Oy (U:List cX) (f:cX->List cX×List cX->Option (Int×(List cX×List cX))) (n:Nat):Prop:= ∀r st,r∈U->xZ U st->U.length<n+st.1.length-> ∃x st',f r st=some (x,st')/\xZ U st'/\st.1.length<=st'.1.length
theorem sj {U:List cX} {f:cX->List cX×List cX->Option (Int×(List cX×List cX))} {n:Nat} (hf:Oy U f n):
  ∀(l:List cr) (st:List cX×List cX),(∀it∈l,∀c∈qx it,c∈U)->xZ U st->U.length<n+st.1.length-> ∃x st',mO f l st=some (x,st')/\xZ U st'/\st.1.length<=st'.1.length
 | [],st,_,hi,_=>⟨0,st,rfl,hi,au _⟩
 | it::l,st,hl,hi,hn=>by
  have hi2:=hi.men (cs:=it.chunks) (fun c hc=>hl it (by simp) _ (by simp[qx,hc]));rw[mO]
  split
  ·exact sj hf l _ (fun x hx=>hl x (by simp[hx])) hi2 hn
  ·obtain⟨x,st2,h1,h2,h3⟩:=hf it.node _ (hl it (by simp) _ (by simp[qx])) hi2 hn;rw[h1,Option.bind_some];simp only at h3
   split
   ·exact⟨x,st2,rfl,h2,h3⟩
   ·obtain⟨y,st3,k1,k2,k3⟩:=sj hf l st2 (fun x hx=>hl x (by simp[hx])) h2 (by omega);exact⟨y,st3,k1,k2,aB h3 k3⟩
def uL (cs:List (ByteArray×List UInt8)):Nat:=(rO cs).length+2
theorem ID {data:List UInt8} {s s1:RS} {it:cr} (h:mZ data s=some (it,s1)):it.chunks.length<=963:=by
 unfold mZ ph at h
 split at h
 ·simp only[br,cW]at h;obtain⟨rfl,_⟩:=h;simp only[vY];exact AP _ _ _
 ·split at h
  ·simp only[br,cW]at h;obtain⟨rfl,_⟩:=h;simp
  ·split at h
   ·simp only[br,cW]at h;obtain⟨rfl,_⟩:=h;simp
   ·simp at h
theorem zv {data:List UInt8} {s0:RS} : ∀ {k:Nat} {l:List cr} {s:RS},jh data s0 k=some (l,s)->l.length=k/\ ∀it∈l,it.chunks.length<=963
 | 0,l,s,h=>by
  simp only[jh,br,cW]at h;obtain⟨rfl,_⟩:=h;exact⟨rfl,by simp⟩
 | k+1,l,s,h=>by
  rw[mK,eW]at h;obtain⟨⟨l0,s1⟩,h1,h2⟩:=h;rw[ie]at h2;obtain⟨⟨it,s2⟩,h3,h4⟩:=h2;simp only[cW]at h4;obtain⟨rfl,_⟩:=h4;obtain⟨k1,k2⟩:=zv h1;refine⟨by simp[k1],fun x hx=> ?_⟩
  rcases aU.1 hx with hx | hx
  ·exact k2 x hx
  ·simp only[aQ]at hx; subst hx; exact ID h3
theorem zx {data:List UInt8} {l:List cr} (h:iR data=some l):l.length<=4096/\ ∀it∈l,it.chunks.length<=963:=by
 unfold iR at h
 split at h
 ·simp at h
 ·rw[eW]at h;obtain⟨⟨l0,s1⟩,h1,h2⟩:=h
  split at h2
  ·simp only[br]at h2;subst h2;obtain⟨k1,k2⟩:=zv h1;exact⟨by rw[k1]; exact AP _ _ _,k2⟩
  ·simp at h2
theorem mG {α β:Type} (f:α->List β) (m:Nat): ∀(l:List α),(∀x∈l,(f x).length<=m)->(l.flatMap f).length<=l.length*m
 | [],_=>by simp
 | a::l,h=>by
  have h1:=mG f m l (fun x hx=>h x (by simp[hx]));have h2:=h a (by simp);rw[bq,ar,aG,Nat.succ_mul];omega
theorem II {cs:List (ByteArray×List UInt8)} :(rO cs).length<=cs.length*3948544:=mG _ _ cs (fun p _=>by
 cases h:iR p.2 with
 | none=>simp
 | some l=>
  obtain⟨h1,h2⟩:=zx h;simp only;have h3:=mG qx 964 l (fun it hit=>by have:=h2 it hit; simp[qx]; omega);exact aB h3 (aB (dl 964 h1) (by decide)))
theorem rZ {cs:List (ByteArray×List UInt8)} {r:cX} {l:List cr} (h:jy cs r= .ok l):l.length<=4096/\jB l=true/\ ∀it∈l,it.chunks.length<=963:=by
 obtain⟨k,bs,_,h2⟩:=ud h;have h3:=zx h2;refine⟨h3.1, ?_,h3.2⟩;unfold iR at h2
 split at h2
 ·simp at h2
 ·rw[eW]at h2;obtain⟨⟨l0,s1⟩,_,h4⟩:=h2
  split at h4
  ·rename_i h5;simp only[br]at h4;subst h4;exact h5.2
  ·simp at h4
open Go Go.RowKit
def lm (w:World) (base eb:Nat) (v:Value) (acc:List dj):Prop:=
 w.heap[eb]? =some (.cells #[v] 46 (0,0))/\ ∃ys:List oV,ys.map Prod.snd=acc/\w.ownsRow base 79 6 v ys.length (iw ys)/\ ∀y∈ys,w.ownsRow base 5 1 y.1 y.2.data.length (y.2.data.map aY)
structure rJ (base eb : Nat) (v v' : Value) (w w' : World) : Prop where
 below:Below base w w'
 same: ∀k,k<w.heap.size->k≠eb->v.ownBlock≠some k->w'.heap[k]? =w.heap[k]?
 place: ∀k,v'.ownBlock=some k->v.ownBlock=some k\/w.heap.size<=k
theorem rJ.refl (base eb:Nat) (v:Value) (w:World):rJ base eb v v w w:=⟨ay _ _,fun _ _ _ _=>rfl,fun _ h=> .inl h⟩
theorem rJ.trans {base eb:Nat} {v v1 v2:Value} {A B C:World} (h:rJ base eb v v1 A B) (k:rJ base eb v1 v2 B C) (hs:A.heap.size<=B.heap.size):rJ base eb v v2 A C:=
 ⟨h.below.trans k.below,fun i h1 h2 h3=>(k.same i (by omega) h2 (fun e=>by
  rcases h.place i e with e2 | e2
  ·exact h3 e2
  ·omega)).trans (h.same i h1 h2 h3),fun i e=>by
  rcases k.place i e with e2 | e2
  ·exact h.place i e2
  ·exact .inr (by omega)⟩
theorem rJ.ofBelow {base eb:Nat} {v:Value} {w w':World} (h:Below w.heap.size w w') (hb:base<=w.heap.size):rJ base eb v v w w':=⟨h.mono hb,fun k h1 _ _=>h.block k h1,fun _ e=> .inl e⟩
theorem lm.below {w w':World} {base eb:Nat} {v:Value} {acc:List dj} (h:lm w base eb v acc) (hb:Below w.heap.size w w'):lm w' base eb v acc:=by
 obtain⟨h1,ys,h2,h3,h4⟩:=h;exact⟨dV hb h1,ys,h2,cU h3 hb,fun y hy=>cU (h4 y hy) hb⟩
theorem bV {w:World} {k:Nat} {cs cs':Array Value} {t t':TypeId} {z z':Nat×Nat} (h:w.heap[k]? =some (.cells cs t z)) (h':w.heap[k]? =some (.cells cs' t' z')):t=t':=by
 have:=h.symm.trans h';simp at this;exact this.2.1
theorem eV {w w':World} {base sz n:Nat} {e:TypeId} {v:Value} {xs:List Value} (h:w.ownsRow base e sz v n xs) (hs: ∀k,k<w.heap.size->v.ownBlock=some k->w'.heap[k]? =w.heap[k]?):w'.ownsRow base e sz v n xs:=by
 obtain⟨hl,h2⟩:=h;refine⟨hl, ?_⟩
 rcases h2 with h2 | ⟨g,cap,cur,rfl,hg,hh,h3⟩
 ·exact .inl h2
 ·exact .inr ⟨g,cap,cur,rfl,hg,(hs g (az hh) rfl).trans hh,h3⟩
theorem lm.push {w w2:World} {base eb:Nat} {v v' dv:Value} {ys:List oV} {e:dj} (hx:w.heap[eb]? =some (.cells #[v] 46 (0,0))) (hr:w.ownsRow base 79 6 v ys.length (iw ys)) (hd: ∀y∈ys,w.ownsRow base 5 1 y.1 y.2.data.length (y.2.data.map aY)) (hn:w.ownsRow base 5 1 dv e.data.length (e.data.map aY))
  (hown:w2.ownsRow base 79 6 v' (ys.length+1) (iw ys++vl dv e)) (hg:w.grownBy w2 v.ownBlock) (hpl: ∀k,v'.ownBlock=some k->v.ownBlock=some k\/w.heap.size<=k) (hbe:base<=eb) (hbz:base<=w.heap.size):
  lm (w2.setCell ⟨eb,0,none⟩ v') base eb v' (ys.map Prod.snd++[e])/\rJ base eb v v' w (w2.setCell ⟨eb,0,none⟩ v'):=by
 have hj:=az hx;have he:v.ownBlock≠some eb:=fun h=>by
  obtain⟨cs,hc⟩:=bL hr h;exact absurd (bV hx hc) (by decide)
 have hb:v'.ownBlock≠some eb:=fun h=>by
  rcases hpl eb h with h | h
  ·exact he h
  ·omega
 have hf:=(hg.block eb hj (fun h=>he h.symm)).trans hx;have ha: ∀(u:Value) (bs:List UInt8),w.ownsRow base 5 1 u bs.length (bs.map aY)->(w2.setCell ⟨eb,0,none⟩ v').ownsRow base 5 1 u bs.length (bs.map aY):=by
  intro u bs h;refine eV h (fun k hk hu=> ?_);obtain⟨cs,hc⟩:=bL h hu;rw[aF _ _ _ _ (show k≠eb from fun e=>absurd (bV (e▸hc) hx) (by decide))];refine hg.block k hk (fun e=> ?_);obtain⟨cs2,hh⟩:=bL hr e.symm;exact absurd (bV hc hh) (by decide)
 refine⟨⟨?_,ys++[(dv,e)],by simp, ?_,fun y hy=> ?_⟩,⟨?_,fun k hk h1 h2=> ?_,hpl⟩⟩
 ·have:=jf (k:=0) hf v'
  simpa using this
 ·rw[ar,bQ,wE];exact hown.kept (cJ _ _ _ _) (.inr (fun h=>hb h))
 ·rcases aU.1 hy with hy | hy
  ·exact ha _ _ (hd y hy)
  ·rw[aQ]at hy;subst hy;exact ha _ _ hn
 ·exact((ay base w).grown hg hbz (fun k hk=>(hr.lt k hk).1)).grown (cJ w2 eb 0 v') (aB hbz hg.size) (fun k hk=>by cases hk; exact hbe)
 ·rw[aF _ _ _ _ (show k≠eb from h1)];exact hg.block k hk (fun e=>h2 e.symm)
structure vi (w : World) (h5 h6 base eb : Nat) (v itv : Value) (l : List cr) (wr : World) (v2 : Value) (acc : List dj) : Prop where
 box:lm wr base eb v2 acc
 kp:rJ base eb v v2 w wr
 apart: ∀k,v2.ownBlock=some k->k<h5\/h6<=k
 lo:eb<h5
 ord:w.heap.size<=h5/\h5<=h6/\h6<=wr.heap.size
 its:eD (fun k=>h5<=k/\k<h6) wr itv l
theorem vi.step {w wr w':World} {h5 h6 base eb:Nat} {v itv v2 v3:Value} {l:List cr} {acc acc3:List dj} (h:vi w h5 h6 base eb v itv l wr v2 acc) (h1:lm w' base eb v3 acc3) (h2:rJ base eb v2 v3 wr w'):vi w h5 h6 base eb v itv l w' v3 acc3:=by
 have ho:=h.ord;have hl:=h.lo;have hz:=h2.below.size;refine⟨h1,h.kp.trans h2 (by omega),fun k hk=> ?_,hl,⟨ho.1,ho.2.1,by omega⟩,h.its.same (fun k hk hS=>h2.same k hk (by omega) (fun e=> ?_))⟩
 ·rcases h2.place k hk with e | e
  ·exact h.apart k e
  ·exact .inr (by omega)
 ·have:=h.apart k e;omega
theorem vi.below {w wr w':World} {h5 h6 base eb:Nat} {v itv v2:Value} {l:List cr} {acc:List dj} (h:vi w h5 h6 base eb v itv l wr v2 acc) (hb:Below wr.heap.size wr w') (hbz:base<=wr.heap.size):vi w h5 h6 base eb v itv l w' v2 acc:=
 h.step (h.box.below hb) (rJ.ofBelow hb hbz)
theorem ve {w:World} {b:Nat} {a0 a1 a2 x0 x1 x2:Value} {t:TypeId} (h:w.heap[b]? =some (.cells #[a0,a1,a2] t (0,0))):
  (((w.setCell ⟨b,0,none⟩ x0).setCell ⟨b,1,none⟩ x1).setCell ⟨b,2,none⟩ x2).heap[b]? =some (.cells #[x0,x1,x2] t (0,0)):=by
 have:=jf (k:=2) (jf (k:=1) (jf (k:=0) h x0) x1) x2
 simpa using this
theorem Af {w:World} {b:Nat} {a0 a1 a2 a3 a4 a5 a6 a7 a8 a9 x0 x1 x2 x3 x4 x5 x6 x7 x8 x9:Value} {t:TypeId} (h:w.heap[b]? =some (.cells #[a0,a1,a2,a3,a4,a5,a6,a7,a8,a9] t (0,0))):
  ((((((((((w.setCell ⟨b,0,none⟩ x0).setCell ⟨b,1,none⟩ x1).setCell ⟨b,2,none⟩ x2).setCell ⟨b,3,none⟩ x3).setCell ⟨b,4,none⟩ x4).setCell ⟨b,5,none⟩ x5).setCell ⟨b,6,none⟩ x6).setCell ⟨b,7,none⟩ x7).setCell ⟨b,8,none⟩ x8).setCell ⟨b,9,none⟩ x9).heap[b]? =some (.cells #[x0,x1,x2,x3,x4,x5,x6,x7,x8,x9] t (0,0)):=by
 have:=jf (k:=9) (jf (k:=8) (jf (k:=7) (jf (k:=6) (jf (k:=5) (jf (k:=4) (jf (k:=3) (jf (k:=2) (jf (k:=1) (jf (k:=0) (h) x0) x1) x2) x3) x4) x5) x6) x7) x8) x9
 simpa using this
theorem gW {B b:Nat} {a w:World} {x0 x1 x2:Value} (h:Below B a w) (hb:B<=b):Below B a (((w.setCell ⟨b,0,none⟩ x0).setCell ⟨b,1,none⟩ x1).setCell ⟨b,2,none⟩ x2):=(cC (cC (cC h hb x0) hb x1) hb x2)
theorem ij {B b:Nat} {a w:World} {x0 x1 x2 x3 x4 x5 x6 x7 x8 x9:Value} (h:Below B a w) (hb:B<=b):Below B a ((((((((((w.setCell ⟨b,0,none⟩ x0).setCell ⟨b,1,none⟩ x1).setCell ⟨b,2,none⟩ x2).setCell ⟨b,3,none⟩ x3).setCell ⟨b,4,none⟩ x4).setCell ⟨b,5,none⟩ x5).setCell ⟨b,6,none⟩ x6).setCell ⟨b,7,none⟩ x7).setCell ⟨b,8,none⟩ x8).setCell ⟨b,9,none⟩ x9):=(cC (cC (cC (cC (cC (cC (cC (cC (cC (cC h hb x0) hb x1) hb x2) hb x3) hb x4) hb x5) hb x6) hb x7) hb x8) hb x9)
theorem eh {b k:Nat} {w:World} {x0 x1 x2:Value} (hk:k≠b):(((w.setCell ⟨b,0,none⟩ x0).setCell ⟨b,1,none⟩ x1).setCell ⟨b,2,none⟩ x2).heap[k]? =w.heap[k]? :=(aF _ _ _ _ hk).trans ((aF _ _ _ _ hk).trans (aF _ _ _ _ hk))
theorem mj {b k:Nat} {w:World} {x0 x1 x2 x3 x4 x5 x6 x7 x8 x9:Value} (hk:k≠b):((((((((((w.setCell ⟨b,0,none⟩ x0).setCell ⟨b,1,none⟩ x1).setCell ⟨b,2,none⟩ x2).setCell ⟨b,3,none⟩ x3).setCell ⟨b,4,none⟩ x4).setCell ⟨b,5,none⟩ x5).setCell ⟨b,6,none⟩ x6).setCell ⟨b,7,none⟩ x7).setCell ⟨b,8,none⟩ x8).setCell ⟨b,9,none⟩ x9).heap[k]? =w.heap[k]? :=(aF _ _ _ _ hk).trans ((aF _ _ _ _ hk).trans ((aF _ _ _ _ hk).trans ((aF _ _ _ _ hk).trans ((aF _ _ _ _ hk).trans ((aF _ _ _ _ hk).trans ((aF _ _ _ _ hk).trans ((aF _ _ _ _ hk).trans ((aF _ _ _ _ hk).trans (aF _ _ _ _ hk)))))))))
def wM (c:ByteArray):List cr->Nat->Int
 | [],_=> -1
 | x::t,k=>if x.name=c then(k:Int)else wM c t (k+1)
theorem zp {c:ByteArray} {l:List cr} {k:Nat} {x:cr} (h:l[k]? =some x):wM c (l.drop k) k=if x.name=c then(k:Int)else wM c (l.drop (k+1)) (k+1):=by
 obtain⟨hk,rfl⟩:=aN.1 h;rw[cI hk,wM]
theorem zq (c:ByteArray): ∀(l:List cr) (k:Nat),(l.find? (fun y=>decide (y.name=c))=none/\wM c l k= -1)\/ ∃(j:Nat) (y:cr),l[j]? =some y/\l.find? (fun y=>decide (y.name=c))=some y/\wM c l k=((k+j:Nat):Int)
 | [],_=> .inl ⟨rfl,rfl⟩
 | x::t,k=>by
  by_cases h:x.name=c
  ·exact .inr ⟨0,x,rfl,by rw[List.find?_cons_of_pos (by simp[h])],by rw[wM,if_pos h]; rfl⟩
  ·rw[List.find?_cons_of_neg (by simp[h]),wM,if_neg h]
   rcases zq c t (k+1)with⟨h1,h2⟩ | ⟨j,y,h1,h2,h3⟩
   ·exact .inl ⟨h1,h2⟩
   ·exact .inr ⟨j+1,y,by simpa using h1,h2,by rw[h3]; congr 1; omega⟩
theorem zE (it:cr) (cv:Value) (c:ByteArray) (pb:Nat) (w:World) (hc:w.cell? ⟨pb,0,none⟩=some (.string c)):
  Calls Tryz.prog 85 #[lT cv it, .pointer (some ⟨pb,0,none⟩)] w fun e w'=>e= .returned (.bool (decide (it.name=c)))/\Below w.heap.size w w':=by
 have ha:=bS hc;simp only at ha;have hb: ¬pb=w.heap.size:=by omega
 unfold lT
 go_enter Tryz.func85,Tryz.ntmps85
 go_wp2_with fail;go_ret;refine⟨bY ?_,eN⟩;rw[dk];simp only[eB,jU,aK];exact⟨fun h=>jP h,fun h=>by rw[h]⟩
theorem yi (S:Nat->Prop) (l:List cr) (c:ByteArray) (pb:Nat) (v:Value) (w:World) (hv:eD S w v l) (hc:w.cell? ⟨pb,0,none⟩=some (.string c)):
  Calls Tryz.prog 84 #[v, .func (.func 85) #[] #[.pointer (some ⟨pb,0,none⟩)]] w fun e w'=>e= .returned (.int .i64 (wM c l 0))/\Below w.heap.size w w':=by
 obtain⟨a,cap,rfl,ho,hm,-⟩:=cL.shape hv lr.len;unfold maxLen at hm;have HV:=an hv;have HC:=an hc;clear hv hc
 go_enter Tryz.func84,Tryz.ntmps84
 go_wp2_with fail
 go_loopw [8] (fun i wr=> ∃k:Nat,k<=l.length/\i= .int .i64 k/\Below w.heap.size w wr/\wM c l 0=wM c (l.drop k) k) (fun i _=>l.length-(intOf i).toNat)
 case atStart=>exact⟨0,aX _,rfl,ay _ _,rfl⟩
 case round=>
  obtain⟨k,hk,rfl,hb,hd⟩:=hrel;have HB:=an hb;have HD:=an hd;clear hb hd
  by_cases hl:k<l.length
  ·obtain⟨it,hr⟩: ∃it,l[k]? =some it:=⟨l[k],by simp[hl]⟩;obtain⟨b,o,ca,cc,rfl,-,-,hn,-,ha⟩:=mL HV.o HB.o hr;have q0:=ha 0 (by omega);have q1:=ha 1 (by omega);have q2:=ha 2 (by omega);have q3:=ha 3 (by omega);have q4:=ha 4 (by omega);have q5:=ha 5 (by omega);have q6:=ha 6 (by omega);have q7:=ha 7 (by omega);have q8:=ha 8 (by omega);have q9:=ha 9 (by omega)
   simp only[fh,aj,am,de]at q0 q1 q2 q3 q4 q5 q6 q7 q8 q9;have hj:=an ((HB.o.cell (p:=⟨pb,0,none⟩) (bS HC.o)).trans HC.o);have HR:=an hr;clear ha hr
   by_cases hg:it.name=c
   ·have he:=an hg;clear hg;go_wp2_with (go_at_call 85; refine(zE it (.slice ca it.chunks.length cc) c pb _ hj.o).mono ?_; rintro e w1 ⟨rfl,hf⟩; rw[cO he.o]; have hh:=an hf; clear hf);go_ret;exact⟨dK (by rw[HD.o,zp HR.o,if_pos he.o]),aw HB.o hh.o⟩
   ·have he:=an hg;clear hg;go_wp2_with (go_at_call 85; refine(zE it (.slice ca it.chunks.length cc) c pb _ hj.o).mono ?_; rintro e w1 ⟨rfl,hf⟩; rw[cD he.o]; have hh:=an hf; clear hf)
    go_roundw
    case rel=>exact⟨k+1,by omega,by go_num,aw HB.o hh.o,by rw[HD.o,zp HR.o,if_neg he.o]⟩
    case measure=>simp[intOf]; omega
  ·go_wp2_with fail;go_ret;exact⟨dK (by rw[HD.o,dM (by omega)]; rfl),HB.o⟩
end Go.Proofs.YtpffpjbkbaleiaaGreatDoor
namespace Go.Proofs.YtpffpjbkbaleiaaGreatDoor
open Go.RowKit
theorem Cg (a:Option Addr) (c:Nat) (w:World):(convert 29 9 (.slice a 0 c)).run Tryz.prog w= .ok (.string ⟨#[]⟩) w:=by cases a<;> kernel_rfl
theorem yX {S:Nat->Prop} {w:World} {v:Value} {bs:List UInt8} (hd:dJ S w v bs):(convert 29 9 v).run Tryz.prog w= .ok (.string (strOfNums (bs.map fun b=>(b.toNat:Int)))) w:=by
 obtain⟨_,a,cap,rfl,hn,hm,h0⟩:=hd
 rcases h0 with h0 | ⟨b,o,rfl,_,hc⟩
 ·obtain rfl:=bt h0;exact Cg a cap w
 ·exact run_convert_bytes_arg (P:=Tryz.prog) w 29 5 dh Tryz.underlying5 b o bs.length cap (bs.map fun b=>(b.toNat:Int)) (by simp) (fun i hi=>by
   rw[hc i (u8V bs[i]) (by simp[hi])];simp[u8V,List.getD,hi]) 9 dR
open Go.RowKit Go.Maps
theorem kX (p q:ByteArray) (w:World) (he:og w) (hv:dB (bl p)=true) (hq:q=⟨(cu (bl p)).toArray⟩):
  Calls Tryz.prog 72 #[.string p] w fun e w'=>e= .returned (.tuple #[.string q, .bool true])/\Below w.heap.size w w':=by
 rw[hq]; exact Ff p w he hv
theorem ov (q:ByteArray):q.toList.isEmpty=decide (bl q=[]):=by rw[eB,dk]; simp
theorem ru (S:Nat->Prop) (en:dj) (v:Value) (b:Bool) (w:World) (hd:dJ S w v en.data) (hok:jE en) (henv:og w) (h:gX en=b):Calls Tryz.prog 117 #[wD v en] w fun e w'=>e= .returned (.bool b)/\Below w.heap.size w w':=by
 rw[<-h]; exact FP S en v w hd hok henv
theorem yR : ∀ {m pre:List dj} (r:List dj),Tr (pre++m)->oL pre (m++r)=oL (pre++m) r
 | [],pre,r,_=>by simp
 | e::m,pre,r,h=>by
  have h1:Tr (pre++[e]):=Tr.pre (M:=m) (by simpa using h);have h2:=(qo h1.pre e).2 h1;have h3:=yR (m:=m) (pre:=pre++[e]) r (by simpa using h);rw[aM,oL,if_pos h2,h3];simp
theorem BU {L:List dj} (hl:L.length<=4096) {k:Nat} (h:Tr (L.take k)):iq L=oL (L.take k) (L.drop k):=by
 have h1:=yR (m:=L.take k) (pre:=[]) (L.drop k) (by simpa using h);rw[dx,aL]at h1;unfold iq;rw[if_neg (by omega),h1]
theorem zb {α:Type} {L:List α} {k:Nat} {e:α} (h:L[k]? =some e):L.drop k=e::L.drop (k+1):=by
 obtain⟨h1,h2⟩:=aN.1 h;rw[cI h1,h2]
theorem jv {L:List dj} (hl:L.length<=4096) {k:Nat} (h:Tr (L.take k)) {e:dj} (he:L[k]? =some e) {x:Int} (hx:fP (L.take k) e=x) (h0:x≠0):iq L=x:=by
 rw[BU hl h,zb he,oL,hx,if_neg h0]
theorem mg {L:List dj} {k:Nat} (h:Tr (L.take k)) {e:dj} (he:L[k]? =some e) (hx:fP (L.take k) e=0):Tr (L.take (k+1)):=by
 rw[bZ,he];exact(qo h e).1 hx
theorem vW {L:List dj} (hl:L.length<=4096) (h:Tr (L.take L.length)):iq L=0:=by
 rw[BU hl h,iW]; rfl
theorem yS {L:List dj} (hl:4096<L.length):iq L=2:=by unfold iq; rw[if_pos hl]
def wV (e:dj):Value×Value:=(.string e.path, .int .i64 e.kind)
theorem kW :Tryz.prog.underlying 47=some (.map 9 3):=Tryz.underlying47
theorem EV (w:World) (n:Nat) (hn:n<=4096):(Instr.makeMap 47 (some (.int .i64 (n:Int)))).run Tryz.prog w= .ok (.map (some w.heap.size)) (w.alloc (.map #[] 0)):=by
 have h1:IntKind.i64.wrap (n:Int)=n:=by rw[bF]; omega
 simp[Instr.makeMap,asInt,asIntOf]
theorem qZ {w:World} {mb:Nat} {M:List dj} (h:je Tryz.prog 9 w mb (M.map wV)) {p:ByteArray} (hp:p.size<=maxLen) {f:dj} (hf:kM M p=some f):
  (Instr.lookup 47 (.map (some mb)) (.string p) true).run Tryz.prog w= .ok (.tuple #[.int .i64 f.kind, .bool true]) w:=by
 obtain⟨h1,h2⟩:=rT hf;have h3:(Value.string p,Value.int .i64 f.kind)∈M.map wV:=aW.2 ⟨f,h1,by rw[<-h2]; rfl⟩;have:=h.is.hit fX kW (iy hp) h3 true
 simpa only[if_true]using this
theorem wW {w:World} {mb:Nat} {M:List dj} (h:je Tryz.prog 9 w mb (M.map wV)) {p:ByteArray} (hp:p.size<=maxLen) (hf:kM M p=none):
  (Instr.lookup 47 (.map (some mb)) (.string p) true).run Tryz.prog w= .ok (.tuple #[.int .i64 0, .bool false]) w:=by
 have hz:(zeroValue 3).run Tryz.prog w= .ok (.int .i64 0) w:=by kernel_rfl
 have:=h.is.miss fX kW hz (iy hp) (fun q hq e=>by
  obtain⟨x,hx,rfl⟩:=aW.1 hq;simp only[wV,eq]at e;exact wH hf x hx e) true
 simpa only[if_true]using this
theorem re {M:List dj} {e:dj} (h:Tr (M++[e])): ∀q∈M.map wV,q.1≠Value.string e.path:=by
 intro q hq hc;obtain⟨x,hx,rfl⟩:=aW.1 hq;simp only[wV,eq]at hc;have hn:=h.ord.nodup;rw[aO,gL]at hn;exact hn.2.2 x.path (aW.2 ⟨x,hx,rfl⟩) e.path (by simp) hc
theorem yW (a b:ByteArray) (o:Int) (w:World) (ha:a.size<=maxLen) (h:fg (bl a) (bl b)=o):Calls Tryz.prog 118 #[.string a, .string b] w fun e w'=>e= .returned (.int .i64 o)/\Below w.heap.size w w':=by
 rw[<-h]; exact Cd a b w (by unfold maxLen at ha; omega)
theorem BH {L:List dj} {k:Nat} {f e:dj} (hf:L[k]? =some f):nH (L.take (k+1)) e=decide (fg (bl f.path) (bl e.path)<0):=by
 have:(L.take (k+1)).getLast? =some f:=by rw[bZ,hf]; simp
 unfold nH;rw[this]; rfl
def OK (L:List dj) (mb:Nat) (w:World) (k:Nat) (wr:World):Prop:=Tr (L.take k)/\je Tryz.prog 9 wr mb ((L.take k).map wV)/\Below w.heap.size w wr
theorem IC (S:Nat->Prop) (L:List dj) (v:Value) (w:World) (hv:dP S w v L) (henv:og w):Calls Tryz.prog 71 #[v] w fun e w'=>e= .returned (.int .i64 (iq L))/\Below w.heap.size w w':=by
 have HV:=an hv;have HE:=an henv;obtain⟨a,cap,rfl,hc,hm,-⟩:=cL.shape hv lX.len;unfold maxLen at hm;obtain⟨n,hn⟩: ∃n,n=L.length:=⟨_,rfl⟩;have HN:=an hn;rw[<-hn]at hc HV ⊢;clear hv henv
 by_cases hT:4096<n
 ·have Hj:(4096:Int)<(n:Int):=by omega
  have HC:=an (yS (by rw[<-hn]; exact hT));clear hT hn
  go_enter Tryz.func71,Tryz.ntmps71
  go_wp2_with fail;go_ret;exact⟨dK (by rw[HC.o]),ay _ _⟩
 ·have Hj:(n:Int)<=(4096:Int):=by omega
  have Ho:=EV w n (by omega);have hS:=an (show L.length<=4096 by omega);clear hT hn
  go_enter Tryz.func71,Tryz.ntmps71
  go_wp2_with fail;obtain⟨W0,h8⟩: ∃W0,W0=w.alloc (.map #[] 0):=⟨_,rfl⟩;rw[<-h8];have Hi:=an (show je Tryz.prog 9 W0 w.heap.size [] by rw[h8]; exact je.made w);have Hh:=an (show Below w.heap.size w W0 by rw[h8]; exact eN);clear h8;clear Ho
  go_loopw [18] (fun i wr=> ∃k:Nat,k<=n/\i= .int .i64 k/\OK L w.heap.size w k wr) (fun i _=>n-(intOf i).toNat)
  case atStart=>exact⟨0,aX _,rfl,⟨ff,by simp,by simp⟩,Hi.o,Hh.o⟩
  case round=>
   obtain⟨k,hk,rfl,Hg,He,Hc⟩:=hrel;have hI:=an Hg;have hw:=an He;have hJ:=an Hc;clear Hg He Hc
   by_cases Hn:k<n
   ·obtain⟨e,he⟩: ∃e,L[k]? =some e:=⟨L[k]'(by rw[<-HN.o]; exact Hn),by simp⟩;obtain⟨b,o,dv,rfl,-,hb,hd,Hf,-,q0,q1,q2,q3,q4,q5⟩:=iF (HV.o.below hJ.o) he;have hp:=an he;have HD:=an hd;have hO:=an Hf;obtain⟨a1,cap1,rfl,Hp,Hk⟩:=hd.slice;unfold maxLen at Hk;clear he hd Hf
    cases hU:gX e
    ·have hB:=an hU;have hG:=an (show fP (L.take k) e=1 by unfold fP; rw[hU]; rfl);clear hU;go_wp2_with fail;obtain⟨W,hW⟩: ∃W,W=wr.alloc (.cells #[.string e.path, .int .i64 e.kind, .int .i64 e.mode, .int .i64 e.time, .slice a1 e.data.length cap1, .string e.link] 79):=⟨_,rfl⟩;rw[<-hW];have HX:=an (show W.heap[wr.heap.size]? =some (.cells #[.string e.path, .int .i64 e.kind, .int .i64 e.mode, .int .i64 e.time, .slice a1 e.data.length cap1, .string e.link] 79 (0,0)) by rw[hW]; exact dY wr _)
     have hu:=an (show Below wr.heap.size wr W by rw[hW]; exact eN);have hM:=an (aw hJ.o hu.o);clear hW;refine(ru S e _ false _ (HD.o.below hu.o) hO.o (HE.o.below hM.o) hB.o).mono ?_;rintro e7 w7 ⟨rfl,hE⟩;have hg:=an (aw hM.o hE);clear hE;go_wp2_with fail;go_ret;exact⟨dK (by rw[jv hS.o hI.o hp.o (x:=1) hG.o (by decide)]),hg.o⟩
    ·have hB:=an hU;obtain⟨q,hq⟩: ∃q:ByteArray,q=⟨(cu (bl e.path)).toArray⟩:=⟨_,rfl⟩;have hY:=an (show bl q=cu (bl e.path) by rw[hq]; exact iu _);have HQ:=an hq;have hV:=an (show q.size<=maxLen by
      have h1:=fx (cY hU);have h2:=mu (cY hU);rw[bi,hY.o]; unfold maxLen; omega)
     clear hU hq
     rcases eU k with h9 | h9
     ·have e9:decide (0<k)=false:=by simp; omega
      have e8:(k:Int)<=0:=by omega
      have hZ:=an (show(gX e && nH (L.take k) e)=true by rw[h9,hB.o]; rfl);clear h9;go_wp2_with fail;obtain⟨W,hW⟩: ∃W,W=wr.alloc (.cells #[.string e.path, .int .i64 e.kind, .int .i64 e.mode, .int .i64 e.time, .slice a1 e.data.length cap1, .string e.link] 79):=⟨_,rfl⟩;rw[<-hW];have HX:=an (show W.heap[wr.heap.size]? =some (.cells #[.string e.path, .int .i64 e.kind, .int .i64 e.mode, .int .i64 e.time, .slice a1 e.data.length cap1, .string e.link] 79 (0,0)) by rw[hW]; exact dY wr _)
      have hu:=an (show Below wr.heap.size wr W by rw[hW]; exact eN);have hM:=an (aw hJ.o hu.o);clear hW;refine(ru S e _ true _ (HD.o.below hu.o) hO.o (HE.o.below hM.o) hB.o).mono ?_;rintro e7 w7 ⟨rfl,hE⟩;have hP:=an ((hE.block wr.heap.size (lR HX.o)).trans HX.o);have hN:=an (hu.o.trans (hE.mono hu.o.size));obtain⟨c0,c1,c2,c3,c4,c5,_⟩:=aT hP.o
      clear hE;go_wp2_with fail;refine bP [some 11,none,some 2] (by kernel_rfl) (by kernel_rfl) (by kernel_rfl) ?_;simp only[dQ,aV,aZ,bB,bT];obtain⟨wd,hF⟩: ∃wd:World,wd=w7.drew:=⟨_,rfl⟩;rw[<-hF];have hL:=an (show Below wr.heap.size wr wd by rw[hF]; exact hN.o.trans ((ay w7.heap.size w7).drew.mono hN.o.size))
      have hQ:=an (show wd.heap[wr.heap.size]? =some (.cells #[.string e.path, .int .i64 e.kind, .int .i64 e.mode, .int .i64 e.time, .slice a1 e.data.length cap1, .string e.link] 79 (0,0)) by rw[hF]; exact hP.o);clear hF c0 c1 c2 c3 c4 c5;obtain⟨c0,c1,c2,c3,c4,c5,_⟩:=aT hQ.o
      repeat (first | (refine cB rfl ?_; simp only[Act.put,ag,ai,ah]) | (refine cR rfl (fun K hK=> ?_); go_simp; refine hK _ ?_; clear hK K))
      refine cQ ?_;refine vR rfl ?_;simp only[Act.put,ag,ai,ah]
      repeat (first | (refine cB rfl ?_; simp only[Act.put,ag,ai,ah]) | (refine cR rfl (fun K hK=> ?_); go_simp; refine hK _ ?_; clear hK K))
      refine cQ ?_;clear c0 c1 c2 c3 c4 c5;have hl:=an hL.o;have ho:=an hQ.o;have hr:=an (aw hJ.o hL.o);obtain⟨c0,c1,c2,c3,c4,c5,_⟩:=aT ho.o;go_wp2_with fail
      by_cases h0:cu (bl e.path)=[]
      ·have e1:q.toList.isEmpty=true:=by rw[ov,hY.o,cO h0]
       have hH:=an (mg hI.o hp.o (show fP (L.take k) e=0 by unfold fP; rw[if_pos hZ.o]; unfold nt; rw[if_pos h0]));clear h0;refine(kX e.path q _ (HE.o.below hr.o) (cY hB.o) HQ.o).mono ?_;rintro e9 w9 ⟨rfl,ha⟩;have hz:=an (hl.o.trans (ha.mono hl.o.size));have hg:=an (aw hr.o ha);have hC:=an ((ha.block wr.heap.size (lR ho.o)).trans ho.o)
       have hs:=an (hw.o.same (hz.o.block w.heap.size hw.o.lt));clear ha;obtain⟨c0,c1,c2,c3,c4,c5,_⟩:=aT hC.o;go_wp2_with (at_mapUpdate; go_must (refine kB fX rfl _ _ _ _ rfl kW w.heap.size _ hs.o rfl (.string e.path) (.int .i64 e.kind) rfl rfl (iy hO.o.pth) (re (by have h1:=hH.o; rw[bZ,hp.o]at h1; exact h1)) ?_); intro w10 hj hh)
       have hA:=an hj;have hy:=an hh;clear hj hh c0 c1 c2 c3 c4 c5;go_wp2_with fail
       go_roundw
       case rel=>
        refine⟨k+1,by omega,by go_num,hH.o, ?_, ?_⟩
        ·rw[bZ,hp.o,aO]; exact hA.o
        ·exact hg.o.grown hy.o hg.o.size (fun k e=>by cases e; exact au _)
       case measure=>simp[intOf]; omega
      ·have e1:q.toList.isEmpty=false:=by rw[ov,hY.o,cD h0]
       have hR:=an (show ∀x,(match kM (L.take k) q with | none=>(4:Int) | some f=>if f.kind=2 then 0 else 13)=x->fP (L.take k) e=x from fun x hx=>by unfold fP; rw[if_pos hZ.o]; unfold nt; rw[if_neg h0,<-HQ.o]; exact hx);clear h0
       cases hf:kM (L.take k) q with
       | none=>
        have HF:=an hf;have hG:=an (hR.o 4 (by rw[hf]));clear hf;refine(kX e.path q _ (HE.o.below hr.o) (cY hB.o) HQ.o).mono ?_;rintro e9 w9 ⟨rfl,ha⟩;have hz:=an (hl.o.trans (ha.mono hl.o.size));have hg:=an (aw hr.o ha);have hC:=an ((ha.block wr.heap.size (lR ho.o)).trans ho.o);have hs:=an (hw.o.same (hz.o.block w.heap.size hw.o.lt));clear ha
        obtain⟨c0,c1,c2,c3,c4,c5,_⟩:=aT hC.o;have h3:=wW hs.o hV.o HF.o;go_wp2_with fail;go_ret;exact⟨dK (by rw[jv hS.o hI.o hp.o (x:=4) hG.o (by decide)]),hg.o⟩
       | some f=>
        have HF:=an hf
        by_cases hD:f.kind=2
        ·have e3:(f.kind != 2)=false:=by simp[hD]
         have hH:=an (mg hI.o hp.o (hR.o 0 (by rw[hf]; simp only[if_pos hD])));clear hf hD;refine(kX e.path q _ (HE.o.below hr.o) (cY hB.o) HQ.o).mono ?_;rintro e9 w9 ⟨rfl,ha⟩;have hz:=an (hl.o.trans (ha.mono hl.o.size));have hg:=an (aw hr.o ha);have hC:=an ((ha.block wr.heap.size (lR ho.o)).trans ho.o);have hs:=an (hw.o.same (hz.o.block w.heap.size hw.o.lt))
         clear ha;obtain⟨c0,c1,c2,c3,c4,c5,_⟩:=aT hC.o;have h3:=qZ hs.o hV.o HF.o;go_wp2_with (at_mapUpdate; go_must (refine kB fX rfl _ _ _ _ rfl kW w.heap.size _ hs.o rfl (.string e.path) (.int .i64 e.kind) rfl rfl (iy hO.o.pth) (re (by have h1:=hH.o; rw[bZ,hp.o]at h1; exact h1)) ?_); intro w10 hj hh);have hA:=an hj
         have hy:=an hh;clear hj hh c0 c1 c2 c3 c4 c5;go_wp2_with fail
         go_roundw
         case rel=>
          refine⟨k+1,by omega,by go_num,hH.o, ?_, ?_⟩
          ·rw[bZ,hp.o,aO]; exact hA.o
          ·exact hg.o.grown hy.o hg.o.size (fun k e=>by cases e; exact au _)
         case measure=>simp[intOf]; omega
        ·have e3:(f.kind != 2)=true:=by simp[hD]
         have hG:=an (hR.o 13 (by rw[hf]; simp only[if_neg hD]));clear hf hD;refine(kX e.path q _ (HE.o.below hr.o) (cY hB.o) HQ.o).mono ?_;rintro e9 w9 ⟨rfl,ha⟩;have hz:=an (hl.o.trans (ha.mono hl.o.size));have hg:=an (aw hr.o ha);have hC:=an ((ha.block wr.heap.size (lR ho.o)).trans ho.o);have hs:=an (hw.o.same (hz.o.block w.heap.size hw.o.lt))
         clear ha;obtain⟨c0,c1,c2,c3,c4,c5,_⟩:=aT hC.o;have h3:=qZ hs.o hV.o HF.o;go_wp2_with fail;go_ret;exact⟨dK (by rw[jv hS.o hI.o hp.o (x:=13) hG.o (by decide)]),hg.o⟩
     ·obtain⟨j,rfl⟩: ∃j,k=j+1:=⟨k-1,by omega⟩;obtain⟨f,hf⟩: ∃f,L[j]? =some f:=⟨L[j]'(by rw[<-HN.o]; omega),by simp⟩;obtain⟨b',o',dv',Hd,-,-,-,h7,-,p0,-⟩:=iF (HV.o.below hJ.o) hf;simp only[br,jk,and_true]at Hd;obtain⟨rfl,rfl⟩:=Hd;have Hb:=an h7.pth;obtain⟨c,hc⟩: ∃c,fg (bl f.path) (bl e.path)=c:=⟨_,rfl⟩
      have HC:=an hc;have e9:decide (0<j+1)=true:=by simp
      have Hq:j<n:=by omega
      have Hl:(j:Int)<(n:Int):=by omega
      have Hm:decide (j<n)=true:=by simp; omega
      have Hr:IntKind.i64.wrap (j:Int)=j:=by rw[bF]; omega
      have Ha:=an (show nH (L.take (j+1)) e=decide (c<0) by rw[BH hf,hc]);clear hf h7 hc h9
      by_cases h4:c<0
      ·have hZ:=an (show(gX e && nH (L.take (j+1)) e)=true by rw[hB.o,Ha.o,cO h4]; rfl);have e8:decide (0<=c)=false:=by simp; omega
       go_wp2_with fail;obtain⟨W,hW⟩: ∃W,W=wr.alloc (.cells #[.string e.path, .int .i64 e.kind, .int .i64 e.mode, .int .i64 e.time, .slice a1 e.data.length cap1, .string e.link] 79):=⟨_,rfl⟩;rw[<-hW];have HX:=an (show W.heap[wr.heap.size]? =some (.cells #[.string e.path, .int .i64 e.kind, .int .i64 e.mode, .int .i64 e.time, .slice a1 e.data.length cap1, .string e.link] 79 (0,0)) by rw[hW]; exact dY wr _)
       have hu:=an (show Below wr.heap.size wr W by rw[hW]; exact eN);have hM:=an (aw hJ.o hu.o);clear hW;refine(ru S e _ true _ (HD.o.below hu.o) hO.o (HE.o.below hM.o) hB.o).mono ?_;rintro e7 w7 ⟨rfl,hE⟩;have hP:=an ((hE.block wr.heap.size (lR HX.o)).trans HX.o);have hN:=an (hu.o.trans (hE.mono hu.o.size));obtain⟨c0,c1,c2,c3,c4,c5,_⟩:=aT hP.o
       clear hE;go_wp2_with fail;refine bP [some 11,none,some 2] (by kernel_rfl) (by kernel_rfl) (by kernel_rfl) ?_;simp only[dQ,aV,aZ,bB,bT];obtain⟨wd,hF⟩: ∃wd:World,wd=w7.drew:=⟨_,rfl⟩;rw[<-hF];have hL:=an (show Below wr.heap.size wr wd by rw[hF]; exact hN.o.trans ((ay w7.heap.size w7).drew.mono hN.o.size))
       have hQ:=an (show wd.heap[wr.heap.size]? =some (.cells #[.string e.path, .int .i64 e.kind, .int .i64 e.mode, .int .i64 e.time, .slice a1 e.data.length cap1, .string e.link] 79 (0,0)) by rw[hF]; exact hP.o);clear hF c0 c1 c2 c3 c4 c5;obtain⟨c0,c1,c2,c3,c4,c5,_⟩:=aT hQ.o;have y0:=(hL.o.cell (bS p0)).trans p0
       repeat (first | (refine cB rfl ?_; simp only[Act.put,ag,ai,ah]) | (refine cR rfl (fun K hK=> ?_); go_simp; refine hK _ ?_; clear hK K))
       refine cQ ?_;refine ei rfl (fun K hK=> ?_);go_wp2_with (go_at_call 118; refine(yW f.path e.path c _ Hb.o HC.o).mono ?_; rintro e8' w8 ⟨rfl,hX⟩; have hl:=an (hL.o.trans (hX.mono hL.o.size)); have ho:=an ((hX.block wr.heap.size (lR hQ.o)).trans hQ.o); clear hX c0 c1 c2 c3 c4 c5 y0)
       repeat (first | (refine cB rfl ?_; simp only[Act.put,ag,ai,ah]) | (refine cR rfl (fun K hK=> ?_); go_simp; refine hK _ ?_; clear hK K))
       refine cQ ?_;have hr:=an (aw hJ.o hl.o);obtain⟨c0,c1,c2,c3,c4,c5,_⟩:=aT ho.o;go_wp2_with fail
       by_cases h0:cu (bl e.path)=[]
       ·have e1:q.toList.isEmpty=true:=by rw[ov,hY.o,cO h0]
        have hH:=an (mg hI.o hp.o (show fP (L.take (j+1)) e=0 by unfold fP; rw[if_pos hZ.o]; unfold nt; rw[if_pos h0]));clear h0;refine(kX e.path q _ (HE.o.below hr.o) (cY hB.o) HQ.o).mono ?_;rintro e9 w9 ⟨rfl,ha⟩;have hz:=an (hl.o.trans (ha.mono hl.o.size));have hg:=an (aw hr.o ha);have hC:=an ((ha.block wr.heap.size (lR ho.o)).trans ho.o)
        have hs:=an (hw.o.same (hz.o.block w.heap.size hw.o.lt));clear ha;obtain⟨c0,c1,c2,c3,c4,c5,_⟩:=aT hC.o;go_wp2_with (at_mapUpdate; go_must (refine kB fX rfl _ _ _ _ rfl kW w.heap.size _ hs.o rfl (.string e.path) (.int .i64 e.kind) rfl rfl (iy hO.o.pth) (re (by have h1:=hH.o; rw[bZ,hp.o]at h1; exact h1)) ?_); intro w10 hj hh)
        have hA:=an hj;have hy:=an hh;clear hj hh c0 c1 c2 c3 c4 c5;go_wp2_with fail
        go_roundw
        case rel=>
         refine⟨j+1+1,by omega,by go_num,hH.o, ?_, ?_⟩
         ·rw[bZ,hp.o,aO]; exact hA.o
         ·exact hg.o.grown hy.o hg.o.size (fun k e=>by cases e; exact au _)
        case measure=>simp[intOf]; omega
       ·have e1:q.toList.isEmpty=false:=by rw[ov,hY.o,cD h0]
        have hR:=an (show ∀x,(match kM (L.take (j+1)) q with | none=>(4:Int) | some g=>if g.kind=2 then 0 else 13)=x->fP (L.take (j+1)) e=x from fun x hx=>by unfold fP; rw[if_pos hZ.o]; unfold nt; rw[if_neg h0,<-HQ.o]; exact hx);clear h0
        cases hf:kM (L.take (j+1)) q with
        | none=>
         have HF:=an hf;have hG:=an (hR.o 4 (by rw[hf]));clear hf;refine(kX e.path q _ (HE.o.below hr.o) (cY hB.o) HQ.o).mono ?_;rintro e9 w9 ⟨rfl,ha⟩;have hz:=an (hl.o.trans (ha.mono hl.o.size));have hg:=an (aw hr.o ha);have hC:=an ((ha.block wr.heap.size (lR ho.o)).trans ho.o);have hs:=an (hw.o.same (hz.o.block w.heap.size hw.o.lt))
         clear ha;obtain⟨c0,c1,c2,c3,c4,c5,_⟩:=aT hC.o;have h3:=wW hs.o hV.o HF.o;go_wp2_with fail;go_ret;exact⟨dK (by rw[jv hS.o hI.o hp.o (x:=4) hG.o (by decide)]),hg.o⟩
        | some g=>
         have HF:=an hf
         by_cases hD:g.kind=2
         ·have e3:(g.kind != 2)=false:=by simp[hD]
          have hH:=an (mg hI.o hp.o (hR.o 0 (by rw[hf]; simp only[if_pos hD])));clear hf hD;refine(kX e.path q _ (HE.o.below hr.o) (cY hB.o) HQ.o).mono ?_;rintro e9 w9 ⟨rfl,ha⟩;have hz:=an (hl.o.trans (ha.mono hl.o.size));have hg:=an (aw hr.o ha);have hC:=an ((ha.block wr.heap.size (lR ho.o)).trans ho.o);have hs:=an (hw.o.same (hz.o.block w.heap.size hw.o.lt))
          clear ha;obtain⟨c0,c1,c2,c3,c4,c5,_⟩:=aT hC.o;have h3:=qZ hs.o hV.o HF.o;go_wp2_with (at_mapUpdate; go_must (refine kB fX rfl _ _ _ _ rfl kW w.heap.size _ hs.o rfl (.string e.path) (.int .i64 e.kind) rfl rfl (iy hO.o.pth) (re (by have h1:=hH.o; rw[bZ,hp.o]at h1; exact h1)) ?_); intro w10 hj hh);have hA:=an hj
          have hy:=an hh;clear hj hh c0 c1 c2 c3 c4 c5;go_wp2_with fail
          go_roundw
          case rel=>
           refine⟨j+1+1,by omega,by go_num,hH.o, ?_, ?_⟩
           ·rw[bZ,hp.o,aO]; exact hA.o
           ·exact hg.o.grown hy.o hg.o.size (fun k e=>by cases e; exact au _)
          case measure=>simp[intOf]; omega
         ·have e3:(g.kind != 2)=true:=by simp[hD]
          have hG:=an (hR.o 13 (by rw[hf]; simp only[if_neg hD]));clear hf hD;refine(kX e.path q _ (HE.o.below hr.o) (cY hB.o) HQ.o).mono ?_;rintro e9 w9 ⟨rfl,ha⟩;have hz:=an (hl.o.trans (ha.mono hl.o.size));have hg:=an (aw hr.o ha);have hC:=an ((ha.block wr.heap.size (lR ho.o)).trans ho.o);have hs:=an (hw.o.same (hz.o.block w.heap.size hw.o.lt))
          clear ha;obtain⟨c0,c1,c2,c3,c4,c5,_⟩:=aT hC.o;have h3:=qZ hs.o hV.o HF.o;go_wp2_with fail;go_ret;exact⟨dK (by rw[jv hS.o hI.o hp.o (x:=13) hG.o (by decide)]),hg.o⟩
      ·have hG:=an (show fP (L.take (j+1)) e=1 by unfold fP; rw[Ha.o,cD h4]; simp);have e8:decide (0<=c)=true:=by simp; omega
       have e7:0<=c:=by omega
       go_wp2_with fail;obtain⟨W,hW⟩: ∃W,W=wr.alloc (.cells #[.string e.path, .int .i64 e.kind, .int .i64 e.mode, .int .i64 e.time, .slice a1 e.data.length cap1, .string e.link] 79):=⟨_,rfl⟩;rw[<-hW];have HX:=an (show W.heap[wr.heap.size]? =some (.cells #[.string e.path, .int .i64 e.kind, .int .i64 e.mode, .int .i64 e.time, .slice a1 e.data.length cap1, .string e.link] 79 (0,0)) by rw[hW]; exact dY wr _)
       have hu:=an (show Below wr.heap.size wr W by rw[hW]; exact eN);have hM:=an (aw hJ.o hu.o);clear hW;refine(ru S e _ true _ (HD.o.below hu.o) hO.o (HE.o.below hM.o) hB.o).mono ?_;rintro e7 w7 ⟨rfl,hE⟩;have hP:=an ((hE.block wr.heap.size (lR HX.o)).trans HX.o);have hN:=an (hu.o.trans (hE.mono hu.o.size));obtain⟨c0,c1,c2,c3,c4,c5,_⟩:=aT hP.o
       clear hE;go_wp2_with fail;refine bP [some 11,none,some 2] (by kernel_rfl) (by kernel_rfl) (by kernel_rfl) ?_;simp only[dQ,aV,aZ,bB,bT];obtain⟨wd,hF⟩: ∃wd:World,wd=w7.drew:=⟨_,rfl⟩;rw[<-hF];have hL:=an (show Below wr.heap.size wr wd by rw[hF]; exact hN.o.trans ((ay w7.heap.size w7).drew.mono hN.o.size))
       have hQ:=an (show wd.heap[wr.heap.size]? =some (.cells #[.string e.path, .int .i64 e.kind, .int .i64 e.mode, .int .i64 e.time, .slice a1 e.data.length cap1, .string e.link] 79 (0,0)) by rw[hF]; exact hP.o);clear hF c0 c1 c2 c3 c4 c5;obtain⟨c0,c1,c2,c3,c4,c5,_⟩:=aT hQ.o;have y0:=(hL.o.cell (bS p0)).trans p0
       repeat (first | (refine cB rfl ?_; simp only[Act.put,ag,ai,ah]) | (refine cR rfl (fun K hK=> ?_); go_simp; refine hK _ ?_; clear hK K))
       refine cQ ?_;refine ei rfl (fun K hK=> ?_);go_wp2_with (go_at_call 118; refine(yW f.path e.path c _ Hb.o HC.o).mono ?_; rintro e8' w8 ⟨rfl,hX⟩; have hl:=an (hL.o.trans (hX.mono hL.o.size)); clear hX c0 c1 c2 c3 c4 c5 y0)
       repeat (first | (refine cB rfl ?_; simp only[Act.put,ag,ai,ah]) | (refine cR rfl (fun K hK=> ?_); go_simp; refine hK _ ?_; clear hK K))
       refine cQ ?_;have hg:=an (aw hJ.o hl.o);go_wp2_with fail;go_ret;exact⟨dK (by rw[jv hS.o hI.o hp.o (x:=1) hG.o (by decide)]),hg.o⟩
   ·have hD:k=n:=by omega
    subst hD;go_wp2_with fail;go_ret;exact⟨dK (by rw[vW hS.o (by rw[<-HN.o]; exact hI.o)]),hJ.o⟩
open Go Go.RowKit Go.Maps
def Ct (p:ByteArray×Int):Value×Value:=(.string p.1, .int .i64 p.2)
def kR (S:Nat->Prop) (w:World) (gv:Value) (gs:List (ByteArray×Int)):Prop:=
 (gv= .map none/\gs=[])\/ ∃b,gv= .map (some b)/\S b/\je Tryz.prog 9 w b (gs.map Ct)
theorem kR.keep {S:Nat->Prop} {w w':World} {gv:Value} {gs:List (ByteArray×Int)} (h:kR S w gv gs) (hs: ∀k,S k->k<w.heap.size->w'.heap[k]? =w.heap[k]?):kR S w' gv gs:=by
 rcases h with h | ⟨b,h1,h0,h2⟩
 ·exact .inl h
 ·exact .inr ⟨b,h1,h0,h2.same (hs b h0 h2.lt)⟩
theorem Cu {S:Nat->Prop} {w:World} {gv:Value} {gs:List (ByteArray×Int)} (h:kR S w gv gs) {n:ByteArray} (hn:n.size<=maxLen):
  (Instr.lookup 47 gv (.string n) false).run Tryz.prog w= .ok (.int .i64 (mH gs n)) w:=by
 have hz:(zeroValue 3).run Tryz.prog w= .ok (.int .i64 0) w:=by kernel_rfl
 obtain⟨l,hl⟩:=iy hn
 rcases h with⟨rfl,rfl⟩ | ⟨b,rfl,_,h2⟩
 ·have:=Maps.look_nil false fX (t:=47) (e:=3) kW hz hl
  simpa [mH]using this
 ·unfold mH
  cases hf:gs.find? (fun p=>decide (p.1=n))with
  | none=>
   have:=h2.is.miss fX kW hz ⟨l,hl⟩ (fun q hq e=>by
    obtain⟨x,hx,rfl⟩:=aW.1 hq;simp only[Ct,eq]at e;have:=eS.1 hf x hx;simp[e]at this) false
   simpa using this
  | some p=>
   have h3:=dL hf;have h4:=jq hf;simp only[aK]at h4;have:=h2.is.hit fX kW ⟨l,hl⟩ (val:= .int .i64 p.2) (aW.2 ⟨p,h3,by rw[<-h4]; rfl⟩) false
   simpa using this
def nL (v:Value) (b:dq):List Value:=[.string b.ref.name, .int .i64 b.ref.gen, .int .i64 b.ref.size,v]
abbrev mE :=Value×dq
def kh (zs:List mE):List Value:=zs.flatMap fun z=>nL z.1 z.2
theorem uA (zs:List mE) (z:mE):kh (zs++[z])=kh zs++nL z.1 z.2:=by simp[kh]
theorem tN {a:Option Addr} {n c:Nat} {b:dq} : ∀u∈nL (.slice a n c) b,u.oneCell'=true:=by
 intro u hu;simp only[nL,bh,dt,or_false]at hu
 rcases hu with rfl | rfl | rfl | rfl<;> rfl
theorem Tryz.appBlobs :km Tryz.prog 49 53 4 56:=km.mk' (z:= .agg #[.string ⟨#[]⟩, .int .i64 0, .int .i64 0, .slice none 0 0]) Tryz.underlying49 (by kernel_rfl) rfl (by decide) (by decide)
structure ig (w : World) (base : Nat) (v : Value) (zs : List mE) : Prop where
 row:w.ownsRow base 53 4 v zs.length (kh zs)
 dat: ∀z∈zs,w.ownsRow base 5 1 z.1 z.2.con.length (z.2.con.map aY)
def nr (k:dm) (c:fL) (gv:Value) (im kb:Nat) (v:Value):List Value:=eI k++fR c++[gv, .map (some im),v, .map (some kb)]
structure kD (w : World) (base bb : Nat) (k : dm) (c : fL) (gv : Value) (im kb : Nat) (v : Value) (bs : List dq) : Prop where
 box:w.heap[bb]? =some (.cells (nr k c gv im kb v).toArray 122 (0,0))
 own: ∃zs:List mE,zs.map Prod.snd=bs/\ig w base v zs
 known:jO w kb (bs.map dq.ref)
structure jl (base bb kb : Nat) (v v' : Value) (w w' : World) : Prop where
 below:Below base w w'
 same: ∀k,k<w.heap.size->k≠bb->k≠kb->v.ownBlock≠some k->w'.heap[k]? =w.heap[k]?
 place: ∀k,v'.ownBlock=some k->v.ownBlock=some k\/w.heap.size<=k
theorem jl.refl (base bb kb:Nat) (v:Value) (w:World):jl base bb kb v v w w:=⟨ay _ _,fun _ _ _ _ _=>rfl,fun _ h=> .inl h⟩
theorem jl.trans {base bb kb:Nat} {v v1 v2:Value} {A B C:World} (h:jl base bb kb v v1 A B) (k:jl base bb kb v1 v2 B C):jl base bb kb v v2 A C:=by
 have hs:=h.below.size;refine⟨h.below.trans k.below,fun i h1 h2 ha h3=>(k.same i (by omega) h2 ha (fun e=> ?_)).trans (h.same i h1 h2 ha h3),fun i e=> ?_⟩
 ·rcases h.place i e with e2 | e2
  ·exact h3 e2
  ·omega
 ·rcases k.place i e with e2 | e2
  ·exact h.place i e2
  ·exact .inr (by omega)
theorem jl.ofBelow {base bb kb:Nat} {v:Value} {w w':World} (h:Below w.heap.size w w') (hb:base<=w.heap.size):jl base bb kb v v w w':=⟨h.mono hb,fun k h1 _ _ _=>h.block k h1,fun _ e=> .inl e⟩
theorem ig.below {w w':World} {base:Nat} {v:Value} {zs:List mE} (h:ig w base v zs) (hb:Below w.heap.size w w'):ig w' base v zs:=⟨cU h.row hb,fun z hz=>cU (h.dat z hz) hb⟩
theorem kD.below {w w':World} {base bb im kb:Nat} {k:dm} {c:fL} {gv v:Value} {bs:List dq} (h:kD w base bb k c gv im kb v bs) (hb:Below w.heap.size w w'):kD w' base bb k c gv im kb v bs:=by
 obtain⟨zs,h1,h2⟩:=h.own;exact⟨(hb.block _ (az h.box)).trans h.box,⟨zs,h1,h2.below hb⟩,h.known.same (hb.block _ h.known.map.lt)⟩
theorem kD.push {w w1 w2:World} {base bb im kb:Nat} {k:dm} {c:fL} {gv v v' dv:Value} {bs:List dq} {zs:List mE} {b:dq} (hz:zs.map Prod.snd=bs) (h:ig w base v zs) (hx:w.heap[bb]? =some (.cells (nr k c gv im kb v).toArray 122 (0,0))) (hs:jO w kb ((bs++[b]).map dq.ref))
  (hb:Below w.heap.size w w1) (hn:w1.ownsRow base 5 1 dv b.con.length (b.con.map aY)) (hown:w2.ownsRow base 53 4 v' (zs.length+1) (kh zs++nL dv b)) (hg:w1.grownBy w2 v.ownBlock) (hpl: ∀k,v'.ownBlock=some k->v.ownBlock=some k\/w1.heap.size<=k) (hbe:base<=bb) (hbz:base<=w.heap.size):
  kD (w2.setCell ⟨bb,12,none⟩ v') base bb k c gv im kb v' (bs++[b])/\jl base bb kb v v' w (w2.setCell ⟨bb,12,none⟩ v'):=by
 have h1:=h.below hb;have he:=dV hb hx;have hp:=az he;have hh:=hb.size;have hj:v.ownBlock≠some bb:=fun e=>by
  obtain⟨cs,hc⟩:=bL h1.row e;exact absurd (bV he hc) (by decide)
 have hf:v'.ownBlock≠some bb:=fun e=>by
  rcases hpl bb e with e | e
  ·exact hj e
  ·omega
 have hk:=(hg.block bb hp (fun e=>hj e.symm)).trans he;have ha: ∀(u:Value) (ds:List UInt8),w1.ownsRow base 5 1 u ds.length (ds.map aY)->(w2.setCell ⟨bb,12,none⟩ v').ownsRow base 5 1 u ds.length (ds.map aY):=by
  intro u ds hd;refine eV hd (fun i hi hu=> ?_);obtain⟨cs,hc⟩:=bL hd hu;rw[aF _ _ _ _ (show i≠bb from fun e=>absurd (bV (e▸hc) he) (by decide))];refine hg.block i hi (fun e=> ?_);obtain⟨cs2,hl⟩:=bL h1.row e.symm;exact absurd (bV hc hl) (by decide)
 have hm:kb<w1.heap.size:=aR hs.map.lt hh;have ho:(w2.setCell ⟨bb,12,none⟩ v').heap[kb]? =w.heap[kb]? :=by
  rw[aF _ _ _ _ (show kb≠bb from fun e=>hs.cells (by rw[e]; exact hx))];refine(hg.block kb hm (fun e=> ?_)).trans (hb.block kb hs.map.lt);obtain⟨cs,hc⟩:=bL h.row e.symm;exact hs.cells hc
 refine⟨⟨?_,⟨zs++[(dv,b)],by simp[hz], ?_,fun z hz=> ?_⟩,hs.same ho⟩,⟨?_,fun i hi e1 e2 e3=> ?_,fun i e=> ?_⟩⟩
 ·have:=jf (k:=12) hk v'
  simpa [nr,eI,fR]using this
 ·rw[ar,bQ,uA];exact hown.kept (cJ _ _ _ _) (.inr (fun e=>hf e))
 ·rcases aU.1 hz with hz | hz
  ·exact ha _ _ (h1.dat z hz)
  ·rw[aQ]at hz;subst hz;exact ha _ _ hn
 ·exact((hb.mono hbz).grown hg (aB hbz hh) (fun i hi=>(h.row.lt i hi).1)).grown (cJ w2 bb 12 v') (aB hbz (aB hh hg.size)) (fun i hi=>by cases hi; exact hbe)
 ·rw[aF _ _ _ _ (show i≠bb from e1)];exact(hg.block i (by omega) (fun e=>e3 e.symm)).trans (hb.block i hi)
 ·rcases hpl i e with e | e
  ·exact .inl e
  ·exact .inr (by omega)
end Go.Proofs.YtpffpjbkbaleiaaGreatDoor
