/- Texts of this proof, one after the other: NodA, Lib, FileA, FileB, LoadP, PartB, LookP, WalkA, WalkB, WalkC, Needs, NeedP, LoadA, LookA, FtC, FtD, FtE, FtP, FtQ, BldA. -/
import Derived.Test.YtpffpjbkbaleiaaGreatDoorCLookupsD
set_option maxRecDepth 100000
set_option maxHeartbeats 8000000
namespace Go.Proofs.YtpffpjbkbaleiaaGreatDoor
open Go Go.RowKit
def eh (l:List az) (k:Nat):List UInt8:=aN l.length++(l.take k).flatMap dA
theorem sQ {l:List az} {k:Nat} {it:az} (h:l[k]? =some it):eh l (k+1)=eh l k++dA it:=by
 unfold eh;rw[List.take_add_one,h,List.flatMap_append,<-List.append_assoc]; simp
theorem un (l:List az):eh l l.length=dJ l:=by unfold eh dJ; rw[List.take_length]
theorem oF (l:List az) (k:Nat):(eh l k).length<=(dJ l).length:=by
 have:(l.flatMap dA).length=((l.take k).flatMap dA).length+((l.drop k).flatMap dA).length:=by
  rw[<-List.length_append,<-List.flatMap_append,List.take_append_drop]
 unfold eh dJ;rw[List.length_append,List.length_append];omega
def nU (l:List az) (w:World) (e:Ending) (w':World):Prop:=Below w.heap.size w w'/\
 if bZ l=true then(if(dJ l).length<=32768 then ∃v,e= .returned (.tuple #[v, .int .i64 0])/\iF w' w.heap.size v (dJ l)else e= .returned (.tuple #[.slice none 0 0, .int .i64 2]))
 else e= .returned (.tuple #[.slice none 0 0, .int .i64 1])
theorem vd (S:Nat->Prop) (l:List az) (v:Value) (w:World) (hv:aY S w v l) (henv:gG w) (hsm:(dJ l).length<1000000000000) (htm: ∀it∈l,it.time<9223372036854775808):Calls Tryz.prog 15 #[v] w (nU l w):=by
 obtain⟨a,cap,rfl,hc,hm,-⟩:=aP.shape hv dR.len;unfold maxLen at hm;obtain⟨n,hn⟩: ∃n,n=l.length:=⟨_,rfl⟩;rw[<-hn]at hv hc ⊢;have HV:=ab hv;have HE:=ab henv;have HN:=ab hn;have HSM:=ab hsm;have HTM:=ab htm;clear hv henv hn hsm htm
 by_cases hval:bZ l=true
 ·have HVN:=ab hval;have HALL:=ab (rY hval);clear hval;have hn4:n<=4096:=by rw[HN.out]; exact HALL.out.1
  go_enter Tryz.func15,Tryz.ntmps15
  go_wp2_with fail;refine(gg S l _ true w HV.out HE.out HVN.out).mono ?_;rintro e w1 ⟨rfl,hb1⟩;have HB1:=ab hb1;clear hb1;go_wp2_with fail;refine(qr w1).mono ?_;rintro e w2 ⟨rfl,hw2,hb2⟩;obtain⟨wb,hwb⟩: ∃wb,wb=w1.heap.size:=⟨_,rfl⟩;rw[<-hwb]at hw2 ⊢;have HB2:=ab (ah HB1.out hb2);have HW2:=ab hw2;have HWB:=ab (show w.heap.size<=wb by rw[hwb]; exact HB1.out.size)
  clear hw2 hb2 hwb;go_wp2_with fail;refine(pW wb n [] w2 HW2.out (by simp) (by omega)).mono ?_;rintro e w3 ⟨rfl,hw3,hk3⟩;rw[List.nil_append]at hw3;have HW3:=ab hw3;have HB3:=ab (HB2.out.trans (hk3.1.mono HWB.out));clear hw3 hk3;go_wp2_with fail
  go_loopw [21] (fun i wr=> ∃k:Nat,k<=n/\i= .int .i64 (k:Int)/\lp wr wb (eh l k)/\Below w.heap.size w wr) (fun i _=>n-(intOf i).toNat)
  case atStart=>exact⟨0,Nat.zero_le _,rfl,by have:=HW3.out; rw[HN.out]at this; simpa [eh]using this,HB3.out⟩
  case round=>
   obtain⟨k,hk,rfl,hw,hb⟩:=hrel;have HW:=ab hw;have HB:=ab hb;clear hw hb
   by_cases hlt:k<n
   ·obtain⟨it,hr⟩: ∃it,l[k]? =some it:=⟨l[k]'(by rw[<-HN.out]; exact hlt),by simp⟩;obtain⟨b,o,ca,cc,rfl,hok,hrf,hbl,-,hcl0⟩:=dF HV.out (Below.refl _ _) hr;have hcl: ∀j,j<10->wr.cell? ⟨b,o+k*10+j,none⟩=(cL (.slice ca it.chunks.length cc) it)[j]? :=fun j hj=>(HB.out.cell (p:=⟨b,o+k*10+j,none⟩) hbl).trans (hcl0 j hj)
    have HR:=ab hr;have HO:=ab hok;have HRF:=ab hrf;have HVI:=ab (HALL.out.2 it (List.mem_of_getElem? hr));have q0:=hcl 0 (by omega);have q1:=hcl 1 (by omega);have q2:=hcl 2 (by omega);have q3:=hcl 3 (by omega);have q4:=hcl 4 (by omega);have q5:=hcl 5 (by omega);have q6:=hcl 6 (by omega);have q7:=hcl 7 (by omega);have q8:=hcl 8 (by omega);have q9:=hcl 9 (by omega);simp only[cL,BW,Nat.add_zero]at q0 q1 q2 q3 q4 q5 q6 q7 q8 q9
    have hvi:=HVI.out;unfold cw at hvi;rw[Bool.and_eq_true]at hvi;have hh:=ux.1 hvi.1;have HBK:=ab (yY hvi.2);have HVB:=ab hvi.2;have htm:=HTM.out it (List.mem_of_getElem? hr);obtain⟨kd,hkd⟩: ∃kd,kd=it.kind.toNat:=⟨_,rfl⟩;obtain⟨md,hmd⟩: ∃md,md=it.mode.toNat:=⟨_,rfl⟩;obtain⟨td,htd⟩: ∃td,td=it.time.toNat:=⟨_,rfl⟩;have hk0:=hh.md0;have hm0:=hh.md1
    have ht0:=hh.tm0;have hnm:=ue hh.val hh.nos;have hki:it.kind=(kd:Int):=by rcases HBK.out with h | h | h<;> omega
    have hmi:it.mode=(md:Int):=by omega
    have hti:it.time=(td:Int):=by omega
    have hkd3:kd<=3:=by rcases HBK.out with h | h | h<;> omega
    have hmd9:md<=511:=by omega
    have htd9:td<9223372036854775808:=by omega
    have HIN:=ab (And.intro hkd (And.intro hmd htd));have hns:it.name.size=(bl it.name).length:=aw _;have hwk:IntKind.u64.wrap (kd:Int)=(kd:Int):=by rw[IntKind.wrap_u64]; omega
    have hwm:IntKind.u64.wrap (md:Int)=(md:Int):=by rw[IntKind.wrap_u64]; omega
    have hwt:IntKind.u64.wrap (td:Int)=(td:Int):=by rw[IntKind.wrap_u64]; omega
    rw[hki]at q1;rw[hmi]at q2;rw[hti]at q3;have HBKk:=ab (show kd=1\/kd=2\/kd=3 by rcases HBK.out with h | h | h<;> omega);have HKI:=ab hki;clear hr hok hrf hcl hcl0 hvi hh htm hkd hmd htd hk0 hm0 ht0 hki hmi hti;have l1:=oF l k;have l2:=HSM.out;have l3:=dB (n:=it.name.size) (by omega);have l4:=dB (n:=kd) (by omega);have l5:=dB (n:=md) (by omega)
    have l6:=dB (n:=td) (by omega);have HLN:=ab (show(eh l k).length<1000000000000/\(aN it.name.size).length<=10/\(aN kd).length<=10/\(aN md).length<=10/\(aN td).length<=10/\(bl it.name).length<=64/\it.name.size<=64 from⟨by omega,l3,l4,l5,l6,hnm,by omega⟩);clear l1 l2 l3 l4 l5 l6 hnm hns;have hwbl:wb<wr.heap.size:=by obtain⟨_,h,_⟩:=HW.out; exact lt_of_block h
    have HA:=ab ((Below.refl wr.heap.size wr).alloc (Nat.le_refl _) (.cells #[.string it.name, .int .i64 (kd:Int), .int .i64 (md:Int), .int .i64 (td:Int), .int .i64 it.size, .string it.link, .slice ca it.chunks.length cc, .string it.node.name, .int .i64 it.node.gen, .int .i64 it.node.size] 28));have HX4:=ab (bQ wr (.cells #[.string it.name, .int .i64 (kd:Int), .int .i64 (md:Int), .int .i64 (td:Int), .int .i64 it.size, .string it.link, .slice ca it.chunks.length cc, .string it.node.name, .int .i64 it.node.gen, .int .i64 it.node.size] 28))
    have HW4:=ab (HW.out.below HA.out);have HB4:=ab (HB.out.trans (HA.out.mono HB.out.size));go_wp2_with fail;clear q0 q1 q2 q3 q4 q5 q6 q7 q8 q9;refine(rZ wb it.name _ _ HW4.out (by have:=HLN.out; omega) (by have:=HLN.out; omega)).mono ?_;rintro e wx ⟨rfl,hw5,hk5⟩;have HX5:=ab ((hk5.2 _ (by decide) (by decide) _ _ HX4.out).trans HX4.out);have HW5:=ab hw5;have HB5:=ab (HB4.out.trans (hk5.1.mono HWB.out))
    clear hw5 hk5 HX4 HW4 HB4;have HX4:=HX5;have HW4:=HW5;have HB4:=HB5;clear HX5 HW5 HB5;have c0:=aa (k:=0) HX4.out;have c1:=aa (k:=1) HX4.out;have c2:=aa (k:=2) HX4.out;have c3:=aa (k:=3) HX4.out;have c5:=aa (k:=5) HX4.out;have c6:=aa (k:=6) HX4.out;have c7:=aa (k:=7) HX4.out;have c8:=aa (k:=8) HX4.out;have c9:=aa (k:=9) HX4.out
    simp only[aJ]at c0 c1 c2 c3 c5 c6 c7 c8 c9;go_wp2_with fail;clear c0 c1 c2 c3 c5 c6 c7 c8 c9;refine(eV wb kd _ _ HW4.out (by have:=HLN.out; simp only[List.length_append]; omega) (by omega)).mono ?_;rintro e wx ⟨rfl,hw5,hk5⟩;have HX5:=ab ((hk5.2 _ (by decide) (by decide) _ _ HX4.out).trans HX4.out);have HW5:=ab hw5;have HB5:=ab (HB4.out.trans (hk5.1.mono HWB.out));clear hw5 hk5 HX4 HW4 HB4
    have HX4:=HX5;have HW4:=HW5;have HB4:=HB5;clear HX5 HW5 HB5;have c0:=aa (k:=0) HX4.out;have c1:=aa (k:=1) HX4.out;have c2:=aa (k:=2) HX4.out;have c3:=aa (k:=3) HX4.out;have c5:=aa (k:=5) HX4.out;have c6:=aa (k:=6) HX4.out;have c7:=aa (k:=7) HX4.out;have c8:=aa (k:=8) HX4.out;have c9:=aa (k:=9) HX4.out;simp only[aJ]at c0 c1 c2 c3 c5 c6 c7 c8 c9
    go_wp2_with fail;clear c0 c1 c2 c3 c5 c6 c7 c8 c9;refine(eV wb md _ _ HW4.out (by have:=HLN.out; simp only[List.length_append]; omega) (by omega)).mono ?_;rintro e wx ⟨rfl,hw5,hk5⟩;have HX5:=ab ((hk5.2 _ (by decide) (by decide) _ _ HX4.out).trans HX4.out);have HW5:=ab hw5;have HB5:=ab (HB4.out.trans (hk5.1.mono HWB.out));clear hw5 hk5 HX4 HW4 HB4;have HX4:=HX5;have HW4:=HW5
    have HB4:=HB5;clear HX5 HW5 HB5;have c0:=aa (k:=0) HX4.out;have c1:=aa (k:=1) HX4.out;have c2:=aa (k:=2) HX4.out;have c3:=aa (k:=3) HX4.out;have c5:=aa (k:=5) HX4.out;have c6:=aa (k:=6) HX4.out;have c7:=aa (k:=7) HX4.out;have c8:=aa (k:=8) HX4.out;have c9:=aa (k:=9) HX4.out;simp only[aJ]at c0 c1 c2 c3 c5 c6 c7 c8 c9;go_wp2_with fail
    clear c0 c1 c2 c3 c5 c6 c7 c8 c9;have HNX:=ab (sQ HR.out);have HLX:=ab (show(eh l (k+1)).length<1000000000000 by have h1:=oF l (k+1); have h2:=HSM.out; omega)
    rcases HBKk.out with h | h | h
    ·subst h;have hbf:=mh (by rw[HKI.out]; rfl) HVB.out;have HBF:=ab hbf.2.2.1;obtain⟨_,_,heq,hcn,hcm,-⟩:=aP.shape HRF.out gH.len;simp only[Value.slice.injEq]at heq;obtain⟨rfl,-,rfl⟩:=heq;obtain⟨n2,hn2⟩: ∃n2,n2=it.chunks.length:=⟨_,rfl⟩;have HN2:=ab hn2;unfold maxLen at hcm;rw[<-hn2]at HX4 HRF hcn;have hn2b:n2<9223372036854775808:=by omega
     have HTL:=ab (show dA it=aN it.name.size++(bl it.name++(aN 1++(aN md++(aN td++(aN n2++it.chunks.flatMap dC))))) by
      unfold dA lD;rw[if_pos (by rw[HKI.out]; rfl),<-HIN.out.1,<-HIN.out.2.1,<-HIN.out.2.2,<-hn2])
     clear hn2 hbf;refine(eV wb td _ _ HW4.out (by have:=HLN.out; simp only[List.length_append]; omega) (by omega)).mono ?_;rintro e wx ⟨rfl,hw5,hk5⟩;have HX5:=ab ((hk5.2 _ (by decide) (by decide) _ _ HX4.out).trans HX4.out);have HW5:=ab hw5;have HB5:=ab (HB4.out.trans (hk5.1.mono HWB.out));clear hw5 hk5 HX4 HW4 HB4;have HX4:=HX5;have HW4:=HW5;have HB4:=HB5;clear HX5 HW5 HB5
     have c0:=aa (k:=0) HX4.out;have c1:=aa (k:=1) HX4.out;have c2:=aa (k:=2) HX4.out;have c3:=aa (k:=3) HX4.out;have c5:=aa (k:=5) HX4.out;have c6:=aa (k:=6) HX4.out;have c7:=aa (k:=7) HX4.out;have c8:=aa (k:=8) HX4.out;have c9:=aa (k:=9) HX4.out;simp only[aJ]at c0 c1 c2 c3 c5 c6 c7 c8 c9;go_wp2_with fail;clear c0 c1 c2 c3 c5 c6 c7 c8 c9
     refine(pW wb n2 _ _ HW4.out (by have:=HLN.out; simp only[List.length_append]; omega) hn2b).mono ?_;rintro e wx ⟨rfl,hw5,hk5⟩;have HX5:=ab ((hk5.2 _ (by decide) (by decide) _ _ HX4.out).trans HX4.out);have HW5:=ab hw5;have HB5:=ab (HB4.out.trans (hk5.1.mono HWB.out));clear hw5 hk5 HX4 HW4 HB4;have HX4:=HX5;have HW4:=HW5;have HB4:=HB5;clear HX5 HW5 HB5;have c0:=aa (k:=0) HX4.out
     have c1:=aa (k:=1) HX4.out;have c2:=aa (k:=2) HX4.out;have c3:=aa (k:=3) HX4.out;have c5:=aa (k:=5) HX4.out;have c6:=aa (k:=6) HX4.out;have c7:=aa (k:=7) HX4.out;have c8:=aa (k:=8) HX4.out;have c9:=aa (k:=9) HX4.out;simp only[aJ]at c0 c1 c2 c3 c5 c6 c7 c8 c9;go_wp2_with fail;clear c0 c1 c2 c3 c5 c6 c7 c8 c9;obtain⟨D,hDw,hDe⟩: ∃D,lp wx wb D/\D++it.chunks.flatMap dC=eh l (k+1):=⟨_,HW4.out,by rw[HNX.out,HTL.out]; simp[List.append_assoc]⟩
     have HDW:=ab hDw;have HDE:=ab hDe;clear hDw hDe
     go_loopw [56] (fun j w6=> ∃m:Nat,m<=n2/\j= .int .i64 (m:Int)/\lp w6 wb (D++(it.chunks.take m).flatMap dC)/\Below w.heap.size w w6) (fun j _=>n2-(intOf j).toNat)
     case atStart=>exact⟨0,Nat.zero_le _,rfl,by simpa using HDW.out,HB4.out⟩
     case round=>
      obtain⟨m,hmn,rfl,hw6,hb6⟩:=hrel;have HW6:=ab hw6;have HB6:=ab hb6;clear hw6 hb6
      by_cases hlm:m<n2
      ·obtain⟨r,hr2⟩: ∃r,it.chunks[m]? =some r:=⟨it.chunks[m]'(by rw[<-HN2.out]; exact hlm),by simp⟩;have HR2:=ab hr2;have HVR:=ab ((HBF.out r (List.mem_of_getElem? hr2)).1);obtain⟨b2,o2,rfl,-,p0,p1,p2⟩:=fy HRF.out HB6.out hr2;have HLD:=ab (show(D++(it.chunks.take m).flatMap dC).length<1098000000000 by
        have h1:=congrArg List.length HDE.out;have h2:=HLX.out;have h3:(it.chunks.flatMap dC).length=((it.chunks.take m).flatMap dC).length+((it.chunks.drop m).flatMap dC).length:=by
         rw[<-List.length_append,<-List.flatMap_append,List.take_append_drop]
        rw[List.length_append]at h1 ⊢
        omega)
       clear hr2;have HA6:=ab ((Below.refl wr.heap.size wr).alloc (Nat.le_refl _) (.cells #[.string r.name, .int .i64 r.gen, .int .i64 r.size] 26));have HTK:=ab (show(it.chunks.take (m+1)).flatMap dC=(it.chunks.take m).flatMap dC++dC r by
        rw[List.take_add_one,HR2.out,List.flatMap_append]; simp)
       have HR6:=ab (mf wb r _ _ (HW6.out.below HA6.out) HLD.out HVR.out);have HB7:=ab (HB6.out.trans (HA6.out.mono HB6.out.size));go_wp2_with fail;refine HR6.out.mono ?_;rintro e w8 ⟨rfl,hw8,hk8⟩;have HW8:=ab hw8;have HB8:=ab (HB7.out.trans (hk8.1.mono HWB.out));clear hw8 hk8 p0 p1 p2;go_wp2_with fail
       go_roundw
       case rel=>
        refine⟨m+1,by omega,by go_num, ?_,HB8.out⟩;rw[HTK.out,<-List.append_assoc];exact HW8.out
       case measure=>simp[intOf]; omega
      ·have hm2:m=n2:=by omega
       subst hm2;have HWE:=ab (show lp _ wb (eh l (k+1)) by have:=HW6.out; rw[HN2.out,List.take_length,HDE.out]at this; exact this);go_wp2_with fail
       go_roundw
       case rel=>exact⟨k+1,by omega,by go_num,HWE.out,HB6.out⟩
       case measure=>simp[intOf]; omega
    ·subst h;have hbf:=Bv (by rw[HKI.out]; rfl) HVB.out;have HBF:=ab hbf.2.2.2;have HTL:=ab (show dA it=aN it.name.size++(bl it.name++(aN 2++(aN md++(aN td++dC it.node)))) by
      unfold dA lD;rw[if_neg (by rw[HKI.out]; decide),if_pos (by rw[HKI.out]; rfl),<-HIN.out.1,<-HIN.out.2.1,<-HIN.out.2.2])
     clear hbf;refine(eV wb td _ _ HW4.out (by have:=HLN.out; simp only[List.length_append]; omega) (by omega)).mono ?_;rintro e wx ⟨rfl,hw5,hk5⟩;have HX5:=ab ((hk5.2 _ (by decide) (by decide) _ _ HX4.out).trans HX4.out);have HW5:=ab hw5;have HB5:=ab (HB4.out.trans (hk5.1.mono HWB.out));clear hw5 hk5 HX4 HW4 HB4;have HX4:=HX5;have HW4:=HW5;have HB4:=HB5;clear HX5 HW5 HB5
     have c0:=aa (k:=0) HX4.out;have c1:=aa (k:=1) HX4.out;have c2:=aa (k:=2) HX4.out;have c3:=aa (k:=3) HX4.out;have c5:=aa (k:=5) HX4.out;have c6:=aa (k:=6) HX4.out;have c7:=aa (k:=7) HX4.out;have c8:=aa (k:=8) HX4.out;have c9:=aa (k:=9) HX4.out;simp only[aJ]at c0 c1 c2 c3 c5 c6 c7 c8 c9;go_wp2_with fail;clear c0 c1 c2 c3 c5 c6 c7 c8 c9
     refine(mf wb it.node _ _ HW4.out (by have:=HLN.out; simp only[List.length_append]; omega) HBF.out).mono ?_;rintro e wx ⟨rfl,hw5,hk5⟩;have HX5:=ab ((hk5.2 _ (by decide) (by decide) _ _ HX4.out).trans HX4.out);have HW5:=ab hw5;have HB5:=ab (HB4.out.trans (hk5.1.mono HWB.out));clear hw5 hk5 HX4 HW4 HB4;have HX4:=HX5;have HW4:=HW5;have HB4:=HB5;clear HX5 HW5 HB5;have c0:=aa (k:=0) HX4.out
     have c1:=aa (k:=1) HX4.out;have c2:=aa (k:=2) HX4.out;have c3:=aa (k:=3) HX4.out;have c5:=aa (k:=5) HX4.out;have c6:=aa (k:=6) HX4.out;have c7:=aa (k:=7) HX4.out;have c8:=aa (k:=8) HX4.out;have c9:=aa (k:=9) HX4.out;simp only[aJ]at c0 c1 c2 c3 c5 c6 c7 c8 c9;go_wp2_with fail;clear c0 c1 c2 c3 c5 c6 c7 c8 c9
     go_roundw
     case rel=>
      refine⟨k+1,by omega,by go_num, ?_,HB4.out⟩;rw[HNX.out,HTL.out]
      simpa [List.append_assoc]using HW4.out
     case measure=>simp[intOf]; omega
    ·subst h;have hbf:=yZ (by rw[HKI.out]; rfl) HVB.out;have HBF:=ab hbf.2.2.2.2.1;have HTL:=ab (show dA it=aN it.name.size++(bl it.name++(aN 3++(aN md++(aN td++(aN it.link.size++bl it.link))))) by
      unfold dA lD;rw[if_neg (by rw[HKI.out]; decide),if_neg (by rw[HKI.out]; decide),<-HIN.out.1,<-HIN.out.2.1,<-HIN.out.2.2])
     clear hbf;refine(eV wb td _ _ HW4.out (by have:=HLN.out; simp only[List.length_append]; omega) (by omega)).mono ?_;rintro e wx ⟨rfl,hw5,hk5⟩;have HX5:=ab ((hk5.2 _ (by decide) (by decide) _ _ HX4.out).trans HX4.out);have HW5:=ab hw5;have HB5:=ab (HB4.out.trans (hk5.1.mono HWB.out));clear hw5 hk5 HX4 HW4 HB4;have HX4:=HX5;have HW4:=HW5;have HB4:=HB5;clear HX5 HW5 HB5
     have c0:=aa (k:=0) HX4.out;have c1:=aa (k:=1) HX4.out;have c2:=aa (k:=2) HX4.out;have c3:=aa (k:=3) HX4.out;have c5:=aa (k:=5) HX4.out;have c6:=aa (k:=6) HX4.out;have c7:=aa (k:=7) HX4.out;have c8:=aa (k:=8) HX4.out;have c9:=aa (k:=9) HX4.out;simp only[aJ]at c0 c1 c2 c3 c5 c6 c7 c8 c9;go_wp2_with fail;clear c0 c1 c2 c3 c5 c6 c7 c8 c9
     refine(rZ wb it.link _ _ HW4.out (by have:=HLN.out; simp only[List.length_append]; omega) (by have:=HBF.out; omega)).mono ?_;rintro e wx ⟨rfl,hw5,hk5⟩;have HX5:=ab ((hk5.2 _ (by decide) (by decide) _ _ HX4.out).trans HX4.out);have HW5:=ab hw5;have HB5:=ab (HB4.out.trans (hk5.1.mono HWB.out));clear hw5 hk5 HX4 HW4 HB4;have HX4:=HX5;have HW4:=HW5;have HB4:=HB5;clear HX5 HW5 HB5
     have c0:=aa (k:=0) HX4.out;have c1:=aa (k:=1) HX4.out;have c2:=aa (k:=2) HX4.out;have c3:=aa (k:=3) HX4.out;have c5:=aa (k:=5) HX4.out;have c6:=aa (k:=6) HX4.out;have c7:=aa (k:=7) HX4.out;have c8:=aa (k:=8) HX4.out;have c9:=aa (k:=9) HX4.out;simp only[aJ]at c0 c1 c2 c3 c5 c6 c7 c8 c9;go_wp2_with fail;clear c0 c1 c2 c3 c5 c6 c7 c8 c9
     go_roundw
     case rel=>
      refine⟨k+1,by omega,by go_num, ?_,HB4.out⟩;rw[HNX.out,HTL.out]
      simpa [List.append_assoc]using HW4.out
     case measure=>simp[intOf]; omega
   ·have hk2:k=n:=by omega
    subst hk2;have HWE:=ab (show lp wr wb (dJ l) by have:=HW.out; rw[HN.out,un]at this; exact this);go_wp2_with fail;refine(AQ wb (dJ l) wr HWE.out (by have:=HSM.out; omega)).mono ?_;rintro e w9 ⟨hb9,hif⟩;obtain⟨m,hm0⟩: ∃m,m=(dJ l).length:=⟨_,rfl⟩;rw[<-hm0]at hif;have HM0:=ab hm0;have HB9:=ab (HB.out.trans (hb9.mono HB.out.size));have hbs:=HB.out.size
    by_cases hbig:m<=1048576
    ·rw[if_pos hbig]at hif;obtain⟨v9,rfl,ho9⟩:=hif;obtain⟨a9,c9,hv9,-,-⟩:=aj ho9;rw[<-hm0]at hv9;subst hv9;have HO9:=ab (cJ ho9 hbs);clear hm0 ho9 hb9
     by_cases hsmall:m<=32768
     ·have hmi:(m:Int)<=32768:=by omega
      go_wp2_with fail
      go_ret2
      refine⟨HB9.out, ?_⟩;rw[if_pos HVN.out,<-HM0.out,if_pos hsmall];exact⟨_,rfl,HO9.out⟩
     ·have hmi:(32768:Int)<(m:Int):=by omega
      have HSB:=ab hsmall;clear hsmall;go_wp2_with fail
      go_ret2
      refine⟨HB9.out, ?_⟩;rw[if_pos HVN.out,<-HM0.out,if_neg HSB.out]
      rfl
    ·rw[if_neg hbig]at hif;subst hif;have HSB:=ab (show ¬m<=32768 by omega);clear hm0 hb9 hbig;go_wp2_with fail
     go_ret2
     refine⟨HB9.out, ?_⟩;rw[if_pos HVN.out,<-HM0.out,if_neg HSB.out]
     rfl
 ·have HVN:=ab (show bZ l=false by simpa using hval);clear hval
  go_enter Tryz.func15,Tryz.ntmps15
  go_wp2_with fail;refine(gg S l _ false w HV.out HE.out HVN.out).mono ?_;rintro e w1 ⟨rfl,hb1⟩;have HB1:=ab hb1;clear hb1;go_wp2_with fail
  go_ret2
  refine⟨HB1.out, ?_⟩;rw[HVN.out]
  rfl
end Go.Proofs.YtpffpjbkbaleiaaGreatDoor
namespace Go.Proofs.YtpffpjbkbaleiaaGreatDoor
open Go.RowKit Go.Maps
def bq (S:Nat->Prop) (w:World):List (Value×Value)->List (ByteArray×List UInt8)->Prop
 | [],[]=>True
 | (k,v)::m,(n,bs)::cs=>k= .string n/\ay S w v bs/\bq S w m cs
 | _,_=>False
theorem bq.mono {S:Nat->Prop} {w w':World} : ∀ {m:List (Value×Value)} {cs:List (ByteArray×List UInt8)},bq S w m cs->(∀v bs,ay S w v bs->ay S w' v bs)->bq S w' m cs
 | [],[],_,_=>trivial
 | [],_::_,h,_=>h
 | _::_,[],h,_=>h
 | (_,_)::_,(_,_)::_,h,hm=>⟨h.1,hm _ _ h.2.1,bq.mono h.2.2 hm⟩
def dm :List (ByteArray×List UInt8)->ByteArray->Option (List UInt8)
 | [],_=>none
 | (k,bs)::cs,n=>if k=n then some bs else dm cs n
theorem bq.hit {S:Nat->Prop} {w:World} {n:ByteArray} {bs:List UInt8} : ∀ {m:List (Value×Value)} {cs:List (ByteArray×List UInt8)},bq S w m cs->dm cs n=some bs-> ∃v,(Value.string n,v)∈m/\ay S w v bs
 | [],[],_,hf=>by simp[dm]at hf
 | [],_::_,h,_=>False.elim h
 | _::_,[],h,_=>False.elim h
 | (k,v)::m,(n',bs')::cs,h,hf=>by
  simp only[dm]at hf
  split at hf
  ·rename_i e;simp only[Option.some.injEq]at hf;subst hf e;exact⟨v,by rw[h.1]; simp,h.2.1⟩
  ·obtain⟨v',h1,h2⟩:=bq.hit h.2.2 hf;exact⟨v',by simp[h1],h2⟩
theorem bq.miss {S:Nat->Prop} {w:World} {n:ByteArray} : ∀ {m:List (Value×Value)} {cs:List (ByteArray×List UInt8)},bq S w m cs->dm cs n=none-> ∀p∈m,p.1≠Value.string n
 | [],[],_,_,_,hp=>by simp at hp
 | [],_::_,h,_,_,_=>False.elim h
 | _::_,[],h,_,_,_=>False.elim h
 | (k,v)::m,(n',bs')::cs,h,hf,p,hp=>by
  simp only[dm]at hf
  split at hf
  ·simp at hf
  ·rename_i e
   rcases List.mem_cons.1 hp with rfl | hp
   ·intro e2;have:=h.1.symm.trans e2;simp only[Value.string.injEq]at this;exact e this
   ·exact bq.miss h.2.2 hf p hp
def bD (S:Nat->Prop) (w:World) (cv:Value) (cs:List (ByteArray×List UInt8)):Prop:=
 (cv= .map none/\cs=[])\/ ∃b m,cv= .map (some b)/\S b/\du Tryz.prog 9 w b m/\bq S w m cs
theorem bD.below {S:Nat->Prop} {w w':World} {cv:Value} {cs:List (ByteArray×List UInt8)} (h:bD S w cv cs) (hb:Below w.heap.size w w'):bD S w' cv cs:=by
 rcases h with h | ⟨b,m,h1,h0,h2,h3⟩
 ·exact .inl h
 ·exact .inr ⟨b,m,h1,h0,h2.same (hb.block b h2.lt),h3.mono (fun v bs hv=>aS.below hv (by omega) hb)⟩
theorem jK :Keyed Tryz.prog 9:=string_keyed Tryz.underlying9
theorem mq {n:ByteArray} (h:n.size<=maxLen): ∃l,keyOf Tryz.prog 9 (.string n)=some l:=⟨.string n.data.toList,by simp[keyOf,mapKey,Tryz.underlying9,h]⟩
theorem bD.hitL {S:Nat->Prop} {w:World} {cv:Value} {cs:List (ByteArray×List UInt8)} (h:bD S w cv cs) {n:ByteArray} {bs:List UInt8} (hn:n.size<=maxLen) (hf:dm cs n=some bs):
  ∃v,(Instr.lookup 133 cv (.string n) true).run Tryz.prog w= .ok (.tuple #[v, .bool true]) w/\ay S w v bs:=by
 rcases h with⟨_,rfl⟩ | ⟨b,m,rfl,_,h2,h3⟩
 ·simp[dm]at hf
 ·obtain⟨v,hv,hb⟩:=h3.hit hf;exact⟨v,h2.hit jK (t:=133) (e:=29) (by kernel_rfl) (mq hn) hv true,hb⟩
theorem bD.missL {S:Nat->Prop} {w:World} {cv:Value} {cs:List (ByteArray×List UInt8)} (h:bD S w cv cs) {n:ByteArray} (hn:n.size<=maxLen) (hf:dm cs n=none):
  (Instr.lookup 133 cv (.string n) true).run Tryz.prog w= .ok (.tuple #[.slice none 0 0, .bool false]) w:=by
 obtain⟨l,hl⟩:=mq hn
 rcases h with⟨rfl,_⟩ | ⟨b,m,rfl,_,h2,h3⟩
 ·exact Maps.look_nil true jK (t:=133) (e:=29) (by kernel_rfl) (by kernel_rfl) hl
 ·exact h2.miss jK (t:=133) (e:=29) (by kernel_rfl) (by kernel_rfl) (mq hn) (h3.miss hf) true
def cA (cs:List (ByteArray×List UInt8)) (r:aI):Except Int (List UInt8):=match dm cs r.name with
 | none=> .error 10
 | some bs=>if(bs.length:Int)=r.size then .ok bs else .error 9
def cE (cs:List (ByteArray×List UInt8)) (r:aI):Except Int (List az):=match cA cs r with
 | .error e=> .error e
 | .ok bs=>match bw bs with
  | none=> .error 9
  | some l=> .ok l
def nS (cs:List (ByteArray×List UInt8)) (r:aI) (S:Nat->Prop) (w:World) (e:Ending) (w':World):Prop:=Below w.heap.size w w'/\match cA cs r with
 | .error x=>e= .returned (.tuple #[.slice none 0 0, .int .i64 x])/\x≠0
 | .ok bs=> ∃v,e= .returned (.tuple #[v, .int .i64 0])/\ay S w' v bs
theorem qP (S:Nat->Prop) (cv:Value) (cs:List (ByteArray×List UInt8)) (r:aI) (w:World) (hc:bD S w cv cs) (hr:bg r):Calls Tryz.prog 129 #[cv,bt r] w (nS cs r S w):=by
 have hnm:=hr.nm;have HC:=ab (hc.below ((Below.refl _ _).alloc (Nat.le_refl _) (.cells #[.string r.name, .int .i64 r.gen, .int .i64 r.size] 26)));have HB:=ab ((Below.refl w.heap.size w).alloc (Nat.le_refl _) (.cells #[.string r.name, .int .i64 r.gen, .int .i64 r.size] 26));unfold bt;clear hc hr
 cases hf:dm cs r.name with
 | none=>
  have hlk:=HC.out.missL hnm hf;have HF:=ab (show cA cs r= .error 10 by unfold cA; rw[hf]);clear hf hnm
  go_enter Tryz.func129,Tryz.ntmps129
  go_wp2_with fail
  go_ret2
  exact⟨HB.out,by rw[HF.out]; exact⟨rfl,by decide⟩⟩
 | some bs=>
  obtain⟨v,hlk,hv⟩:=HC.out.hitL hnm hf;have HV:=ab hv;obtain⟨_,a,cap,rfl,hn,hm,-⟩:=hv;unfold maxLen at hm
  by_cases hl:(bs.length:Int)=r.size
  ·have HF:=ab (show cA cs r= .ok bs by unfold cA; rw[hf]; simp only[if_pos hl]);have e1:((bs.length:Int) != r.size)=false:=by simp[hl]
   clear hf hnm hl
   go_enter Tryz.func129,Tryz.ntmps129
   go_wp2_with fail
   go_ret2
   exact⟨HB.out,by rw[HF.out]; exact⟨_,rfl,HV.out⟩⟩
  ·have HF:=ab (show cA cs r= .error 9 by unfold cA; rw[hf]; simp only[if_neg hl]);have e1:((bs.length:Int) != r.size)=true:=by simp[hl]
   clear hf hnm hl
   go_enter Tryz.func129,Tryz.ntmps129
   go_wp2_with fail
   go_ret2
   exact⟨HB.out,by rw[HF.out]; exact⟨rfl,by decide⟩⟩
def lr (cs:List (ByteArray×List UInt8)) (r:aI) (w:World) (e:Ending) (w':World):Prop:=Below w.heap.size w w'/\match cE cs r with
 | .error x=>e= .returned (.tuple #[.slice none 0 0, .int .i64 x])/\x≠0
 | .ok l=> ∃v,e= .returned (.tuple #[v, .int .i64 0])/\aY (w.heap.size<= ·) w' v l
theorem lM (S:Nat->Prop) (cv:Value) (cs:List (ByteArray×List UInt8)) (r:aI) (w:World) (hc:bD S w cv cs) (hr:bg r) (henv:gG w):Calls Tryz.prog 83 #[cv,bt r] w (lr cs r w):=by
 have HB:=ab ((Below.refl w.heap.size w).alloc (Nat.le_refl _) (.cells #[.string r.name, .int .i64 r.gen, .int .i64 r.size] 26));have HC:=ab (hc.below HB.out);have HR:=ab hr;have HE:=ab (henv.below HB.out);unfold bt;clear hc hr henv
 go_enter Tryz.func83,Tryz.ntmps83
 go_wp2_with fail;refine(qP S cv cs r _ HC.out HR.out).mono ?_;rintro e w1 ⟨hb1,hres⟩;have HB1:=ab (ah HB.out hb1);have HE1:=ab (HE.out.below hb1);clear hb1
 cases hch:cA cs r with
 | error x=>
  rw[hch]at hres;obtain⟨rfl,hx⟩:=hres;have HN:=ab (show cE cs r= .error x by unfold cE; rw[hch]);have HX:=ab hx;have e1:(x != 0)=true:=by simp[hx]
  clear hch hx;go_wp2_with fail
  go_ret2
  exact⟨HB1.out,by rw[HN.out]; exact⟨rfl,HX.out⟩⟩
 | ok bs=>
  rw[hch]at hres;obtain⟨v,rfl,hv⟩:=hres;have HV:=ab hv;obtain⟨_,a,cap,rfl,hn,hm,-⟩:=hv;unfold maxLen at hm;have HCH:=ab hch;clear hch;go_wp2_with fail;refine(rx S bs _ w1 HV.out HE1.out).mono ?_;rintro e w2 ⟨hb2,hres⟩;have HB2:=ab (ah HB1.out hb2);clear hb2
  cases hit:bw bs with
  | none=>
   rw[hit]at hres;simp only at hres;subst hres;have HN:=ab (show cE cs r= .error 9 by unfold cE; rw[HCH.out]; simp only[hit]);clear hit;go_wp2_with fail
   go_ret2
   exact⟨HB2.out,by rw[HN.out]; exact⟨rfl,by decide⟩⟩
  | some l=>
   rw[hit]at hres;simp only at hres;obtain⟨v,rfl,hv⟩:=hres;have hwz:=HB1.out.size;have HV2:=ab (show aY (w.heap.size<= ·) w2 v l from by
    obtain⟨cells,h1,h2⟩:=hv;exact⟨cells,h1.weak (fun k hk=>Nat.le_trans hwz hk),h2.mono (fun c x _ hx=>hx.same (fun k _ hS=>⟨Nat.le_trans hwz hS,rfl⟩))⟩)
   obtain⟨a2,c2,rfl,-,-,-⟩:=aP.shape hv dR.len;have HN:=ab (show cE cs r= .ok l by unfold cE; rw[HCH.out]; simp only[hit]);clear hit hv;go_wp2_with fail
   go_ret2
   exact⟨HB2.out,by rw[HN.out]; exact⟨_,rfl,HV2.out⟩⟩
end Go.Proofs.YtpffpjbkbaleiaaGreatDoor
namespace Go.Proofs.YtpffpjbkbaleiaaGreatDoor
open Go Go.RowKit
def gS (cs:List (ByteArray×List UInt8)):List aI->List UInt8->Except Int (List UInt8)
 | [],acc=> .ok acc
 | r::rs,acc=>match cA cs r with
  | .error x=> .error x
  | .ok bs=>gS cs rs (acc++bs)
def sy (cs:List (ByteArray×List UInt8)) (rs:List aI) (w:World) (e:Ending) (w':World):Prop:=Below w.heap.size w w'/\match gS cs rs []with
 | .error x=>e= .returned (.tuple #[.slice none 0 0, .int .i64 x])/\x≠0
 | .ok bs=> ∃v,e= .returned (.tuple #[v, .int .i64 0])/\iF w' w.heap.size v bs
theorem Di (S:Nat->Prop) (v:Value) (rs:List aI) (n:Nat) (w:World) (hv:aM S w v rs) (h:dl rs=(n:Int)):Calls Tryz.prog 63 #[v] w fun e w'=>e= .returned (.int .i64 (n:Int))/\Below w.heap.size w w':=by
 rw[<-h]; exact mC S v rs w hv
theorem mY (S:Nat->Prop) (cv rv:Value) (cs:List (ByteArray×List UInt8)) (rs:List aI) (w:World) (hc:bD S w cv cs) (hv:aM S w rv rs) (ht0:0<=dl rs) (ht1:dl rs<=1048576) (hn6:rs.length<=1048576) (hrs: ∀r∈rs,dM r=true):
  Calls Tryz.prog 97 #[cv,rv] w (sy cs rs w):=by
 obtain⟨a,cap,rfl,hcap,hcm,-⟩:=aP.shape hv gH.len;obtain⟨t,ht⟩: ∃t,t=(dl rs).toNat:=⟨_,rfl⟩;have hti:dl rs=(t:Int):=by omega
 have ht6:t<=1048576:=by omega
 obtain⟨n,hn⟩: ∃n,n=rs.length:=⟨_,rfl⟩;rw[<-hn]at hv hcap hn6 ⊢;unfold maxLen at hcm;have HC:=ab hc;have HV:=ab hv;have HN:=ab hn;have HTI:=ab hti;have HRS:=ab hrs;clear hrs;obtain⟨ht9,⟨i9,z9,h91,h92,h93,h94,h95⟩,-,-⟩:=Tryz.appBytes;have hb32:i9.bytes*t<=281474976710656:=by rw[h94]; omega
 have H9:=ab (And.intro h91 (And.intro h92 (And.intro h93 hb32)));clear hc hv hn ht0 ht1 ht hti h91 h92 h93 h94 h95 hb32
 go_enter Tryz.func97,Tryz.ntmps97
 have HT6:=ab (show t<=maxLen by unfold maxLen; omega);go_wp2_with fail;refine(Di S _ rs t w HV.out HTI.out).mono ?_;rintro e w1 ⟨rfl,hb1⟩;have HB1:=ab hb1;clear hb1;go_wp2_with (first | ((refine wpList_make_own _ rfl _ _ 29 rfl w.heap.size 5 i9 z9 1 Tryz.underlying29 H9.out.1 H9.out.2.1 H9.out.2.2.1 .i64 .i64 (t:Int) t rfl rfl rfl H9.out.2.2.2 HT6.out HB1.out.size ?_); intro w4 hown4 hg4; have HO4:=ab hown4; have HG4:=ab hg4; clear hown4 hg4))
 have HB4:=ab ((eD HG4.out).mono HB1.out.size |> HB1.out.trans)
 go_loopw [16,6] (fun i x wr=> ∃(k:Nat) (acc:List UInt8),k<=n/\i= .int .i64 (k:Int)/\gS cs rs []=gS cs (rs.drop k) acc/\acc.length<=k*32768/\iF wr w.heap.size x acc/\Below w.heap.size w wr) (fun i _ _=>n-(intOf i).toNat)
 case atStart=>exact⟨0,[],Nat.zero_le _,rfl,rfl,by simp,HO4.out,HB4.out⟩
 case round=>
  obtain⟨k,acc,hk,rfl,hf,hal,ho,hb⟩:=hrel;obtain⟨ax,cx,rfl,hx1,hx2⟩:=aj ho;have HF:=ab hf;have HO:=ab ho;have HB:=ab hb;clear hf ho hb
  by_cases hlt:k<n
  ·obtain⟨r,hr⟩: ∃r,rs[k]? =some r:=⟨rs[k]'(by rw[<-HN.out]; exact hlt),by simp⟩;obtain⟨b,o,rfl,hok,p0,p1,p2⟩:=fy HV.out HB.out hr;have HA:=ab ((Below.refl wr.heap.size wr).alloc (Nat.le_refl _) (.cells #[.string r.name, .int .i64 r.gen, .int .i64 r.size] 26));have hch:=qP S cv cs r _ ((HC.out.below HB.out).below HA.out) hok;have hsz:=(pV.1 (HRS.out r (List.mem_of_getElem? hr))).2.2.2
   have HBA:=ab (HB.out.trans (HA.out.mono HB.out.size));have HOA:=ab (ba HO.out HA.out);have HDR:=ab (show rs.drop k=r::rs.drop (k+1) by
    rw[List.drop_eq_getElem_cons (by rw[<-HN.out]; exact hlt)]
    congr 1
    exact(List.getElem?_eq_some_iff.1 hr).2)
   unfold nS at hch
   cases hcp:cA cs r with
   | error x=>
    rw[hcp]at hch;have HCH:=ab hch;have HFE:=ab (show gS cs rs []= .error x by rw[HF.out,HDR.out,gS,hcp]);clear hcp hch hr hok hsz;go_wp2_with fail;refine HCH.out.mono ?_;rintro e w5 ⟨hb5,rfl,hx⟩;have HB5:=ab (HBA.out.trans (hb5.mono HBA.out.size));clear hb5;go_wp2_with fail
    go_ret2
    refine⟨HB5.out, ?_⟩;rw[HFE.out];exact⟨rfl,hx⟩
   | ok bs=>
    rw[hcp]at hch;have HCH:=ab hch;have HFE:=ab (show gS cs rs []=gS cs (rs.drop (k+1)) (acc++bs) by rw[HF.out,HDR.out,gS,hcp]);have hbl:bs.length<=32768:=by
     unfold cA at hcp
     cases hf:dm cs r.name with
     | none=>rw[hf]at hcp; cases hcp
     | some y=>
      rw[hf]at hcp;simp only at hcp
      split at hcp
      ·cases hcp; omega
      ·cases hcp
    clear hcp hch hr hok hsz;go_wp2_with fail;refine HCH.out.mono ?_;rintro e w5 ⟨hb5,v5,rfl,hby⟩;obtain⟨_,a5,c5,rfl,-,-,-⟩:=id hby
    obtain⟨m,hm⟩: ∃m,m=bs.length:=⟨_,rfl⟩;have HM:=ab hm;have HB5:=ab (HBA.out.trans (hb5.mono HBA.out.size));have HO5:=ab (ba HOA.out hb5);have HBY:=ab (show aS S w5 1 (.slice a5 m c5) m (bs.map au) by rw[hm]; exact hby);rw[<-hm]at hbl ⊢;have HON:=ab (show ∀u∈bs.map au,u.oneCell'=true from ef bs);have HLE:=ab (show acc.length+m<1099511627775 by omega)
    clear hb5 hby hm p0 p1 p2;go_wp2_with (at_builtin; go_must (refine eW Tryz.appBytes rfl _ _ rfl w.heap.size (.slice ax acc.length cx) acc.length (acc.map au) rfl HO5.out _ m (bs.map au) rfl HBY.out HON.out HLE.out HB5.out.size ?_); intro v6 wz hown6 hgrow6; have HO6:=ab hown6; have HG6:=ab hgrow6; clear hown6 hgrow6)
    go_roundw
    case rel=>
     refine⟨k+1,acc++bs,by omega,by go_num,HFE.out, ?_, ?_,HB5.out.grown HG6.out HB5.out.size (fun k e=>(iy HO5.out e).1)⟩
     ·rw[List.length_append,<-HM.out]; omega
     ·unfold iF;rw[List.length_append,List.map_append,<-HM.out];exact HO6.out
    case measure=>simp[intOf]; omega
  ·have hk2:k=n:=by omega
   subst hk2;go_wp2_with fail
   go_ret2
   refine⟨HB.out, ?_⟩;rw[HF.out,HN.out,List.drop_length];exact⟨_,rfl,HO.out⟩
end Go.Proofs.YtpffpjbkbaleiaaGreatDoor
namespace Go.Proofs.YtpffpjbkbaleiaaGreatDoor
open Go Go.RowKit
theorem pS {l:List aI} (hl:l.length<=1048576) (h: ∀r∈l,dM r=true): ∀k,k<=l.length->0<=dl (l.take k)/\dl (l.take k)<=(k:Int)*32768
 | 0,_=>by simp[dl]
 | k+1,hk=>by
  have ih:=pS hl h k (by omega);have hr:l[k]? =some (l[k]'(by omega)):=by simp
  have hz:=(pV.1 (h _ (List.getElem_mem (by omega:k<l.length)))).2.2.2;rw[bB hr,ky];unfold wrap64;omega
end Go.Proofs.YtpffpjbkbaleiaaGreatDoor
namespace Go.Proofs.YtpffpjbkbaleiaaGreatDoor
open Go.RowKit
def fe (dir name:ByteArray):ByteArray:=if dir.size=0 then name else dir++⟨#[47]⟩++name
def kD (cs:List (ByteArray×List UInt8)) (it:az):List UInt8×Int:=
 if it.kind=1 then(match gS cs it.chunks []with | .error x=>([],x) | .ok bs=>(bs,0))else([],0)
def eq (cs:List (ByteArray×List UInt8)) (rec:ByteArray->aI->List bu->Int×List bu) (dir:ByteArray):List az->List bu->Int×List bu
 | [],acc=>(0,acc)
 | it::r,acc=>
  if be (bl (fe dir it.name))=true/\acc.length<4096 then
   let acc1:=acc++[⟨fe dir it.name,it.kind,it.mode,it.time,(kD cs it).1,it.link⟩]
   let p:=if it.kind=2 then rec (fe dir it.name) it.node acc1 else((kD cs it).2,acc1)
   if p.1=0 then eq cs rec dir r p.2 else p
  else(2,acc)
def cZ (cs:List (ByteArray×List UInt8)):Nat->ByteArray->aI->List bu->Int×List bu
 | 0,_,_,acc=>(0,acc)
 | f+1,dir,ref,acc=>match cE cs ref with
  | .error x=>(x,acc)
  | .ok l=>eq cs (cZ cs f) dir l acc
def nb (cs:List (ByteArray×List UInt8)) (root:aI):Except Int (List bu):=
 if dM root=true then(if(cZ cs 514 ⟨#[]⟩ root []).1=0 then .ok (cZ cs 514 ⟨#[]⟩ root []).2 else .error (cZ cs 514 ⟨#[]⟩ root []).1)else .error 1
end Go.Proofs.YtpffpjbkbaleiaaGreatDoor
namespace Go.Proofs.YtpffpjbkbaleiaaGreatDoor
open Go.RowKit
def Bh (xs:List ByteArray) (w:World) (e:Ending) (w':World):Prop:=
 ∃a cap,e= .returned (.tuple #[.slice a xs.length cap, .int .i64 0])/\xs.length<=cap/\cap<=maxLen/\gq (w.heap.size<= ·) w' (.slice a xs.length cap) xs/\Below w.heap.size w w'
theorem kL : ∀ {xs ys:List ByteArray},xs.map bl=ys.map bl->xs=ys
 | [],[],_=>rfl
 | [],_::_,h=>by simp at h
 | _::_,[],h=>by simp at h
 | x::xs,y::ys,h=>by
  simp only[List.map_cons,List.cons.injEq]at h;rw[eN h.1,kL h.2]
def eB (l:List UInt8):List ByteArray:=(aR 47 l).map fun p=>⟨p.toArray⟩
theorem ms (l:List UInt8):(eB l).map bl=aR 47 l:=by
 unfold eB;rw[List.map_map];have:(bl ∘ fun p:List UInt8=>(⟨p.toArray⟩:ByteArray))=id:=by funext p; exact fa p
 rw[this,List.map_id]
theorem vM (s:ByteArray) (w:World) (he:gG w) (hv:be (bl s)=true):Calls Tryz.prog 82 #[.string s] w (Bh (eB (bl s)) w):=by
 refine(jW s w he).mono ?_;rintro e w' (⟨_,v,xs,rfl,hx,hs,hb⟩ | ⟨hf,_⟩)
 ·have:xs=eB (bl s):=kL (hx.trans (ms _).symm);subst this;obtain⟨a,cap,rfl,h1,h2,_⟩:=hs.shape;exact⟨a,cap,rfl,h1,h2,hs,hb⟩
 ·rw[hv]at hf; cases hf
theorem AH (s:ByteArray) (w:World) (he:gG w) (hv:be (bl s)=false):Calls Tryz.prog 82 #[.string s] w fun e w'=>e= .returned (.tuple #[.slice none 0 0, .int .i64 1])/\Below w.heap.size w w':=by
 refine(jW s w he).mono ?_;rintro e w' (⟨ht,_⟩ | ⟨_,rfl,hb⟩)
 ·rw[hv]at ht; cases ht
 ·exact⟨rfl,hb⟩
end Go.Proofs.YtpffpjbkbaleiaaGreatDoor
namespace Go.Proofs.YtpffpjbkbaleiaaGreatDoor
open Go.RowKit
def dI (cs:List (ByteArray×List UInt8)):List ByteArray->az->Except Int az
 | [],it=> .ok it
 | c::r,it=>if it.kind=2 then(match cE cs it.node with
  | .error x=> .error x
  | .ok l=>match l.find? (fun y=>decide (y.name=c))with
   | none=> .error 4
   | some y=>dI cs r y)else .error 4
def dz (root:aI):az:=⟨⟨#[]⟩,2,0,0,0,⟨#[]⟩,[],root⟩
def Dz :az:=⟨⟨#[]⟩,0,0,0,0,⟨#[]⟩,[],aZ⟩
def bW (cs:List (ByteArray×List UInt8)) (root:aI) (path:ByteArray):Except Int az:=
 if be (bl path)=true/\dM root=true then dI cs (eB (bl path)) (dz root)else .error 1
end Go.Proofs.YtpffpjbkbaleiaaGreatDoor
namespace Go.Proofs.YtpffpjbkbaleiaaGreatDoor
open Go.RowKit
structure fT (w : World) (base wb eb sb : Nat) (fv v : Value) (ex rs : List aI) : Prop where
 box:w.heap[wb]? =some (.cells #[fv, .map (some eb), .map (some sb),v] 191 (0,0))
 exs:dw w eb ex
 see:dw w sb rs
 row:w.ownsRow base 26 3 v rs.length (rs.flatMap dp)
 ne:eb≠sb
def iH (wb eb sb:Nat) (v:Value) (k:Nat):Prop:=k=wb\/k=eb\/k=sb\/v.ownBlock=some k
section
variable {w w' : World} {base wb eb sb : Nat} {fv v : Value} {ex rs : List aI}
theorem dw.cells {b:Nat} {l:List aI} (h:dw w b l) {cs:Array Value} {t:TypeId} {z:Nat×Nat} :w.heap[b]? ≠some (.cells cs t z):=fun e=>by
 obtain⟨es,clock,hb,_⟩:=h.map;rw[hb]at e; cases e
theorem fT.wne (h:fT w base wb eb sb fv v ex rs):wb≠eb/\wb≠sb:=⟨fun e=>h.exs.cells (e▸h.box),fun e=>h.see.cells (e▸h.box)⟩
theorem aA {e:TypeId} {sz:Nat} {n:Nat} {xs:List Value} {k:Nat} (h:w.ownsRow base e sz v n xs) (hk:v.ownBlock=some k): ∃cs,w.heap[k]? =some (.cells cs e (0,0)):=by
 obtain⟨_,h2⟩:=h
 rcases h2 with⟨rfl,rfl⟩ | ⟨g,cap,cur,rfl,_,hh,_⟩
 ·cases hk
 ·have:g=k:=by simpa [Value.ownBlock]using hk
  subst this;exact⟨cur,hh⟩
theorem fT.own (h:fT w base wb eb sb fv v ex rs) {k:Nat} (hk:v.ownBlock=some k):k≠wb/\k≠eb/\k≠sb:=by
 obtain⟨cs,hc⟩:=aA h.row hk;refine⟨fun e=> ?_,fun e=> ?_,fun e=> ?_⟩
 ·subst e;have:=hc.symm.trans h.box;simp at this
 ·subst e; exact h.exs.cells hc
 ·subst e; exact h.see.cells hc
theorem fT.keep (h:fT w base wb eb sb fv v ex rs) (hs: ∀k,k<w.heap.size->iH wb eb sb v k->w'.heap[k]? =w.heap[k]?):fT w' base wb eb sb fv v ex rs:=by
 refine⟨(hs wb (lt_of_block h.box) (.inl rfl)).trans h.box,h.exs.same (hs eb h.exs.map.lt (.inr (.inl rfl))),h.see.same (hs sb h.see.map.lt (.inr (.inr (.inl rfl)))), ?_,h.ne⟩;obtain⟨hl,h2⟩:=h.row;refine⟨hl, ?_⟩
 rcases h2 with h2 | ⟨g,cap,cur,rfl,hg,hh,h3⟩
 ·exact .inl h2
 ·exact .inr ⟨g,cap,cur,rfl,hg,(hs g (lt_of_block hh) (.inr (.inr (.inr rfl)))).trans hh,h3⟩
theorem fT.below (h:fT w base wb eb sb fv v ex rs) (hb:Below w.heap.size w w'):fT w' base wb eb sb fv v ex rs:=h.keep (fun k hk _=>hb.block k hk)
theorem fT.ok (h:fT w base wb eb sb fv v ex rs): ∀r∈rs,bg r:=h.see.ok
theorem fT.shape (h:fT w base wb eb sb fv v ex rs): ∃a cap,v= .slice a rs.length cap:=by
 obtain⟨a,cap,h1,_⟩:=aj h.row;exact⟨a,cap,h1⟩
end
def bh (r:aI) (rs:List aI):List aI:=if r∈rs then rs else rs++[r]
def Bn (base wb eb sb:Nat) (fv v:Value) (ex rs:List aI) (w w':World):Prop:=
 ∃v',fT w' base wb eb sb fv v' ex rs/\bU (iH wb eb sb v) w w'/\ ∀k,v'.ownBlock=some k->v.ownBlock=some k\/w.heap.size<=k
theorem nf (base wb eb sb:Nat) (fv v:Value) (ex rs:List aI) (r:aI) (w:World) (h:fT w base wb eb sb fv v ex rs) (hr:bg r) (hl:rs.length<1099511627775) (hbase:base<=w.heap.size):
  Calls Tryz.prog 161 #[.pointer (some ⟨wb,0,none⟩),bt r] w fun e w'=>e= .returned (.tuple #[])/\Bn base wb eb sb fv v ex (bh r rs) w w':=by
 obtain⟨av,cv,rfl⟩:=h.shape;obtain⟨W,hW⟩: ∃W:World,W=(w.alloc (.cells #[.string r.name, .int .i64 r.gen, .int .i64 r.size] 26)).drew:=⟨_,rfl⟩;have hbW:Below w.heap.size w W:=by rw[hW]; exact((Below.refl _ _).alloc (Nat.le_refl _) _).drew
 have HBW:=ab hbW;have HK:=ab (h.below hbW);have bx:W.heap[w.heap.size]? =some (.cells #[.string r.name, .int .i64 r.gen, .int .i64 r.size] 26 (0,0)):=by rw[hW]; exact heap_alloc_new w _
 have HBX:=ab bx;have HR:=ab hr;have HW:=ab hW;have q0:=ai (k:=0) bx;have q1:=ai (k:=1) bx;have q2:=ai (k:=2) bx;have c2:=ai (k:=2) HK.out.box;have hlk:=HK.out.see.look hr;simp only[aJ]at q0 q1 q2 c2;have hwb:wb<w.heap.size:=lt_of_block h.box;have H0:=ab h;unfold bt at hlk ⊢;clear h hr bx hbW
 by_cases hm:r∈rs
 ·have e1:decide (r∈rs)=true:=by simp[hm]
  have HM:=ab (show bh r rs=rs by unfold bh; rw[if_pos hm]);rw[e1]at hlk;clear e1 hm
  go_enter Tryz.func161,Tryz.ntmps161
  go_wp2_with fail;refine an [some 7] (by kernel_rfl) (by kernel_rfl) (by kernel_rfl) ?_;simp only[bi,List.take_succ_cons,List.take_zero];rw[<-HW.out];clear hW
  repeat (first | (refine aF rfl ?_; simp only[Act.put,aB,aC,aD]) | (refine aL rfl (fun K hK=> ?_); go_simp; refine hK _ ?_; clear hK K))
  refine aK ?_;go_wp2_with fail
  go_end0
  exact⟨rfl, .slice av rs.length cv,by rw[HM.out]; exact HK.out,bU.of_below HBW.out,fun k hk=> .inl hk⟩
 ·have e1:decide (r∈rs)=false:=by simp[hm]
  have HM:=ab (show bh r rs=rs++[r] by unfold bh; rw[if_neg hm]);have HNM:=ab hm;rw[e1]at hlk;clear e1 hm
  go_enter Tryz.func161,Tryz.ntmps161
  go_wp2_with fail;refine an [some 7] (by kernel_rfl) (by kernel_rfl) (by kernel_rfl) ?_;simp only[bi,List.take_succ_cons,List.take_zero];rw[<-HW.out];clear hW
  repeat (first | (refine aF rfl ?_; simp only[Act.put,aB,aC,aD]) | (refine aL rfl (fun K hK=> ?_); go_simp; refine hK _ ?_; clear hK K))
  refine aK ?_;go_wp2_with fail;refine an [some 5,none] (by kernel_rfl) (by kernel_rfl) (by kernel_rfl) ?_;simp only[bi,List.take_succ_cons,List.take_zero,List.drop_succ_cons,List.drop_zero];have HK1:=ab (HK.out.below ((Below.refl _ W).drew))
  repeat (first | (refine aF rfl ?_; simp only[Act.put,aB,aC,aD]) | (refine aL rfl (fun K hK=> ?_); go_simp; refine hK _ ?_; clear hK K))
  refine aK ?_;refine bA rfl (fun K hK=> ?_);go_wp2_with (at_mapUpdate; go_must (refine fA rfl _ _ _ rfl sb rs HK1.out.see rfl r HR.out rfl rfl HNM.out ?_); intro w2 hset hg2);have hsb:sb<w.heap.size:=H0.out.see.map.lt;have heb:eb<w.heap.size:=H0.out.exs.map.lt;have hbs:=HBW.out.size;obtain⟨W3,hW3⟩: ∃W3:World,W3=w2.drew:=⟨_,rfl⟩;have hg3:W.grownBy W3 (some sb):=by rw[hW3]; exact ak (b:=W.drew) ⟨rfl,rfl,rfl,Nat.le_refl _,fun _ _ _=>rfl⟩ (ak hg2 ⟨rfl,rfl,rfl,Nat.le_refl _,fun _ _ _=>rfl⟩)
  have hz3:=hg3.size;have HSET:=ab (show dw W3 sb (rs++[r]) by rw[hW3]; exact hset.same rfl);have HEX:=ab (HK.out.exs.same (w':=W3) (hg3.block eb HK.out.exs.map.lt (by simp; exact HK.out.ne)));have HROW:=ab (HK.out.row.kept hg3 (.inr (fun e=>(HK.out.own e).2.2 rfl)));have HWB:=ab (eR hg3 HK.out.box HK.out.wne.2);have HRB:=ab (eR hg3 HBX.out (by omega));have HG3:=ab hg3
  have c3:=ai (k:=3) HWB.out;have f3:=af (k:=3) HWB.out;have r0:=ai (k:=0) HRB.out;have r1:=ai (k:=1) HRB.out;have r2:=ai (k:=2) HRB.out;simp only[aJ]at c3 r0 r1 r2;clear q0 q1 q2 c2 hlk hset hg2 hg3;refine bR (fun w'=>w'.cell? ⟨wb,3,none⟩=some (.slice av rs.length cv)/\w'.cell? ⟨w.heap.size,0,none⟩=some (.string r.name)/\w'.cell? ⟨w.heap.size,1,none⟩=some (.int .i64 r.gen)/\w'.cell? ⟨w.heap.size,2,none⟩=some (.int .i64 r.size)) (by kernel_rfl) (by kernel_rfl) ?_
  simp only[List.dropLast_cons_cons,List.dropLast_singleton,List.length_cons,List.length_nil,Nat.reduceAdd,Nat.reduceSub];rw[<-hW3];clear hW3;refine ag 0 rfl (by kernel_rfl) (by kernel_rfl) (by kernel_rfl) (fun _ _ _ h=>h) rfl (by go_simp) (by rintro w' ⟨hw1,hw2,hw3,hw4⟩; go_simp; rfl) ?_;simp only[Act.put,aB,aC,aD];refine ag 1 rfl (by kernel_rfl) (by kernel_rfl) (by kernel_rfl) (fun _ _ _ h=>h) rfl (by go_simp) (by rintro w' ⟨hw1,hw2,hw3,hw4⟩; go_simp; rfl) ?_
  simp only[Act.put,aB,aC,aD];refine ag 2 rfl (by kernel_rfl) (by kernel_rfl) (by kernel_rfl) (fun _ _ _ h=>h) rfl (by go_simp) (by rintro w' ⟨hw1,hw2,hw3,hw4⟩; go_simp; rfl) ?_;simp only[Act.put,aB,aC,aD];refine ag 3 rfl (by kernel_rfl) (by kernel_rfl) (by kernel_rfl) (fun _ _ _ h=>h) rfl (by go_simp) (by rintro w' ⟨hw1,hw2,hw3,hw4⟩; go_simp; rfl) ?_;simp only[Act.put,aB,aC,aD]
  refine ag 4 rfl (by kernel_rfl) (by kernel_rfl) (by kernel_rfl) (fun _ _ _ h=>h) rfl (by go_simp) (by rintro w' ⟨hw1,hw2,hw3,hw4⟩; go_simp; rfl) ?_;simp only[Act.put,aB,aC,aD];refine ag 5 rfl (by kernel_rfl) (by kernel_rfl) (by kernel_rfl) (fun _ _ _ h=>h) rfl (by go_simp) (by rintro w' ⟨hw1,hw2,hw3,hw4⟩; go_simp; rfl) ?_;simp only[Act.put,aB,aC,aD];have hltw:wb<W3.heap.size:=lt_of_block HWB.out
  have hltr:w.heap.size<W3.heap.size:=lt_of_block HRB.out;have HAL:=ab ((Below.refl W3.heap.size W3).alloc (Nat.le_refl _) (.cells #[.string r.name, .int .i64 r.gen, .int .i64 r.size] 26));have hS2:=And.intro ((HAL.out.cell (p:=⟨wb,3,none⟩) hltw).trans c3) (And.intro ((HAL.out.cell (p:=⟨w.heap.size,0,none⟩) hltr).trans r0) (And.intro ((HAL.out.cell (p:=⟨w.heap.size,1,none⟩) hltr).trans r1) ((HAL.out.cell (p:=⟨w.heap.size,2,none⟩) hltr).trans r2)))
  have HS2:=ab hS2;clear hS2;refine ar 6 rfl (by kernel_rfl) rfl (fun K hK=> ?_);go_wp2_with fail
  (first | (refine⟨HS2.out, ?_⟩) | skip)
  refine ar 7 rfl (by kernel_rfl) rfl (fun K hK=> ?_);go_wp2_with (at_builtin; go_must (refine aG Tryz.appRefs rfl _ _ rfl base (.slice av rs.length cv) rs.length (rs.flatMap dp) rfl W3 [.string r.name, .int .i64 r.gen, .int .i64 r.size] _ rfl rfl (jQ (r:=r)) HROW.out (by omega) (by omega) ?_); intro v' wc hown' hgrow' _ hpl; obtain⟨ae,ce,rfl,-,-⟩:=aj hown')
  have hne: ∀k,(Value.slice av rs.length cv).ownBlock=some k->k≠wb/\k≠eb/\k≠sb:=fun k hk=>H0.out.own hk
  have hner:(Value.slice av rs.length cv).ownBlock≠some w.heap.size:=fun e=>by have:=(H0.out.row.lt _ e).2; omega
  have HWB2:=ab ((hgrow'.block wb hltw (fun e=>(hne wb e.symm).1 rfl)).trans HWB.out);have HRB2:=ab ((hgrow'.block w.heap.size hltr (fun e=>hner e.symm)).trans HRB.out);have HEX2:=ab (HEX.out.same (hgrow'.block eb HEX.out.map.lt (fun e=>(hne eb e.symm).2.1 rfl)));have HSET2:=ab (HSET.out.same (hgrow'.block sb HSET.out.map.lt (fun e=>(hne sb e.symm).2.2 rfl)));have HGR:=ab hgrow'
  have HPL:=ab hpl;have HOW:=ab (show wc.ownsRow base 26 3 (.slice ae (rs.length+1) ce) (rs++[r]).length ((rs++[r]).flatMap dp) by rw[List.length_append,List.flatMap_append]; simpa [dp]using hown');have c4:=ai (k:=3) HWB2.out;have f4:=af (k:=3) HWB2.out;have s0:=ai (k:=0) HRB2.out;have s1:=ai (k:=1) HRB2.out;have s2:=ai (k:=2) HRB2.out;simp only[aJ]at c4 s0 s1 s2
  clear hown' hgrow' hpl c3 f3 r0 r1 r2 hne hner;refine⟨⟨c4,s0,s1,s2⟩, ?_⟩;refine ag 8 rfl (by kernel_rfl) (by kernel_rfl) (by kernel_rfl) (fun _ _ _ h=>h) rfl (by go_simp) (by rintro w' ⟨hw1,hw2,hw3,hw4⟩; go_simp; rfl) ?_;simp only[Act.put,aB,aC,aD];refine ag 9 rfl (by kernel_rfl) (by kernel_rfl) (by kernel_rfl) (fun _ _ _ h=>h) rfl (by go_simp) (by rintro w' ⟨hw1,hw2,hw3,hw4⟩; go_simp; rfl) ?_
  simp only[Act.put,aB,aC,aD];refine aU (by kernel_rfl) ?_;refine bY rfl rfl (fun K hK=> ?_);go_wp2_with fail
  go_end0
  refine⟨rfl, .slice ae (rs.length+1) ce, ?_, ?_, ?_⟩
  ·rw[HM.out];have hws:=H0.out.wne;have hx:=cK (k:=3) HWB2.out (.slice ae (rs.length+1) ce);simp only[List.setIfInBounds_toArray,List.set_cons_succ,List.set_cons_zero]at hx;refine⟨hx,HEX2.out.same (Below.heap_setCell _ _ _ _ (Ne.symm hws.1)),HSET2.out.same (Below.heap_setCell _ _ _ _ (Ne.symm hws.2)),HOW.out.kept (aE _ _ _ _) (.inr (fun e=> ?_)),H0.out.ne⟩
   rcases HPL.out wb e with h1 | h1
   ·exact(H0.out.own h1).1 rfl
   ·omega
  ·refine bU.trans (bU.of_below HBW.out) (bU.trans (S:=iH wb eb sb (.slice av rs.length cv)) (bU.of_grown HG3.out (fun k hk=>by cases hk; exact .inr (.inr (.inl rfl)))) (bU.trans (S:=iH wb eb sb (.slice av rs.length cv)) (bU.of_grown HGR.out (fun k hk=> .inr (.inr (.inr hk)))) (bU.of_grown (S:=iH wb eb sb (.slice av rs.length cv)) (aE wc wb 3 _) (fun k hk=>by cases hk; exact .inl rfl)) (fun i _ h=>h)) (fun i _ h=>h)) (fun i _ h=>h)
  ·intro k hk
   rcases HPL.out k hk with h1 | h1
   ·exact .inl h1
   ·exact .inr (by omega)
end Go.Proofs.YtpffpjbkbaleiaaGreatDoor
namespace Go.Proofs.YtpffpjbkbaleiaaGreatDoor
open Go.RowKit
def cG (cs rs:List aI):List aI:=cs.foldl (fun rs r=>bh r rs) rs
def fG (f:aI->List aI×List aI->Option (Int×(List aI×List aI))):List az->List aI×List aI->Option (Int×(List aI×List aI))
 | [],st=>some (0,st)
 | it::l,st=>if it.kind≠2 then fG f l (st.1,cG it.chunks st.2)else
  (f it.node (st.1,cG it.chunks st.2)).bind fun p=>if p.1≠0 then some p else fG f l p.2
def et (visit:aI->Except Int (List az)):Nat->aI->List aI×List aI->Option (Int×(List aI×List aI))
 | 0,_,_=>none
 | n+1,r,st=>if r∈st.1 then some (0,(st.1,bh r st.2))else match visit r with
  | .error x=>some (x,(st.1++[r],bh r st.2))
  | .ok l=>fG (et visit n) l (st.1++[r],bh r st.2)
theorem jL (r:aI) (rs:List aI):rs.length<=(bh r rs).length:=by
 unfold bh
 split
 ·exact Nat.le_refl _
 ·simp
theorem kr : ∀(cs rs:List aI),rs.length<=(cG cs rs).length
 | [],_=>Nat.le_refl _
 | c::cs,rs=>Nat.le_trans (jL c rs) (kr cs (bh c rs))
theorem ve (cs:List aI) (c:aI) (rs:List aI):cG (cs++[c]) rs=bh c (cG cs rs):=by
 unfold cG; rw[List.foldl_append]; rfl
theorem pi (cs rs:List aI) (j:Nat):(cG (cs.take j) rs).length<=(cG cs rs).length:=by
 have:cG cs rs=cG (cs.drop j) (cG (cs.take j) rs):=by
  unfold cG;rw[<-List.foldl_append,List.take_append_drop]
 rw[this];exact kr _ _
theorem gA {f:aI->List aI×List aI->Option (Int×(List aI×List aI))} (hf: ∀r st x st',f r st=some (x,st')->st.2.length<=st'.2.length):
  ∀(l:List az) (st:List aI×List aI) (x:Int) (st':List aI×List aI),fG f l st=some (x,st')->st.2.length<=st'.2.length
 | [],st,x,st',h=>by
  simp only[fG,Option.some.injEq,Prod.mk.injEq]at h;obtain⟨_,rfl⟩:=h;exact Nat.le_refl _
 | it::l,st,x,st',h=>by
  rw[fG]at h
  split at h
  ·exact Nat.le_trans (kr it.chunks st.2) (gA hf l _ x st' h)
  ·rw[Option.bind_eq_some_iff]at h;obtain⟨⟨y,st2⟩,h1,h2⟩:=h;have h3:=hf _ _ _ _ h1;have h4:=kr it.chunks st.2;simp only at h2 h3
   split at h2
   ·simp only[Option.some.injEq,Prod.mk.injEq]at h2;obtain⟨_,rfl⟩:=h2;exact Nat.le_trans h4 h3
   ·exact Nat.le_trans (Nat.le_trans h4 h3) (gA hf l _ x st' h2)
theorem iT (visit:aI->Except Int (List az)): ∀(n:Nat) (r:aI) (st:List aI×List aI) (x:Int) (st':List aI×List aI),et visit n r st=some (x,st')->st.2.length<=st'.2.length
 | 0,_,_,_,_,h=>by simp[et]at h
 | n+1,r,st,x,st',h=>by
  have hm:=jL r st.2;rw[et]at h
  split at h
  ·simp only[Option.some.injEq,Prod.mk.injEq]at h;obtain⟨_,rfl⟩:=h;exact hm
  ·split at h
   ·simp only[Option.some.injEq,Prod.mk.injEq]at h;obtain⟨_,rfl⟩:=h;exact hm
   ·exact Nat.le_trans hm (gA (iT visit n) _ _ x st' h)
def Fk (res:Except Int (List az)) (w:World) (e:Ending) (w':World):Prop:=Below w.heap.size w w'/\match res with
 | .error x=>e= .returned (.tuple #[.slice none 0 0, .int .i64 x])/\x≠0
 | .ok l=> ∃v,e= .returned (.tuple #[v, .int .i64 0])/\aY (w.heap.size<= ·) w' v l
theorem fT.notown {w:World} {base wb eb sb:Nat} {fv v:Value} {ex rs:List aI} (h:fT w base wb eb sb fv v ex rs) {k:Nat} {cs:Array Value} {t:TypeId} {z:Nat×Nat} (hb:w.heap[k]? =some (.cells cs t z)) (h1:t≠191) (h2:t≠26): ¬iH wb eb sb v k:=by
 rintro(e | e | e | e)
 ·subst e;have:=hb.symm.trans h.box;simp at this;exact h1 this.2.1
 ·subst e; exact h.exs.cells hb
 ·subst e; exact h.see.cells hb
 ·obtain⟨cs',hc⟩:=aA h.row e;have:=hb.symm.trans hc;simp at this;exact h2 this.2.1
structure nX (w : World) (B h5 h6 base wb eb sb : Nat) (fv v itv : Value) (l : List az) (wr : World) (v2 : Value) (ex rs : List aI) : Prop where
 at':fT wr base wb eb sb fv v2 ex rs
 gr:bU (iH wb eb sb v) w wr
 own: ∀k,v2.ownBlock=some k->v.ownBlock=some k\/w.heap.size<=k
 apart: ∀k,v2.ownBlock=some k->k<h5\/h6<=k
 lo:wb<h5/\eb<h5/\sb<h5
 ord:w.heap.size<=h5/\h5<=h6/\h6<=wr.heap.size
 its:aY (fun k=>h5<=k/\k<h6) wr itv l
theorem aY.same {S:Nat->Prop} {w w':World} {v:Value} {l:List az} (h:aY S w v l) (hs: ∀k,k<w.heap.size->S k->w'.heap[k]? =w.heap[k]?):aY S w' v l:=by
 obtain⟨cells,hr,hin⟩:=h;have h2:=hr.mono (T:=fun k=>k<w.heap.size/\S k) (fun k hk hS=>⟨hk,hS⟩) (by omega);have h3:=h2.same (w':=w') (fun k hk=>hs k hk.1 hk.2);exact⟨cells,h3.weak (fun k hk=>hk.2),hin.mono (fun c x _ hx=>hx.same (fun k hk hS=>⟨hS,hs k hk hS⟩))⟩
section
variable {w wr w' : World} {B h5 h6 base wb eb sb : Nat} {fv v itv v2 v3 : Value} {l : List az} {ex rs ex3 rs3 : List aI}
theorem nX.below (h:nX w B h5 h6 base wb eb sb fv v itv l wr v2 ex rs) (hb:Below wr.heap.size wr w'):nX w B h5 h6 base wb eb sb fv v itv l w' v2 ex rs:=
 ⟨h.at'.below hb,h.gr.trans (bU.of_below hb (S:=fun _=>False)) (fun _ _ h=>False.elim h),h.own,h.apart,h.lo,⟨h.ord.1,h.ord.2.1,Nat.le_trans h.ord.2.2 hb.size⟩,h.its.below hb⟩
theorem nX.notown (h:nX w B h5 h6 base wb eb sb fv v itv l wr v2 ex rs) {k:Nat} (hk:h5<=k/\k<h6): ¬iH wb eb sb v2 k:=by
 have:=h.lo;rintro(e | e | e | e)
 ·omega
 ·omega
 ·omega
 ·have:=h.apart k e; omega
theorem nX.step (h:nX w B h5 h6 base wb eb sb fv v itv l wr v2 ex rs) (hr:Bn base wb eb sb fv v2 ex3 rs3 wr w'): ∃v3,nX w B h5 h6 base wb eb sb fv v itv l w' v3 ex3 rs3/\bU (iH wb eb sb v2) wr w':=by
 obtain⟨v3,h1,h2,h3⟩:=hr;have hz:=h.gr.size;refine⟨v3,⟨h1,h.gr.trans h2 (fun i hi ho=> ?_),fun k hk=> ?_,fun k hk=> ?_,h.lo,⟨h.ord.1,h.ord.2.1,Nat.le_trans h.ord.2.2 h2.size⟩,h.its.same (fun k hk hS=>h2.block k hk (h.notown hS))⟩,h2⟩
 ·rcases ho with e | e | e | e
  ·exact .inl e
  ·exact .inr (.inl e)
  ·exact .inr (.inr (.inl e))
  ·rcases h.own i e with e | e
   ·exact .inr (.inr (.inr e))
   ·omega
 ·rcases h3 k hk with e | e
  ·exact h.own k e
  ·exact .inr (by omega)
 ·rcases h3 k hk with e | e
  ·exact h.apart k e
  ·have:=h.ord; exact .inr (by omega)
end
end Go.Proofs.YtpffpjbkbaleiaaGreatDoor
namespace Go.Proofs.YtpffpjbkbaleiaaGreatDoor
open Go.RowKit
def Bm (visit:aI->Except Int (List az)) (F:Nat) (cv:Value) (I:World->Prop) (B n:Nat):Prop:= ∀(r:aI) (st:List aI×List aI) (x:Int) (st':List aI×List aI) (base wb eb sb:Nat) (v:Value) (w:World),et visit n r st=some (x,st')->st'.2.length<1099511627775->
 fT w base wb eb sb (.func (.func F) #[cv] #[]) v st.1 st.2->bg r->I w->(B<=base/\B<=wb/\B<=eb/\B<=sb)->base<=w.heap.size->
 Calls Tryz.prog 133 #[.pointer (some ⟨wb,0,none⟩),bt r] w fun e w'=>e= .returned (.int .i64 x)/\Bn base wb eb sb (.func (.func F) #[cv] #[]) v st'.1 st'.2 w w'
def Bl (visit:aI->Except Int (List az)) (F:Nat) (cv:Value) (I:World->Prop):Prop:= ∀(W:World) (r:aI),I W->bg r->Calls Tryz.prog F #[cv,bt r] W (Fk (visit r) W)
def xL (I:World->Prop) (B:Nat):Prop:= ∀w w':World,I w->bU (B<= ·) w w'->I w'
theorem xh {B base wb eb sb:Nat} {w:World} {fv v:Value} {ex rs:List aI} (h:fT w base wb eb sb fv v ex rs) (hB:B<=base/\B<=wb/\B<=eb/\B<=sb) {k:Nat} (hk:iH wb eb sb v k):B<=k:=by
 rcases hk with e | e | e | e
 ·omega
 ·omega
 ·omega
 ·have:=(h.row.lt k e).1; omega
theorem oN {S T:Nat->Prop} {w w':World} (h:bU S w w') (hs: ∀k,S k->T k):bU T w w':=⟨h.os,h.tape,h.output,h.size,fun k hk hn=>h.block k hk (fun hS=>hn (hs k hS))⟩
theorem aY.lt {S:Nat->Prop} {w:World} {v:Value} {l:List az} (h:aY S w v l):aY (fun k=>S k/\k<w.heap.size) w v l:=by
 obtain⟨cells,hr,hin⟩:=h;exact⟨cells,hr.mono (fun k hk hS=>⟨hS,hk⟩) (by omega),hin.mono (fun c x _ hx=>hx.same (fun k hk hS=>⟨⟨hS,hk⟩,rfl⟩))⟩
theorem pq {f:aI->List aI×List aI->Option (Int×(List aI×List aI))} {it:az} {l:List az} {ex rs:List aI} {q:Int×(List aI×List aI)} (h:fG f (it::l) (ex,rs)=some q):
  (it.kind≠2/\fG f l (ex,cG it.chunks rs)=some q)\/(it.kind=2/\ ∃y st2,f it.node (ex,cG it.chunks rs)=some (y,st2)/\((y≠0/\q=(y,st2))\/(y=0/\fG f l st2=some q))):=by
 rw[fG]at h
 split at h
 ·rename_i hk;exact .inl ⟨hk,h⟩
 ·rename_i hk;rw[Option.bind_eq_some_iff]at h;obtain⟨⟨y,st2⟩,h1,h2⟩:=h;refine .inr ⟨Decidable.not_not.1 hk,y,st2,h1, ?_⟩;simp only at h2
  split at h2
  ·rename_i hy;exact .inl ⟨hy,(Option.some.inj h2).symm⟩
  ·rename_i hy;exact .inr ⟨Decidable.not_not.1 hy,h2⟩
theorem zS {visit:aI->Except Int (List az)} {n:Nat} {it:az} {l:List az} {ex rs:List aI} {x:Int} {st':List aI×List aI} (h:fG (et visit n) (it::l) (ex,rs)=some (x,st')):(cG it.chunks rs).length<=st'.2.length:=by
 rcases pq h with⟨_,h2⟩ | ⟨_,y,st2,h1,h2⟩
 ·exact gA (iT visit n) l _ x st' h2
 ·have h3:=iT visit n _ _ _ _ h1
  rcases h2 with⟨_,h2⟩ | ⟨_,h2⟩
  ·obtain⟨_,rfl⟩:=Prod.mk.inj h2;exact h3
  ·exact Nat.le_trans h3 (gA (iT visit n) l _ x st' h2)
end Go.Proofs.YtpffpjbkbaleiaaGreatDoor
namespace Go.Proofs.YtpffpjbkbaleiaaGreatDoor
open Go.RowKit
def lL (visit:aI->Except Int (List az)) (n:Nat) (root:aI):Option (Except Int (List aI)):=
 if dM root=true then(et visit n root ([],[])).map fun p=>if p.1=0 then .ok p.2.2 else .error p.1 else some (.error 1)
def sB (res:Except Int (List aI)) (w:World) (e:Ending) (w':World):Prop:=Below w.heap.size w w'/\match res with
 | .error x=>e= .returned (.tuple #[.slice none 0 0, .int .i64 x])/\x≠0
 | .ok rs=> ∃v,e= .returned (.tuple #[v, .int .i64 0])/\aM (w.heap.size<= ·) w' v rs
theorem Du {w:World} {B:Nat} {fv:Value} :fT (((w.alloc (.map #[] 0)).alloc (.map #[] 0)).alloc (.cells #[fv, .map (some w.heap.size), .map (some (w.heap.size+1)), .slice none 0 0] 191)) B (w.heap.size+1+1) w.heap.size (w.heap.size+1) fv (.slice none 0 0) [] []:=by
 have e1:(w.alloc (.map #[] 0)).heap.size=w.heap.size+1:=by simp
 have e2:((w.alloc (.map #[] 0)).alloc (.map #[] 0)).heap.size=w.heap.size+1+1:=by simp
 have h1:=dw.made w;have h2:=dw.made (w.alloc (.map #[] 0));rw[e1]at h2;have h3:=heap_alloc_new ((w.alloc (.map #[] 0)).alloc (.map #[] 0)) (.cells #[fv, .map (some w.heap.size), .map (some (w.heap.size+1)), .slice none 0 0] 191);rw[e2]at h3;refine⟨h3, ?_,h2.same (Below.heap_alloc _ _ _ (by rw[e2]; omega)),World.ownsRow_nil _ _ _ _,by omega⟩;exact h1.same ((Below.heap_alloc _ _ _ (by rw[e2]; omega)).trans (Below.heap_alloc _ _ _ (by rw[e1]; omega)))
structure eX (B : Nat) (cv : Value) (cs : List (ByteArray × List UInt8)) (w : World) : Prop where
 cont:bD (· <B) w cv cs
 env:gG w
 lt:1<B/\3<B/\4<B
 size:B<=w.heap.size
theorem aS.lt' {S:Nat->Prop} {w:World} {sz:Nat} {v:Value} {n:Nat} {cells:List Value} (h:aS S w sz v n cells) (hs:0<sz):aS (· <w.heap.size) w sz v n cells:=h.mono (fun _ hk _=>hk) hs
theorem bD.lt {S:Nat->Prop} {w:World} {cv:Value} {cs:List (ByteArray×List UInt8)} (h:bD S w cv cs):bD (· <w.heap.size) w cv cs:=by
 rcases h with h | ⟨b,m,h1,h0,h2,h3⟩
 ·exact .inl h
 ·refine .inr ⟨b,m,h1,h2.lt,h2, ?_⟩;clear h1 h2 h0
  induction m generalizing cs with
  | nil=>cases cs with
   | nil=>trivial
   | cons=>exact h3
  | cons p m ih=>cases cs with
   | nil=>exact h3
   | cons q cs=>exact⟨h3.1,aS.lt' h3.2.1 (by omega),ih h3.2.2⟩
theorem eX.keep {B:Nat} {cv:Value} {cs:List (ByteArray×List UInt8)} :xL (eX B cv cs) B:=by
 intro w w' h hg;have hb:Below B w w':=hg.below h.size (fun k hk=>hk);refine⟨?_,h.env.belowB hb h.lt.1 h.lt.2.1 h.lt.2.2,h.lt,Nat.le_trans h.size hg.size⟩
 rcases h.cont with h1 | ⟨b,m,h1,h0,h2,h3⟩
 ·exact .inl h1
 ·exact .inr ⟨b,m,h1,h0,h2.same (hb.block b h0),h3.mono (fun v bs hv=>aS.same hv (fun k hk=>hb.block k hk))⟩
theorem eX.visit {B:Nat} {cv:Value} {cs:List (ByteArray×List UInt8)} :Bl (cE cs) 83 cv (eX B cv cs):=fun W r hI hr=>(lM (· <B) cv cs r W hI.cont hr hI.env).mono fun _ _ h=>h
theorem eX.start {S:Nat->Prop} {w:World} {cv:Value} {cs:List (ByteArray×List UInt8)} (h:bD S w cv cs) (he:gG w):eX w.heap.size cv cs w:=⟨h.lt,he,he.lt,Nat.le_refl _⟩
end Go.Proofs.YtpffpjbkbaleiaaGreatDoor
namespace Go.Proofs.YtpffpjbkbaleiaaGreatDoor
open Go.RowKit
theorem lN : ∀ {l U:List aI},l.Nodup->(∀x∈l,x∈U)->l.length<=U.length
 | [],_,_,_=>Nat.zero_le _
 | a::l,U,hn,hs=>by
  obtain⟨h1,h2⟩:=List.nodup_cons.1 hn;have ha:a∈U:=hs a (by simp);have h3:=lN (l:=l) (U:=U.erase a) h2 (fun x hx=>(List.mem_erase_of_ne (fun e=>by subst e; exact h1 hx)).2 (hs x (by simp[hx])));have h4:=List.length_erase_of_mem ha;have h5:0<U.length:=List.length_pos_of_mem ha;simp only[List.length_cons];omega
def jG (it:az):List aI:=it.chunks++[it.node]
def FB (l:List az):List aI:=l.flatMap jG
def kS (cs:List (ByteArray×List UInt8)):List aI:=cs.flatMap fun p=>match bw p.2 with
 | some l=>FB l
 | none=>[]
theorem zq {cs:List (ByteArray×List UInt8)} {n:ByteArray} {bs:List UInt8} (h:dm cs n=some bs): ∃k,(k,bs)∈cs:=by
 induction cs with
 | nil=>simp[dm]at h
 | cons p cs ih=>
  obtain⟨k,b⟩:=p;simp only[dm]at h
  split at h
  ·simp only[Option.some.injEq]at h; subst h; exact⟨k,by simp⟩
  ·obtain⟨k',hk⟩:=ih h;exact⟨k',by simp[hk]⟩
theorem rD {cs:List (ByteArray×List UInt8)} {r:aI} {l:List az} (h:cE cs r= .ok l): ∃k bs,(k,bs)∈cs/\bw bs=some l:=by
 unfold cE at h
 cases hc:cA cs r with
 | error x=>rw[hc]at h; simp at h
 | ok bs=>
  rw[hc]at h;simp only at h
  cases hi:bw bs with
  | none=>rw[hi]at h; simp at h
  | some l'=>
   rw[hi]at h;simp only[Except.ok.injEq]at h;subst h;unfold cA at hc
   cases hf:dm cs r.name with
   | none=>rw[hf]at hc; simp at hc
   | some b=>
    rw[hf]at hc;simp only at hc
    split at hc
    ·simp only[Except.ok.injEq]at hc; subst hc;obtain⟨k,hk⟩:=zq hf;exact⟨k,b,hk,hi⟩
    ·simp at hc
theorem xf {cs:List (ByteArray×List UInt8)} {r:aI} {l:List az} (h:cE cs r= .ok l) {it:az} (hit:it∈l): ∀c∈jG it,c∈kS cs:=fun c hc=>by
 obtain⟨k,bs,h1,h2⟩:=rD h;refine List.mem_flatMap.2 ⟨(k,bs),h1, ?_⟩;simp only[h2];exact List.mem_flatMap.2 ⟨it,hit,hc⟩
structure qc (U : List aI) (st : List aI × List aI) : Prop where
 e1:st.1.Nodup
 e2: ∀x∈st.1,x∈U
 l1:st.2.Nodup
 l2: ∀x∈st.2,x∈U
theorem jM {r:aI} {rs:List aI} (h:rs.Nodup):(bh r rs).Nodup:=by
 unfold bh
 split
 ·exact h
 ·rename_i hm;exact List.nodup_append.2 ⟨h,by simp,fun a ha b hb e=>by simp only[List.mem_singleton]at hb; subst hb e; exact hm ha⟩
theorem lJ {r x:aI} {rs:List aI} :x∈bh r rs<->x∈rs\/x=r:=by
 unfold bh
 split
 ·rename_i hm;exact⟨.inl,fun h=>by rcases h with h | rfl; exact h; exact hm⟩
 ·simp
theorem lI : ∀(cs:List aI) {rs:List aI},rs.Nodup->(cG cs rs).Nodup
 | [],_,h=>h
 | _c::cs,_,h=>lI cs (jM h)
theorem ph : ∀(cs:List aI) {rs:List aI} {x:aI},x∈cG cs rs<->x∈rs\/x∈cs
 | [],rs,x=>by simp[cG]
 | c::cs,rs,x=>by
  show x∈cG cs (bh c rs)<->_
  rw[ph cs,lJ,List.mem_cons,or_assoc]
theorem qc.men {U:List aI} {st:List aI×List aI} (h:qc U st) {cs:List aI} (hc: ∀c∈cs,c∈U):qc U (st.1,cG cs st.2):=
 ⟨h.e1,h.e2,lI cs h.l1,fun x hx=>by
  rcases(ph cs).1 hx with hx | hx
  ·exact h.l2 x hx
  ·exact hc x hx⟩
def EV (U:List aI) (f:aI->List aI×List aI->Option (Int×(List aI×List aI))) (n:Nat):Prop:= ∀r st,r∈U->qc U st->U.length<n+st.1.length-> ∃x st',f r st=some (x,st')/\qc U st'/\st.1.length<=st'.1.length
theorem lf {U:List aI} {f:aI->List aI×List aI->Option (Int×(List aI×List aI))} {n:Nat} (hf:EV U f n):
  ∀(l:List az) (st:List aI×List aI),(∀it∈l,∀c∈jG it,c∈U)->qc U st->U.length<n+st.1.length-> ∃x st',fG f l st=some (x,st')/\qc U st'/\st.1.length<=st'.1.length
 | [],st,_,hi,_=>⟨0,st,rfl,hi,Nat.le_refl _⟩
 | it::l,st,hl,hi,hn=>by
  have hi2:=hi.men (cs:=it.chunks) (fun c hc=>hl it (by simp) _ (by simp[jG,hc]));rw[fG]
  split
  ·exact lf hf l _ (fun x hx=>hl x (by simp[hx])) hi2 hn
  ·obtain⟨x,st2,h1,h2,h3⟩:=hf it.node _ (hl it (by simp) _ (by simp[jG])) hi2 hn;rw[h1,Option.bind_some];simp only at h3
   split
   ·exact⟨x,st2,rfl,h2,h3⟩
   ·obtain⟨y,st3,k1,k2,k3⟩:=lf hf l st2 (fun x hx=>hl x (by simp[hx])) h2 (by omega);exact⟨y,st3,k1,k2,Nat.le_trans h3 k3⟩
def mR (cs:List (ByteArray×List UInt8)):Nat:=(kS cs).length+2
theorem zj {data:List UInt8} {s s1:RS} {it:az} (h:dS data s=some (it,s1)):it.chunks.length<=963:=by
 unfold dS eH at h
 split at h
 ·simp only[Option.some.injEq,Prod.mk.injEq]at h;obtain⟨rfl,_⟩:=h;simp only[ou];exact oz _ _ _
 ·split at h
  ·simp only[Option.some.injEq,Prod.mk.injEq]at h;obtain⟨rfl,_⟩:=h;simp
  ·split at h
   ·simp only[Option.some.injEq,Prod.mk.injEq]at h;obtain⟨rfl,_⟩:=h;simp
   ·simp at h
theorem rp {data:List UInt8} {s0:RS} : ∀ {k:Nat} {l:List az} {s:RS},dY data s0 k=some (l,s)->l.length=k/\ ∀it∈l,it.chunks.length<=963
 | 0,l,s,h=>by
  simp only[dY,Option.some.injEq,Prod.mk.injEq]at h;obtain⟨rfl,_⟩:=h;exact⟨rfl,by simp⟩
 | k+1,l,s,h=>by
  rw[fE,Option.bind_eq_some_iff]at h;obtain⟨⟨l0,s1⟩,h1,h2⟩:=h;rw[Option.map_eq_some_iff]at h2;obtain⟨⟨it,s2⟩,h3,h4⟩:=h2;simp only[Prod.mk.injEq]at h4;obtain⟨rfl,_⟩:=h4;obtain⟨k1,k2⟩:=rp h1;refine⟨by simp[k1],fun x hx=> ?_⟩
  rcases List.mem_append.1 hx with hx | hx
  ·exact k2 x hx
  ·simp only[List.mem_singleton]at hx; subst hx; exact zj h3
theorem ru {data:List UInt8} {l:List az} (h:bw data=some l):l.length<=4096/\ ∀it∈l,it.chunks.length<=963:=by
 unfold bw at h
 split at h
 ·simp at h
 ·rw[Option.bind_eq_some_iff]at h;obtain⟨⟨l0,s1⟩,h1,h2⟩:=h
  split at h2
  ·simp only[Option.some.injEq]at h2;subst h2;obtain⟨k1,k2⟩:=rp h1;exact⟨by rw[k1]; exact oz _ _ _,k2⟩
  ·simp at h2
theorem fD {α β:Type} (f:α->List β) (m:Nat): ∀(l:List α),(∀x∈l,(f x).length<=m)->(l.flatMap f).length<=l.length*m
 | [],_=>by simp
 | a::l,h=>by
  have h1:=fD f m l (fun x hx=>h x (by simp[hx]));have h2:=h a (by simp);rw[List.flatMap_cons,List.length_append,List.length_cons,Nat.succ_mul];omega
theorem zo {cs:List (ByteArray×List UInt8)} :(kS cs).length<=cs.length*3948544:=fD _ _ cs (fun p _=>by
 cases h:bw p.2 with
 | none=>simp
 | some l=>
  obtain⟨h1,h2⟩:=ru h;simp only;have h3:=fD jG 964 l (fun it hit=>by have:=h2 it hit; simp[jG]; omega);exact Nat.le_trans h3 (Nat.le_trans (Nat.mul_le_mul_right 964 h1) (by decide)))
theorem ld {cs:List (ByteArray×List UInt8)} {r:aI} {l:List az} (h:cE cs r= .ok l):l.length<=4096/\bZ l=true/\ ∀it∈l,it.chunks.length<=963:=by
 obtain⟨k,bs,_,h2⟩:=rD h;have h3:=ru h2;refine⟨h3.1, ?_,h3.2⟩;unfold bw at h2
 split at h2
 ·simp at h2
 ·rw[Option.bind_eq_some_iff]at h2;obtain⟨⟨l0,s1⟩,_,h4⟩:=h2
  split at h4
  ·rename_i h5;simp only[Option.some.injEq]at h4;subst h4;exact h5.2
  ·simp at h4
end Go.Proofs.YtpffpjbkbaleiaaGreatDoor
namespace Go.Proofs.YtpffpjbkbaleiaaGreatDoor
open Go Go.RowKit
def eM (w:World) (base eb:Nat) (v:Value) (acc:List bu):Prop:=
 w.heap[eb]? =some (.cells #[v] 46 (0,0))/\ ∃ys:List iY,ys.map Prod.snd=acc/\w.ownsRow base 79 6 v ys.length (cW ys)/\ ∀y∈ys,w.ownsRow base 5 1 y.1 y.2.data.length (y.2.data.map au)
structure kJ (base eb : Nat) (v v' : Value) (w w' : World) : Prop where
 below:Below base w w'
 same: ∀k,k<w.heap.size->k≠eb->v.ownBlock≠some k->w'.heap[k]? =w.heap[k]?
 place: ∀k,v'.ownBlock=some k->v.ownBlock=some k\/w.heap.size<=k
theorem kJ.refl (base eb:Nat) (v:Value) (w:World):kJ base eb v v w w:=⟨Below.refl _ _,fun _ _ _ _=>rfl,fun _ h=> .inl h⟩
theorem kJ.trans {base eb:Nat} {v v1 v2:Value} {A B C:World} (h:kJ base eb v v1 A B) (k:kJ base eb v1 v2 B C) (hs:A.heap.size<=B.heap.size):kJ base eb v v2 A C:=
 ⟨h.below.trans k.below,fun i h1 h2 h3=>(k.same i (by omega) h2 (fun e=>by
  rcases h.place i e with e2 | e2
  ·exact h3 e2
  ·omega)).trans (h.same i h1 h2 h3),fun i e=>by
  rcases k.place i e with e2 | e2
  ·exact h.place i e2
  ·exact .inr (by omega)⟩
theorem kJ.ofBelow {base eb:Nat} {v:Value} {w w':World} (h:Below w.heap.size w w') (hb:base<=w.heap.size):kJ base eb v v w w':=⟨h.mono hb,fun k h1 _ _=>h.block k h1,fun _ e=> .inl e⟩
theorem eM.below {w w':World} {base eb:Nat} {v:Value} {acc:List bu} (h:eM w base eb v acc) (hb:Below w.heap.size w w'):eM w' base eb v acc:=by
 obtain⟨h1,ys,h2,h3,h4⟩:=h;exact⟨(hb.block _ (lt_of_block h1)).trans h1,ys,h2,ba h3 hb,fun y hy=>ba (h4 y hy) hb⟩
theorem aH {w:World} {k:Nat} {cs cs':Array Value} {t t':TypeId} {z z':Nat×Nat} (h:w.heap[k]? =some (.cells cs t z)) (h':w.heap[k]? =some (.cells cs' t' z')):t=t':=by
 have:=h.symm.trans h';simp at this;exact this.2.1
theorem dr {w w':World} {base sz n:Nat} {e:TypeId} {v:Value} {xs:List Value} (h:w.ownsRow base e sz v n xs) (hs: ∀k,k<w.heap.size->v.ownBlock=some k->w'.heap[k]? =w.heap[k]?):w'.ownsRow base e sz v n xs:=by
 obtain⟨hl,h2⟩:=h;refine⟨hl, ?_⟩
 rcases h2 with h2 | ⟨g,cap,cur,rfl,hg,hh,h3⟩
 ·exact .inl h2
 ·exact .inr ⟨g,cap,cur,rfl,hg,(hs g (lt_of_block hh) rfl).trans hh,h3⟩
theorem eM.push {w w2:World} {base eb:Nat} {v v' dv:Value} {ys:List iY} {e:bu} (hx:w.heap[eb]? =some (.cells #[v] 46 (0,0))) (hr:w.ownsRow base 79 6 v ys.length (cW ys)) (hd: ∀y∈ys,w.ownsRow base 5 1 y.1 y.2.data.length (y.2.data.map au)) (hn:w.ownsRow base 5 1 dv e.data.length (e.data.map au))
  (hown:w2.ownsRow base 79 6 v' (ys.length+1) (cW ys++oJ dv e)) (hg:w.grownBy w2 v.ownBlock) (hpl: ∀k,v'.ownBlock=some k->v.ownBlock=some k\/w.heap.size<=k) (hbe:base<=eb) (hbz:base<=w.heap.size):
  eM (w2.setCell ⟨eb,0,none⟩ v') base eb v' (ys.map Prod.snd++[e])/\kJ base eb v v' w (w2.setCell ⟨eb,0,none⟩ v'):=by
 have hlt:=lt_of_block hx;have hne:v.ownBlock≠some eb:=fun h=>by
  obtain⟨cs,hc⟩:=aA hr h;exact absurd (aH hx hc) (by decide)
 have hne':v'.ownBlock≠some eb:=fun h=>by
  rcases hpl eb h with h | h
  ·exact hne h
  ·omega
 have hb2:=(hg.block eb hlt (fun h=>hne h.symm)).trans hx;have hdat: ∀(u:Value) (bs:List UInt8),w.ownsRow base 5 1 u bs.length (bs.map au)->(w2.setCell ⟨eb,0,none⟩ v').ownsRow base 5 1 u bs.length (bs.map au):=by
  intro u bs h;refine dr h (fun k hk hu=> ?_);obtain⟨cs,hc⟩:=aA h hu;rw[Below.heap_setCell _ _ _ _ (show k≠eb from fun e=>absurd (aH (e▸hc) hx) (by decide))];refine hg.block k hk (fun e=> ?_);obtain⟨cs2,hc2⟩:=aA hr e.symm;exact absurd (aH hc hc2) (by decide)
 refine⟨⟨?_,ys++[(dv,e)],by simp, ?_,fun y hy=> ?_⟩,⟨?_,fun k hk h1 h2=> ?_,hpl⟩⟩
 ·have:=cK (k:=0) hb2 v'
  simpa using this
 ·rw[List.length_append,List.length_singleton,oK];exact hown.kept (aE _ _ _ _) (.inr (fun h=>hne' h))
 ·rcases List.mem_append.1 hy with hy | hy
  ·exact hdat _ _ (hd y hy)
  ·rw[List.mem_singleton]at hy;subst hy;exact hdat _ _ hn
 ·exact((Below.refl base w).grown hg hbz (fun k hk=>(hr.lt k hk).1)).grown (aE w2 eb 0 v') (Nat.le_trans hbz hg.size) (fun k hk=>by cases hk; exact hbe)
 ·rw[Below.heap_setCell _ _ _ _ (show k≠eb from h1)];exact hg.block k hk (fun e=>h2 e.symm)
structure nt (w : World) (h5 h6 base eb : Nat) (v itv : Value) (l : List az) (wr : World) (v2 : Value) (acc : List bu) : Prop where
 box:eM wr base eb v2 acc
 kp:kJ base eb v v2 w wr
 apart: ∀k,v2.ownBlock=some k->k<h5\/h6<=k
 lo:eb<h5
 ord:w.heap.size<=h5/\h5<=h6/\h6<=wr.heap.size
 its:aY (fun k=>h5<=k/\k<h6) wr itv l
theorem nt.step {w wr w':World} {h5 h6 base eb:Nat} {v itv v2 v3:Value} {l:List az} {acc acc3:List bu} (h:nt w h5 h6 base eb v itv l wr v2 acc) (h1:eM w' base eb v3 acc3) (h2:kJ base eb v2 v3 wr w'):nt w h5 h6 base eb v itv l w' v3 acc3:=by
 have ho:=h.ord;have hl:=h.lo;have hz:=h2.below.size;refine⟨h1,h.kp.trans h2 (by omega),fun k hk=> ?_,hl,⟨ho.1,ho.2.1,by omega⟩,h.its.same (fun k hk hS=>h2.same k hk (by omega) (fun e=> ?_))⟩
 ·rcases h2.place k hk with e | e
  ·exact h.apart k e
  ·exact .inr (by omega)
 ·have:=h.apart k e;omega
theorem nt.below {w wr w':World} {h5 h6 base eb:Nat} {v itv v2:Value} {l:List az} {acc:List bu} (h:nt w h5 h6 base eb v itv l wr v2 acc) (hb:Below wr.heap.size wr w') (hbz:base<=wr.heap.size):nt w h5 h6 base eb v itv l w' v2 acc:=
 h.step (h.box.below hb) (kJ.ofBelow hb hbz)
end Go.Proofs.YtpffpjbkbaleiaaGreatDoor
namespace Go.Proofs.YtpffpjbkbaleiaaGreatDoor
open Go Go.RowKit
theorem yD {w:World} {b:Nat} {a0 a1 a2 x0 x1 x2:Value} {t:TypeId} (h:w.heap[b]? =some (.cells #[a0,a1,a2] t (0,0))):
  (((w.setCell ⟨b,0,none⟩ x0).setCell ⟨b,1,none⟩ x1).setCell ⟨b,2,none⟩ x2).heap[b]? =some (.cells #[x0,x1,x2] t (0,0)):=by
 have:=cK (k:=2) (cK (k:=1) (cK (k:=0) h x0) x1) x2
 simpa using this
theorem yC {w:World} {b:Nat} {a0 a1 a2 a3 a4 a5 a6 a7 a8 a9 x0 x1 x2 x3 x4 x5 x6 x7 x8 x9:Value} {t:TypeId} (h:w.heap[b]? =some (.cells #[a0,a1,a2,a3,a4,a5,a6,a7,a8,a9] t (0,0))):
  ((((((((((w.setCell ⟨b,0,none⟩ x0).setCell ⟨b,1,none⟩ x1).setCell ⟨b,2,none⟩ x2).setCell ⟨b,3,none⟩ x3).setCell ⟨b,4,none⟩ x4).setCell ⟨b,5,none⟩ x5).setCell ⟨b,6,none⟩ x6).setCell ⟨b,7,none⟩ x7).setCell ⟨b,8,none⟩ x8).setCell ⟨b,9,none⟩ x9).heap[b]? =some (.cells #[x0,x1,x2,x3,x4,x5,x6,x7,x8,x9] t (0,0)):=by
 have:=cK (k:=9) (cK (k:=8) (cK (k:=7) (cK (k:=6) (cK (k:=5) (cK (k:=4) (cK (k:=3) (cK (k:=2) (cK (k:=1) (cK (k:=0) (h) x0) x1) x2) x3) x4) x5) x6) x7) x8) x9
 simpa using this
theorem dh {B b:Nat} {a w:World} {x0 x1 x2:Value} (h:Below B a w) (hb:B<=b):Below B a (((w.setCell ⟨b,0,none⟩ x0).setCell ⟨b,1,none⟩ x1).setCell ⟨b,2,none⟩ x2):=(Below.setCell (Below.setCell (Below.setCell h hb x0) hb x1) hb x2)
theorem bI {B b:Nat} {a w:World} {x0 x1 x2 x3 x4 x5 x6 x7 x8 x9:Value} (h:Below B a w) (hb:B<=b):Below B a ((((((((((w.setCell ⟨b,0,none⟩ x0).setCell ⟨b,1,none⟩ x1).setCell ⟨b,2,none⟩ x2).setCell ⟨b,3,none⟩ x3).setCell ⟨b,4,none⟩ x4).setCell ⟨b,5,none⟩ x5).setCell ⟨b,6,none⟩ x6).setCell ⟨b,7,none⟩ x7).setCell ⟨b,8,none⟩ x8).setCell ⟨b,9,none⟩ x9):=(Below.setCell (Below.setCell (Below.setCell (Below.setCell (Below.setCell (Below.setCell (Below.setCell (Below.setCell (Below.setCell (Below.setCell h hb x0) hb x1) hb x2) hb x3) hb x4) hb x5) hb x6) hb x7) hb x8) hb x9)
theorem bz {b k:Nat} {w:World} {x0 x1 x2:Value} (hk:k≠b):(((w.setCell ⟨b,0,none⟩ x0).setCell ⟨b,1,none⟩ x1).setCell ⟨b,2,none⟩ x2).heap[k]? =w.heap[k]? :=(Below.heap_setCell _ _ _ _ hk).trans ((Below.heap_setCell _ _ _ _ hk).trans (Below.heap_setCell _ _ _ _ hk))
theorem jd {b k:Nat} {w:World} {x0 x1 x2 x3 x4 x5 x6 x7 x8 x9:Value} (hk:k≠b):((((((((((w.setCell ⟨b,0,none⟩ x0).setCell ⟨b,1,none⟩ x1).setCell ⟨b,2,none⟩ x2).setCell ⟨b,3,none⟩ x3).setCell ⟨b,4,none⟩ x4).setCell ⟨b,5,none⟩ x5).setCell ⟨b,6,none⟩ x6).setCell ⟨b,7,none⟩ x7).setCell ⟨b,8,none⟩ x8).setCell ⟨b,9,none⟩ x9).heap[k]? =w.heap[k]? :=(Below.heap_setCell _ _ _ _ hk).trans ((Below.heap_setCell _ _ _ _ hk).trans ((Below.heap_setCell _ _ _ _ hk).trans ((Below.heap_setCell _ _ _ _ hk).trans ((Below.heap_setCell _ _ _ _ hk).trans ((Below.heap_setCell _ _ _ _ hk).trans ((Below.heap_setCell _ _ _ _ hk).trans ((Below.heap_setCell _ _ _ _ hk).trans ((Below.heap_setCell _ _ _ _ hk).trans (Below.heap_setCell _ _ _ _ hk)))))))))
def oQ (c:ByteArray):List az->Nat->Int
 | [],_=> -1
 | x::t,k=>if x.name=c then(k:Int)else oQ c t (k+1)
theorem rk {c:ByteArray} {l:List az} {k:Nat} {x:az} (h:l[k]? =some x):oQ c (l.drop k) k=if x.name=c then(k:Int)else oQ c (l.drop (k+1)) (k+1):=by
 obtain⟨hk,rfl⟩:=List.getElem?_eq_some_iff.1 h;rw[List.drop_eq_getElem_cons hk,oQ]
theorem rm (c:ByteArray): ∀(l:List az) (k:Nat),(l.find? (fun y=>decide (y.name=c))=none/\oQ c l k= -1)\/ ∃(j:Nat) (y:az),l[j]? =some y/\l.find? (fun y=>decide (y.name=c))=some y/\oQ c l k=((k+j:Nat):Int)
 | [],_=> .inl ⟨rfl,rfl⟩
 | x::t,k=>by
  by_cases h:x.name=c
  ·exact .inr ⟨0,x,rfl,by rw[List.find?_cons_of_pos (by simp[h])],by rw[oQ,if_pos h]; rfl⟩
  ·rw[List.find?_cons_of_neg (by simp[h]),oQ,if_neg h]
   rcases rm c t (k+1)with⟨h1,h2⟩ | ⟨j,y,h1,h2,h3⟩
   ·exact .inl ⟨h1,h2⟩
   ·exact .inr ⟨j+1,y,by simpa using h1,h2,by rw[h3]; congr 1; omega⟩
theorem rB (it:az) (cv:Value) (c:ByteArray) (pb:Nat) (w:World) (hc:w.cell? ⟨pb,0,none⟩=some (.string c)):
  Calls Tryz.prog 85 #[dT cv it, .pointer (some ⟨pb,0,none⟩)] w fun e w'=>e= .returned (.bool (decide (it.name=c)))/\Below w.heap.size w w':=by
 have hlt:=aO hc;simp only at hlt;have hne: ¬pb=w.heap.size:=by omega
 unfold dT
 go_enter Tryz.func85,Tryz.ntmps85
 go_wp2_with fail;go_ret;refine⟨am ?_,(Below.refl _ _).alloc (Nat.le_refl _) _⟩;rw[Bool.eq_iff_iff];simp only[bS,beq_iff_eq,decide_eq_true_eq];exact⟨fun h=>eN h,fun h=>by rw[h]⟩
theorem qi (S:Nat->Prop) (l:List az) (c:ByteArray) (pb:Nat) (v:Value) (w:World) (hv:aY S w v l) (hc:w.cell? ⟨pb,0,none⟩=some (.string c)):
  Calls Tryz.prog 84 #[v, .func (.func 85) #[] #[.pointer (some ⟨pb,0,none⟩)]] w fun e w'=>e= .returned (.int .i64 (oQ c l 0))/\Below w.heap.size w w':=by
 obtain⟨a,cap,rfl,hcp,hm,-⟩:=aP.shape hv dR.len;unfold maxLen at hm;have HV:=ab hv;have HC:=ab hc;clear hv hc
 go_enter Tryz.func84,Tryz.ntmps84
 go_wp2_with fail
 go_loopw [8] (fun i wr=> ∃k:Nat,k<=l.length/\i= .int .i64 k/\Below w.heap.size w wr/\oQ c l 0=oQ c (l.drop k) k) (fun i _=>l.length-(intOf i).toNat)
 case atStart=>exact⟨0,Nat.zero_le _,rfl,Below.refl _ _,rfl⟩
 case round=>
  obtain⟨k,hk,rfl,hb,hd⟩:=hrel;have HB:=ab hb;have HD:=ab hd;clear hb hd
  by_cases hlt:k<l.length
  ·obtain⟨it,hr⟩: ∃it,l[k]? =some it:=⟨l[k],by simp[hlt]⟩;obtain⟨b,o,ca,cc,rfl,-,-,hbl,-,hcl⟩:=dF HV.out HB.out hr;have q0:=hcl 0 (by omega);have q1:=hcl 1 (by omega);have q2:=hcl 2 (by omega);have q3:=hcl 3 (by omega);have q4:=hcl 4 (by omega);have q5:=hcl 5 (by omega);have q6:=hcl 6 (by omega);have q7:=hcl 7 (by omega);have q8:=hcl 8 (by omega);have q9:=hcl 9 (by omega)
   simp only[cL,BW,Nat.add_zero]at q0 q1 q2 q3 q4 q5 q6 q7 q8 q9;have HC2:=ab ((HB.out.cell (p:=⟨pb,0,none⟩) (aO HC.out)).trans HC.out);have HR:=ab hr;clear hcl hr
   by_cases hin:it.name=c
   ·have HIN:=ab hin;clear hin;go_wp2_with (go_at_call 85; refine(rB it (.slice ca it.chunks.length cc) c pb _ HC2.out).mono ?_; rintro e w1 ⟨rfl,hb1⟩; rw[decide_eq_true HIN.out]; have HB1:=ab hb1; clear hb1);go_ret;exact⟨ci (by rw[HD.out,rk HR.out,if_pos HIN.out]),ah HB.out HB1.out⟩
   ·have HIN:=ab hin;clear hin;go_wp2_with (go_at_call 85; refine(rB it (.slice ca it.chunks.length cc) c pb _ HC2.out).mono ?_; rintro e w1 ⟨rfl,hb1⟩; rw[decide_eq_false HIN.out]; have HB1:=ab hb1; clear hb1)
    go_roundw
    case rel=>exact⟨k+1,by omega,by go_num,ah HB.out HB1.out,by rw[HD.out,rk HR.out,if_neg HIN.out]⟩
    case measure=>simp[intOf]; omega
  ·go_wp2_with fail;go_ret;exact⟨ci (by rw[HD.out,List.drop_eq_nil_of_le (by omega)]; rfl),HB.out⟩
end Go.Proofs.YtpffpjbkbaleiaaGreatDoor
namespace Go.Proofs.YtpffpjbkbaleiaaGreatDoor
open Go.RowKit
theorem ui (a:Option Addr) (c:Nat) (w:World):(convert 29 9 (.slice a 0 c)).run Tryz.prog w= .ok (.string ⟨#[]⟩) w:=by cases a<;> kernel_rfl
theorem zm {S:Nat->Prop} {w:World} {v:Value} {bs:List UInt8} (hd:bE S w v bs):(convert 29 9 v).run Tryz.prog w= .ok (.string (strOfNums (bs.map fun b=>(b.toNat:Int)))) w:=by
 obtain⟨_,a,cap,rfl,hn,hm,h0⟩:=hd
 rcases h0 with h0 | ⟨b,o,rfl,_,hc⟩
 ·obtain rfl:=List.eq_nil_of_length_eq_zero h0;exact ui a cap w
 ·exact run_convert_bytes_arg (P:=Tryz.prog) w 29 5 Tryz.underlying29 Tryz.underlying5 b o bs.length cap (bs.map fun b=>(b.toNat:Int)) (by simp) (fun i hi=>by
   rw[hc i (u8V bs[i]) (by simp[hi])];simp[u8V,List.getD,hi]) 9 Tryz.underlying9
end Go.Proofs.YtpffpjbkbaleiaaGreatDoor
namespace Go.Proofs.YtpffpjbkbaleiaaGreatDoor
open Go.RowKit Go.Maps
theorem eJ (p q:ByteArray) (w:World) (he:gG w) (hv:be (bl p)=true) (hq:q=⟨(aT (bl p)).toArray⟩):
  Calls Tryz.prog 72 #[.string p] w fun e w'=>e= .returned (.tuple #[.string q, .bool true])/\Below w.heap.size w w':=by
 rw[hq]; exact xi p w he hv
theorem nL (q:ByteArray):q.toList.isEmpty=decide (bl q=[]):=by rw[bS,Bool.eq_iff_iff]; simp
end Go.Proofs.YtpffpjbkbaleiaaGreatDoor
namespace Go.Proofs.YtpffpjbkbaleiaaGreatDoor
open Go.RowKit Go.Maps
theorem kz (S:Nat->Prop) (en:bu) (v:Value) (b:Bool) (w:World) (hd:bE S w v en.data) (hok:gM en) (henv:gG w) (h:iC en=b):Calls Tryz.prog 117 #[Fq v en] w fun e w'=>e= .returned (.bool b)/\Below w.heap.size w w':=by
 rw[<-h]; exact xB S en v w hd hok henv
end Go.Proofs.YtpffpjbkbaleiaaGreatDoor
namespace Go.Proofs.YtpffpjbkbaleiaaGreatDoor
open Go.RowKit Go.Maps
theorem qN : ∀ {m pre:List bu} (r:List bu),Tr (pre++m)->io pre (m++r)=io (pre++m) r
 | [],pre,r,_=>by simp
 | e::m,pre,r,h=>by
  have h1:Tr (pre++[e]):=Tr.pre (M:=m) (by simpa using h);have h2:=(jy h1.pre e).2 h1;have h3:=qN (m:=m) (pre:=pre++[e]) r (by simpa using h);rw[List.cons_append,io,if_pos h2,h3];simp
theorem tX {L:List bu} (hl:L.length<=4096) {k:Nat} (h:Tr (L.take k)):cR L=io (L.take k) (L.drop k):=by
 have h1:=qN (m:=L.take k) (pre:=[]) (L.drop k) (by simpa using h);rw[List.take_append_drop,List.nil_append]at h1;unfold cR;rw[if_neg (by omega),h1]
theorem qW {α:Type} {L:List α} {k:Nat} {e:α} (h:L[k]? =some e):L.drop k=e::L.drop (k+1):=by
 obtain⟨h1,h2⟩:=List.getElem?_eq_some_iff.1 h;rw[List.drop_eq_getElem_cons h1,h2]
theorem fm {L:List bu} (hl:L.length<=4096) {k:Nat} (h:Tr (L.take k)) {e:bu} (he:L[k]? =some e) {x:Int} (hx:cM (L.take k) e=x) (h0:x≠0):cR L=x:=by
 rw[tX hl h,qW he,io,hx,if_neg h0]
theorem ja {L:List bu} {k:Nat} (h:Tr (L.take k)) {e:bu} (he:L[k]? =some e) (hx:cM (L.take k) e=0):Tr (L.take (k+1)):=by
 rw[List.take_add_one,he];exact(jy h e).1 hx
theorem ws {L:List bu} (hl:L.length<=4096) (h:Tr (L.take L.length)):cR L=0:=by
 rw[tX hl h,List.drop_length]; rfl
theorem zi {L:List bu} (hl:4096<L.length):cR L=2:=by unfold cR; rw[if_pos hl]
def pd (e:bu):Value×Value:=(.string e.path, .int .i64 e.kind)
theorem eI :Tryz.prog.underlying 47=some (.map 9 3):=Tryz.underlying47
theorem xd (w:World) (n:Nat) (hn:n<=4096):(Instr.makeMap 47 (some (.int .i64 (n:Int)))).run Tryz.prog w= .ok (.map (some w.heap.size)) (w.alloc (.map #[] 0)):=by
 have h1:IntKind.i64.wrap (n:Int)=n:=by rw[IntKind.wrap_i64]; omega
 simp[Instr.makeMap,asInt,asIntOf]
theorem km {w:World} {mb:Nat} {M:List bu} (h:cO Tryz.prog 9 w mb (M.map pd)) {p:ByteArray} (hp:p.size<=maxLen) {f:bu} (hf:gT M p=some f):
  (Instr.lookup 47 (.map (some mb)) (.string p) true).run Tryz.prog w= .ok (.tuple #[.int .i64 f.kind, .bool true]) w:=by
 obtain⟨h1,h2⟩:=kV hf;have h3:(Value.string p,Value.int .i64 f.kind)∈M.map pd:=List.mem_map.2 ⟨f,h1,by rw[<-h2]; rfl⟩;have:=h.is.hit bO eI (cD hp) h3 true
 simpa only[if_true]using this
theorem pf {w:World} {mb:Nat} {M:List bu} (h:cO Tryz.prog 9 w mb (M.map pd)) {p:ByteArray} (hp:p.size<=maxLen) (hf:gT M p=none):
  (Instr.lookup 47 (.map (some mb)) (.string p) true).run Tryz.prog w= .ok (.tuple #[.int .i64 0, .bool false]) w:=by
 have hz:(zeroValue 3).run Tryz.prog w= .ok (.int .i64 0) w:=by kernel_rfl
 have:=h.is.miss bO eI hz (cD hp) (fun q hq e=>by
  obtain⟨x,hx,rfl⟩:=List.mem_map.1 hq;simp only[pd,Value.string.injEq]at e;exact oM hf x hx e) true
 simpa only[if_true]using this
theorem kn {M:List bu} {e:bu} (h:Tr (M++[e])): ∀q∈M.map pd,q.1≠Value.string e.path:=by
 intro q hq hc;obtain⟨x,hx,rfl⟩:=List.mem_map.1 hq;simp only[pd,Value.string.injEq]at hc;have hn:=h.ord.nodup;rw[List.map_append,List.nodup_append]at hn;exact hn.2.2 x.path (List.mem_map.2 ⟨x,hx,rfl⟩) e.path (by simp) hc
theorem qS (a b:ByteArray) (o:Int) (w:World) (ha:a.size<=maxLen) (h:cP (bl a) (bl b)=o):Calls Tryz.prog 118 #[.string a, .string b] w fun e w'=>e= .returned (.int .i64 o)/\Below w.heap.size w w':=by
 rw[<-h]; exact uf a b w (by unfold maxLen at ha; omega)
theorem Bp {L:List bu} {k:Nat} {f e:bu} (hf:L[k]? =some f):jx (L.take (k+1)) e=decide (cP (bl f.path) (bl e.path)<0):=by
 have:(L.take (k+1)).getLast? =some f:=by rw[List.take_add_one,hf]; simp
 unfold jx;rw[this]; rfl
end Go.Proofs.YtpffpjbkbaleiaaGreatDoor
namespace Go.Proofs.YtpffpjbkbaleiaaGreatDoor
open Go.RowKit Go.Maps
def Fh (L:List bu) (mb:Nat) (w:World) (k:Nat) (wr:World):Prop:=Tr (L.take k)/\cO Tryz.prog 9 wr mb ((L.take k).map pd)/\Below w.heap.size w wr
theorem zh (S:Nat->Prop) (L:List bu) (v:Value) (w:World) (hv:dy S w v L) (henv:gG w):Calls Tryz.prog 71 #[v] w fun e w'=>e= .returned (.int .i64 (cR L))/\Below w.heap.size w w':=by
 have HV:=ab hv;have HE:=ab henv;obtain⟨a,cap,rfl,hc,hm,-⟩:=aP.shape hv qa.len;unfold maxLen at hm;obtain⟨n,hn⟩: ∃n,n=L.length:=⟨_,rfl⟩;have HN:=ab hn;rw[<-hn]at hc HV ⊢;clear hv henv
 by_cases hbig:4096<n
 ·have hbi:(4096:Int)<(n:Int):=by omega
  have HC:=ab (zi (by rw[<-hn]; exact hbig));clear hbig hn
  go_enter Tryz.func71,Tryz.ntmps71
  go_wp2_with fail;go_ret;exact⟨ci (by rw[HC.out]),Below.refl _ _⟩
 ·have hbi:(n:Int)<=(4096:Int):=by omega
  have hmk:=xd w n (by omega);have HL4:=ab (show L.length<=4096 by omega);clear hbig hn
  go_enter Tryz.func71,Tryz.ntmps71
  go_wp2_with fail;obtain⟨W0,hW0⟩: ∃W0,W0=w.alloc (.map #[] 0):=⟨_,rfl⟩;rw[<-hW0];have HM0:=ab (show cO Tryz.prog 9 W0 w.heap.size [] by rw[hW0]; exact cO.made w);have HB0:=ab (show Below w.heap.size w W0 by rw[hW0]; exact(Below.refl _ _).alloc (Nat.le_refl _) _);clear hW0;clear hmk
  go_loopw [18] (fun i wr=> ∃k:Nat,k<=n/\i= .int .i64 k/\Fh L w.heap.size w k wr) (fun i _=>n-(intOf i).toNat)
  case atStart=>exact⟨0,Nat.zero_le _,rfl,⟨List.Pairwise.nil,by simp,by simp⟩,HM0.out,HB0.out⟩
  case round=>
   obtain⟨k,hk,rfl,htr,hkm,hbr⟩:=hrel;have HTR:=ab htr;have HKM:=ab hkm;have HBR:=ab hbr;clear htr hkm hbr
   by_cases hlt:k<n
   ·obtain⟨e,he⟩: ∃e,L[k]? =some e:=⟨L[k]'(by rw[<-HN.out]; exact hlt),by simp⟩;obtain⟨b,o,dv,rfl,-,hb,hd,hok,-,q0,q1,q2,q3,q4,q5⟩:=kj (HV.out.below HBR.out) he;have HAT:=ab he;have HD:=ab hd;have HOK:=ab hok;obtain⟨a1,cap1,rfl,hd1,hd2⟩:=hd.slice;unfold maxLen at hd2;clear he hd hok
    cases hve:iC e
    ·have HVE:=ab hve;have HCA:=ab (show cM (L.take k) e=1 by unfold cM; rw[hve]; rfl);clear hve;go_wp2_with fail;obtain⟨W,hW⟩: ∃W,W=wr.alloc (.cells #[.string e.path, .int .i64 e.kind, .int .i64 e.mode, .int .i64 e.time, .slice a1 e.data.length cap1, .string e.link] 79):=⟨_,rfl⟩;rw[<-hW];have HX:=ab (show W.heap[wr.heap.size]? =some (.cells #[.string e.path, .int .i64 e.kind, .int .i64 e.mode, .int .i64 e.time, .slice a1 e.data.length cap1, .string e.link] 79 (0,0)) by rw[hW]; exact bQ wr _)
     have HWL:=ab (show Below wr.heap.size wr W by rw[hW]; exact(Below.refl _ _).alloc (Nat.le_refl _) _);have HBW:=ab (ah HBR.out HWL.out);clear hW;refine(kz S e _ false _ (HD.out.below HWL.out) HOK.out (HE.out.below HBW.out) HVE.out).mono ?_;rintro e7 w7 ⟨rfl,hb7⟩;have HB9:=ab (ah HBW.out hb7);clear hb7;go_wp2_with fail;go_ret;exact⟨ci (by rw[fm HL4.out HTR.out HAT.out (x:=1) HCA.out (by decide)]),HB9.out⟩
    ·have HVE:=ab hve;obtain⟨q,hq⟩: ∃q:ByteArray,q=⟨(aT (bl e.path)).toArray⟩:=⟨_,rfl⟩;have HBQ:=ab (show bl q=aT (bl e.path) by rw[hq]; exact fa _);have HQ:=ab hq;have HQS:=ab (show q.size<=maxLen by
      have h1:=gB (bM hve);have h2:=xC (bM hve);rw[aw,HBQ.out]; unfold maxLen; omega)
     clear hve hq
     rcases Nat.eq_zero_or_pos k with hk0 | hk0
     ·have e9:decide (0<k)=false:=by simp; omega
      have e8:(k:Int)<=0:=by omega
      have HCV:=ab (show(iC e && jx (L.take k) e)=true by rw[hk0,HVE.out]; rfl);clear hk0;go_wp2_with fail;obtain⟨W,hW⟩: ∃W,W=wr.alloc (.cells #[.string e.path, .int .i64 e.kind, .int .i64 e.mode, .int .i64 e.time, .slice a1 e.data.length cap1, .string e.link] 79):=⟨_,rfl⟩;rw[<-hW];have HX:=ab (show W.heap[wr.heap.size]? =some (.cells #[.string e.path, .int .i64 e.kind, .int .i64 e.mode, .int .i64 e.time, .slice a1 e.data.length cap1, .string e.link] 79 (0,0)) by rw[hW]; exact bQ wr _)
      have HWL:=ab (show Below wr.heap.size wr W by rw[hW]; exact(Below.refl _ _).alloc (Nat.le_refl _) _);have HBW:=ab (ah HBR.out HWL.out);clear hW;refine(kz S e _ true _ (HD.out.below HWL.out) HOK.out (HE.out.below HBW.out) HVE.out).mono ?_;rintro e7 w7 ⟨rfl,hb7⟩;have HX7:=ab ((hb7.block wr.heap.size (nu HX.out)).trans HX.out);have HL7:=ab (HWL.out.trans (hb7.mono HWL.out.size))
      have c0:=aa (k:=0) HX7.out;have c1:=aa (k:=1) HX7.out;have c2:=aa (k:=2) HX7.out;have c3:=aa (k:=3) HX7.out;have c4:=aa (k:=4) HX7.out;have c5:=aa (k:=5) HX7.out;simp only[aJ]at c0 c1 c2 c3 c4 c5;clear hb7;go_wp2_with fail;refine an [some 11,none,some 2] (by kernel_rfl) (by kernel_rfl) (by kernel_rfl) ?_;simp only[bi,List.take_succ_cons,List.take_zero,List.drop_succ_cons,List.drop_zero]
      obtain⟨wd,hwd⟩: ∃wd:World,wd=w7.drew:=⟨_,rfl⟩;rw[<-hwd];have HLD:=ab (show Below wr.heap.size wr wd by rw[hwd]; exact HL7.out.trans ((Below.refl w7.heap.size w7).drew.mono HL7.out.size));have HXD:=ab (show wd.heap[wr.heap.size]? =some (.cells #[.string e.path, .int .i64 e.kind, .int .i64 e.mode, .int .i64 e.time, .slice a1 e.data.length cap1, .string e.link] 79 (0,0)) by rw[hwd]; exact HX7.out)
      clear hwd c0 c1 c2 c3 c4 c5;have c0:=aa (k:=0) HXD.out;have c1:=aa (k:=1) HXD.out;have c2:=aa (k:=2) HXD.out;have c3:=aa (k:=3) HXD.out;have c4:=aa (k:=4) HXD.out;have c5:=aa (k:=5) HXD.out;simp only[aJ]at c0 c1 c2 c3 c4 c5
      repeat (first | (refine aF rfl ?_; simp only[Act.put,aB,aC,aD]) | (refine aL rfl (fun K hK=> ?_); go_simp; refine hK _ ?_; clear hK K))
      refine aK ?_;refine Bs rfl ?_;simp only[Act.put,aB,aC,aD]
      repeat (first | (refine aF rfl ?_; simp only[Act.put,aB,aC,aD]) | (refine aL rfl (fun K hK=> ?_); go_simp; refine hK _ ?_; clear hK K))
      refine aK ?_;clear c0 c1 c2 c3 c4 c5;have HL8:=ab HLD.out;have HX8:=ab HXD.out;have HB8:=ab (ah HBR.out HLD.out);have c0:=aa (k:=0) HX8.out;have c1:=aa (k:=1) HX8.out;have c2:=aa (k:=2) HX8.out;have c3:=aa (k:=3) HX8.out;have c4:=aa (k:=4) HX8.out;have c5:=aa (k:=5) HX8.out;simp only[aJ]at c0 c1 c2 c3 c4 c5;go_wp2_with fail
      by_cases h0:aT (bl e.path)=[]
      ·have e1:q.toList.isEmpty=true:=by rw[nL,HBQ.out,decide_eq_true h0]
       have HTN:=ab (ja HTR.out HAT.out (show cM (L.take k) e=0 by unfold cM; rw[if_pos HCV.out]; unfold lC; rw[if_pos h0]));clear h0;refine(eJ e.path q _ (HE.out.below HB8.out) (bM HVE.out) HQ.out).mono ?_;rintro e9 w9 ⟨rfl,hb9⟩;have HL9:=ab (HL8.out.trans (hb9.mono HL8.out.size));have HB9:=ab (ah HB8.out hb9);have HX9:=ab ((hb9.block wr.heap.size (nu HX8.out)).trans HX8.out)
       have HK9:=ab (HKM.out.same (HL9.out.block w.heap.size HKM.out.lt));clear hb9;have c0:=aa (k:=0) HX9.out;have c1:=aa (k:=1) HX9.out;have c2:=aa (k:=2) HX9.out;have c3:=aa (k:=3) HX9.out;have c4:=aa (k:=4) HX9.out;have c5:=aa (k:=5) HX9.out;simp only[aJ]at c0 c1 c2 c3 c4 c5;go_wp2_with (at_mapUpdate; go_must (refine ed bO rfl _ _ _ _ rfl eI w.heap.size _ HK9.out rfl (.string e.path) (.int .i64 e.kind) rfl rfl (cD HOK.out.pth) (kn (by have h1:=HTN.out; rw[List.take_add_one,HAT.out]at h1; exact h1)) ?_); intro w10 hm10 hg10)
       have HM10:=ab hm10;have HG10:=ab hg10;clear hm10 hg10 c0 c1 c2 c3 c4 c5;go_wp2_with fail
       go_roundw
       case rel=>
        refine⟨k+1,by omega,by go_num,HTN.out, ?_, ?_⟩
        ·rw[List.take_add_one,HAT.out,List.map_append]; exact HM10.out
        ·exact HB9.out.grown HG10.out HB9.out.size (fun k e=>by cases e; exact Nat.le_refl _)
       case measure=>simp[intOf]; omega
      ·have e1:q.toList.isEmpty=false:=by rw[nL,HBQ.out,decide_eq_false h0]
       have HDI:=ab (show ∀x,(match gT (L.take k) q with | none=>(4:Int) | some f=>if f.kind=2 then 0 else 13)=x->cM (L.take k) e=x from fun x hx=>by unfold cM; rw[if_pos HCV.out]; unfold lC; rw[if_neg h0,<-HQ.out]; exact hx);clear h0
       cases hf:gT (L.take k) q with
       | none=>
        have HF:=ab hf;have HCA:=ab (HDI.out 4 (by rw[hf]));clear hf;refine(eJ e.path q _ (HE.out.below HB8.out) (bM HVE.out) HQ.out).mono ?_;rintro e9 w9 ⟨rfl,hb9⟩;have HL9:=ab (HL8.out.trans (hb9.mono HL8.out.size));have HB9:=ab (ah HB8.out hb9);have HX9:=ab ((hb9.block wr.heap.size (nu HX8.out)).trans HX8.out);have HK9:=ab (HKM.out.same (HL9.out.block w.heap.size HKM.out.lt))
        clear hb9;have c0:=aa (k:=0) HX9.out;have c1:=aa (k:=1) HX9.out;have c2:=aa (k:=2) HX9.out;have c3:=aa (k:=3) HX9.out;have c4:=aa (k:=4) HX9.out;have c5:=aa (k:=5) HX9.out;simp only[aJ]at c0 c1 c2 c3 c4 c5;have hlk:=pf HK9.out HQS.out HF.out;go_wp2_with fail;go_ret;exact⟨ci (by rw[fm HL4.out HTR.out HAT.out (x:=4) HCA.out (by decide)]),HB9.out⟩
       | some f=>
        have HF:=ab hf
        by_cases hk2:f.kind=2
        ·have e3:(f.kind != 2)=false:=by simp[hk2]
         have HTN:=ab (ja HTR.out HAT.out (HDI.out 0 (by rw[hf]; simp only[if_pos hk2])));clear hf hk2;refine(eJ e.path q _ (HE.out.below HB8.out) (bM HVE.out) HQ.out).mono ?_;rintro e9 w9 ⟨rfl,hb9⟩;have HL9:=ab (HL8.out.trans (hb9.mono HL8.out.size));have HB9:=ab (ah HB8.out hb9);have HX9:=ab ((hb9.block wr.heap.size (nu HX8.out)).trans HX8.out);have HK9:=ab (HKM.out.same (HL9.out.block w.heap.size HKM.out.lt))
         clear hb9;have c0:=aa (k:=0) HX9.out;have c1:=aa (k:=1) HX9.out;have c2:=aa (k:=2) HX9.out;have c3:=aa (k:=3) HX9.out;have c4:=aa (k:=4) HX9.out;have c5:=aa (k:=5) HX9.out;simp only[aJ]at c0 c1 c2 c3 c4 c5;have hlk:=km HK9.out HQS.out HF.out;go_wp2_with (at_mapUpdate; go_must (refine ed bO rfl _ _ _ _ rfl eI w.heap.size _ HK9.out rfl (.string e.path) (.int .i64 e.kind) rfl rfl (cD HOK.out.pth) (kn (by have h1:=HTN.out; rw[List.take_add_one,HAT.out]at h1; exact h1)) ?_); intro w10 hm10 hg10)
         have HM10:=ab hm10;have HG10:=ab hg10;clear hm10 hg10 c0 c1 c2 c3 c4 c5;go_wp2_with fail
         go_roundw
         case rel=>
          refine⟨k+1,by omega,by go_num,HTN.out, ?_, ?_⟩
          ·rw[List.take_add_one,HAT.out,List.map_append]; exact HM10.out
          ·exact HB9.out.grown HG10.out HB9.out.size (fun k e=>by cases e; exact Nat.le_refl _)
         case measure=>simp[intOf]; omega
        ·have e3:(f.kind != 2)=true:=by simp[hk2]
         have HCA:=ab (HDI.out 13 (by rw[hf]; simp only[if_neg hk2]));clear hf hk2;refine(eJ e.path q _ (HE.out.below HB8.out) (bM HVE.out) HQ.out).mono ?_;rintro e9 w9 ⟨rfl,hb9⟩;have HL9:=ab (HL8.out.trans (hb9.mono HL8.out.size));have HB9:=ab (ah HB8.out hb9);have HX9:=ab ((hb9.block wr.heap.size (nu HX8.out)).trans HX8.out);have HK9:=ab (HKM.out.same (HL9.out.block w.heap.size HKM.out.lt))
         clear hb9;have c0:=aa (k:=0) HX9.out;have c1:=aa (k:=1) HX9.out;have c2:=aa (k:=2) HX9.out;have c3:=aa (k:=3) HX9.out;have c4:=aa (k:=4) HX9.out;have c5:=aa (k:=5) HX9.out;simp only[aJ]at c0 c1 c2 c3 c4 c5;have hlk:=km HK9.out HQS.out HF.out;go_wp2_with fail;go_ret;exact⟨ci (by rw[fm HL4.out HTR.out HAT.out (x:=13) HCA.out (by decide)]),HB9.out⟩
     ·obtain⟨j,rfl⟩: ∃j,k=j+1:=⟨k-1,by omega⟩;obtain⟨f,hf⟩: ∃f,L[j]? =some f:=⟨L[j]'(by rw[<-HN.out]; omega),by simp⟩;obtain⟨b',o',dv',he',-,-,-,hokf,-,p0,-⟩:=kj (HV.out.below HBR.out) hf;simp only[Option.some.injEq,Addr.mk.injEq,and_true]at he';obtain⟨rfl,rfl⟩:=he';have HPF:=ab hokf.pth;obtain⟨c,hc⟩: ∃c,cP (bl f.path) (bl e.path)=c:=⟨_,rfl⟩
      have HC:=ab hc;have e9:decide (0<j+1)=true:=by simp
      have hjn:j<n:=by omega
      have hjn2:(j:Int)<(n:Int):=by omega
      have hjn3:decide (j<n)=true:=by simp; omega
      have hwj:IntKind.i64.wrap (j:Int)=j:=by rw[IntKind.wrap_i64]; omega
      have HAF:=ab (show jx (L.take (j+1)) e=decide (c<0) by rw[Bp hf,hc]);clear hf hokf hc hk0
      by_cases hneg:c<0
      ·have HCV:=ab (show(iC e && jx (L.take (j+1)) e)=true by rw[HVE.out,HAF.out,decide_eq_true hneg]; rfl);have e8:decide (0<=c)=false:=by simp; omega
       go_wp2_with fail;obtain⟨W,hW⟩: ∃W,W=wr.alloc (.cells #[.string e.path, .int .i64 e.kind, .int .i64 e.mode, .int .i64 e.time, .slice a1 e.data.length cap1, .string e.link] 79):=⟨_,rfl⟩;rw[<-hW];have HX:=ab (show W.heap[wr.heap.size]? =some (.cells #[.string e.path, .int .i64 e.kind, .int .i64 e.mode, .int .i64 e.time, .slice a1 e.data.length cap1, .string e.link] 79 (0,0)) by rw[hW]; exact bQ wr _)
       have HWL:=ab (show Below wr.heap.size wr W by rw[hW]; exact(Below.refl _ _).alloc (Nat.le_refl _) _);have HBW:=ab (ah HBR.out HWL.out);clear hW;refine(kz S e _ true _ (HD.out.below HWL.out) HOK.out (HE.out.below HBW.out) HVE.out).mono ?_;rintro e7 w7 ⟨rfl,hb7⟩;have HX7:=ab ((hb7.block wr.heap.size (nu HX.out)).trans HX.out);have HL7:=ab (HWL.out.trans (hb7.mono HWL.out.size))
       have c0:=aa (k:=0) HX7.out;have c1:=aa (k:=1) HX7.out;have c2:=aa (k:=2) HX7.out;have c3:=aa (k:=3) HX7.out;have c4:=aa (k:=4) HX7.out;have c5:=aa (k:=5) HX7.out;simp only[aJ]at c0 c1 c2 c3 c4 c5;clear hb7;go_wp2_with fail;refine an [some 11,none,some 2] (by kernel_rfl) (by kernel_rfl) (by kernel_rfl) ?_;simp only[bi,List.take_succ_cons,List.take_zero,List.drop_succ_cons,List.drop_zero]
       obtain⟨wd,hwd⟩: ∃wd:World,wd=w7.drew:=⟨_,rfl⟩;rw[<-hwd];have HLD:=ab (show Below wr.heap.size wr wd by rw[hwd]; exact HL7.out.trans ((Below.refl w7.heap.size w7).drew.mono HL7.out.size));have HXD:=ab (show wd.heap[wr.heap.size]? =some (.cells #[.string e.path, .int .i64 e.kind, .int .i64 e.mode, .int .i64 e.time, .slice a1 e.data.length cap1, .string e.link] 79 (0,0)) by rw[hwd]; exact HX7.out)
       clear hwd c0 c1 c2 c3 c4 c5;have c0:=aa (k:=0) HXD.out;have c1:=aa (k:=1) HXD.out;have c2:=aa (k:=2) HXD.out;have c3:=aa (k:=3) HXD.out;have c4:=aa (k:=4) HXD.out;have c5:=aa (k:=5) HXD.out;simp only[aJ]at c0 c1 c2 c3 c4 c5;have y0:=(HLD.out.cell (aO p0)).trans p0
       repeat (first | (refine aF rfl ?_; simp only[Act.put,aB,aC,aD]) | (refine aL rfl (fun K hK=> ?_); go_simp; refine hK _ ?_; clear hK K))
       refine aK ?_;refine bA rfl (fun K hK=> ?_);go_wp2_with (go_at_call 118; refine(qS f.path e.path c _ HPF.out HC.out).mono ?_; rintro e8' w8 ⟨rfl,hb8⟩; have HL8:=ab (HLD.out.trans (hb8.mono HLD.out.size)); have HX8:=ab ((hb8.block wr.heap.size (nu HXD.out)).trans HXD.out); clear hb8 c0 c1 c2 c3 c4 c5 y0)
       repeat (first | (refine aF rfl ?_; simp only[Act.put,aB,aC,aD]) | (refine aL rfl (fun K hK=> ?_); go_simp; refine hK _ ?_; clear hK K))
       refine aK ?_;have HB8:=ab (ah HBR.out HL8.out);have c0:=aa (k:=0) HX8.out;have c1:=aa (k:=1) HX8.out;have c2:=aa (k:=2) HX8.out;have c3:=aa (k:=3) HX8.out;have c4:=aa (k:=4) HX8.out;have c5:=aa (k:=5) HX8.out;simp only[aJ]at c0 c1 c2 c3 c4 c5;go_wp2_with fail
       by_cases h0:aT (bl e.path)=[]
       ·have e1:q.toList.isEmpty=true:=by rw[nL,HBQ.out,decide_eq_true h0]
        have HTN:=ab (ja HTR.out HAT.out (show cM (L.take (j+1)) e=0 by unfold cM; rw[if_pos HCV.out]; unfold lC; rw[if_pos h0]));clear h0;refine(eJ e.path q _ (HE.out.below HB8.out) (bM HVE.out) HQ.out).mono ?_;rintro e9 w9 ⟨rfl,hb9⟩;have HL9:=ab (HL8.out.trans (hb9.mono HL8.out.size));have HB9:=ab (ah HB8.out hb9);have HX9:=ab ((hb9.block wr.heap.size (nu HX8.out)).trans HX8.out)
        have HK9:=ab (HKM.out.same (HL9.out.block w.heap.size HKM.out.lt));clear hb9;have c0:=aa (k:=0) HX9.out;have c1:=aa (k:=1) HX9.out;have c2:=aa (k:=2) HX9.out;have c3:=aa (k:=3) HX9.out;have c4:=aa (k:=4) HX9.out;have c5:=aa (k:=5) HX9.out;simp only[aJ]at c0 c1 c2 c3 c4 c5;go_wp2_with (at_mapUpdate; go_must (refine ed bO rfl _ _ _ _ rfl eI w.heap.size _ HK9.out rfl (.string e.path) (.int .i64 e.kind) rfl rfl (cD HOK.out.pth) (kn (by have h1:=HTN.out; rw[List.take_add_one,HAT.out]at h1; exact h1)) ?_); intro w10 hm10 hg10)
        have HM10:=ab hm10;have HG10:=ab hg10;clear hm10 hg10 c0 c1 c2 c3 c4 c5;go_wp2_with fail
        go_roundw
        case rel=>
         refine⟨j+1+1,by omega,by go_num,HTN.out, ?_, ?_⟩
         ·rw[List.take_add_one,HAT.out,List.map_append]; exact HM10.out
         ·exact HB9.out.grown HG10.out HB9.out.size (fun k e=>by cases e; exact Nat.le_refl _)
        case measure=>simp[intOf]; omega
       ·have e1:q.toList.isEmpty=false:=by rw[nL,HBQ.out,decide_eq_false h0]
        have HDI:=ab (show ∀x,(match gT (L.take (j+1)) q with | none=>(4:Int) | some g=>if g.kind=2 then 0 else 13)=x->cM (L.take (j+1)) e=x from fun x hx=>by unfold cM; rw[if_pos HCV.out]; unfold lC; rw[if_neg h0,<-HQ.out]; exact hx);clear h0
        cases hf:gT (L.take (j+1)) q with
        | none=>
         have HF:=ab hf;have HCA:=ab (HDI.out 4 (by rw[hf]));clear hf;refine(eJ e.path q _ (HE.out.below HB8.out) (bM HVE.out) HQ.out).mono ?_;rintro e9 w9 ⟨rfl,hb9⟩;have HL9:=ab (HL8.out.trans (hb9.mono HL8.out.size));have HB9:=ab (ah HB8.out hb9);have HX9:=ab ((hb9.block wr.heap.size (nu HX8.out)).trans HX8.out);have HK9:=ab (HKM.out.same (HL9.out.block w.heap.size HKM.out.lt))
         clear hb9;have c0:=aa (k:=0) HX9.out;have c1:=aa (k:=1) HX9.out;have c2:=aa (k:=2) HX9.out;have c3:=aa (k:=3) HX9.out;have c4:=aa (k:=4) HX9.out;have c5:=aa (k:=5) HX9.out;simp only[aJ]at c0 c1 c2 c3 c4 c5;have hlk:=pf HK9.out HQS.out HF.out;go_wp2_with fail;go_ret;exact⟨ci (by rw[fm HL4.out HTR.out HAT.out (x:=4) HCA.out (by decide)]),HB9.out⟩
        | some g=>
         have HF:=ab hf
         by_cases hk2:g.kind=2
         ·have e3:(g.kind != 2)=false:=by simp[hk2]
          have HTN:=ab (ja HTR.out HAT.out (HDI.out 0 (by rw[hf]; simp only[if_pos hk2])));clear hf hk2;refine(eJ e.path q _ (HE.out.below HB8.out) (bM HVE.out) HQ.out).mono ?_;rintro e9 w9 ⟨rfl,hb9⟩;have HL9:=ab (HL8.out.trans (hb9.mono HL8.out.size));have HB9:=ab (ah HB8.out hb9);have HX9:=ab ((hb9.block wr.heap.size (nu HX8.out)).trans HX8.out);have HK9:=ab (HKM.out.same (HL9.out.block w.heap.size HKM.out.lt))
          clear hb9;have c0:=aa (k:=0) HX9.out;have c1:=aa (k:=1) HX9.out;have c2:=aa (k:=2) HX9.out;have c3:=aa (k:=3) HX9.out;have c4:=aa (k:=4) HX9.out;have c5:=aa (k:=5) HX9.out;simp only[aJ]at c0 c1 c2 c3 c4 c5;have hlk:=km HK9.out HQS.out HF.out;go_wp2_with (at_mapUpdate; go_must (refine ed bO rfl _ _ _ _ rfl eI w.heap.size _ HK9.out rfl (.string e.path) (.int .i64 e.kind) rfl rfl (cD HOK.out.pth) (kn (by have h1:=HTN.out; rw[List.take_add_one,HAT.out]at h1; exact h1)) ?_); intro w10 hm10 hg10)
          have HM10:=ab hm10;have HG10:=ab hg10;clear hm10 hg10 c0 c1 c2 c3 c4 c5;go_wp2_with fail
          go_roundw
          case rel=>
           refine⟨j+1+1,by omega,by go_num,HTN.out, ?_, ?_⟩
           ·rw[List.take_add_one,HAT.out,List.map_append]; exact HM10.out
           ·exact HB9.out.grown HG10.out HB9.out.size (fun k e=>by cases e; exact Nat.le_refl _)
          case measure=>simp[intOf]; omega
         ·have e3:(g.kind != 2)=true:=by simp[hk2]
          have HCA:=ab (HDI.out 13 (by rw[hf]; simp only[if_neg hk2]));clear hf hk2;refine(eJ e.path q _ (HE.out.below HB8.out) (bM HVE.out) HQ.out).mono ?_;rintro e9 w9 ⟨rfl,hb9⟩;have HL9:=ab (HL8.out.trans (hb9.mono HL8.out.size));have HB9:=ab (ah HB8.out hb9);have HX9:=ab ((hb9.block wr.heap.size (nu HX8.out)).trans HX8.out);have HK9:=ab (HKM.out.same (HL9.out.block w.heap.size HKM.out.lt))
          clear hb9;have c0:=aa (k:=0) HX9.out;have c1:=aa (k:=1) HX9.out;have c2:=aa (k:=2) HX9.out;have c3:=aa (k:=3) HX9.out;have c4:=aa (k:=4) HX9.out;have c5:=aa (k:=5) HX9.out;simp only[aJ]at c0 c1 c2 c3 c4 c5;have hlk:=km HK9.out HQS.out HF.out;go_wp2_with fail;go_ret;exact⟨ci (by rw[fm HL4.out HTR.out HAT.out (x:=13) HCA.out (by decide)]),HB9.out⟩
      ·have HCA:=ab (show cM (L.take (j+1)) e=1 by unfold cM; rw[HAF.out,decide_eq_false hneg]; simp);have e8:decide (0<=c)=true:=by simp; omega
       have e7:0<=c:=by omega
       go_wp2_with fail;obtain⟨W,hW⟩: ∃W,W=wr.alloc (.cells #[.string e.path, .int .i64 e.kind, .int .i64 e.mode, .int .i64 e.time, .slice a1 e.data.length cap1, .string e.link] 79):=⟨_,rfl⟩;rw[<-hW];have HX:=ab (show W.heap[wr.heap.size]? =some (.cells #[.string e.path, .int .i64 e.kind, .int .i64 e.mode, .int .i64 e.time, .slice a1 e.data.length cap1, .string e.link] 79 (0,0)) by rw[hW]; exact bQ wr _)
       have HWL:=ab (show Below wr.heap.size wr W by rw[hW]; exact(Below.refl _ _).alloc (Nat.le_refl _) _);have HBW:=ab (ah HBR.out HWL.out);clear hW;refine(kz S e _ true _ (HD.out.below HWL.out) HOK.out (HE.out.below HBW.out) HVE.out).mono ?_;rintro e7 w7 ⟨rfl,hb7⟩;have HX7:=ab ((hb7.block wr.heap.size (nu HX.out)).trans HX.out);have HL7:=ab (HWL.out.trans (hb7.mono HWL.out.size))
       have c0:=aa (k:=0) HX7.out;have c1:=aa (k:=1) HX7.out;have c2:=aa (k:=2) HX7.out;have c3:=aa (k:=3) HX7.out;have c4:=aa (k:=4) HX7.out;have c5:=aa (k:=5) HX7.out;simp only[aJ]at c0 c1 c2 c3 c4 c5;clear hb7;go_wp2_with fail;refine an [some 11,none,some 2] (by kernel_rfl) (by kernel_rfl) (by kernel_rfl) ?_;simp only[bi,List.take_succ_cons,List.take_zero,List.drop_succ_cons,List.drop_zero]
       obtain⟨wd,hwd⟩: ∃wd:World,wd=w7.drew:=⟨_,rfl⟩;rw[<-hwd];have HLD:=ab (show Below wr.heap.size wr wd by rw[hwd]; exact HL7.out.trans ((Below.refl w7.heap.size w7).drew.mono HL7.out.size));have HXD:=ab (show wd.heap[wr.heap.size]? =some (.cells #[.string e.path, .int .i64 e.kind, .int .i64 e.mode, .int .i64 e.time, .slice a1 e.data.length cap1, .string e.link] 79 (0,0)) by rw[hwd]; exact HX7.out)
       clear hwd c0 c1 c2 c3 c4 c5;have c0:=aa (k:=0) HXD.out;have c1:=aa (k:=1) HXD.out;have c2:=aa (k:=2) HXD.out;have c3:=aa (k:=3) HXD.out;have c4:=aa (k:=4) HXD.out;have c5:=aa (k:=5) HXD.out;simp only[aJ]at c0 c1 c2 c3 c4 c5;have y0:=(HLD.out.cell (aO p0)).trans p0
       repeat (first | (refine aF rfl ?_; simp only[Act.put,aB,aC,aD]) | (refine aL rfl (fun K hK=> ?_); go_simp; refine hK _ ?_; clear hK K))
       refine aK ?_;refine bA rfl (fun K hK=> ?_);go_wp2_with (go_at_call 118; refine(qS f.path e.path c _ HPF.out HC.out).mono ?_; rintro e8' w8 ⟨rfl,hb8⟩; have HL8:=ab (HLD.out.trans (hb8.mono HLD.out.size)); clear hb8 c0 c1 c2 c3 c4 c5 y0)
       repeat (first | (refine aF rfl ?_; simp only[Act.put,aB,aC,aD]) | (refine aL rfl (fun K hK=> ?_); go_simp; refine hK _ ?_; clear hK K))
       refine aK ?_;have HB9:=ab (ah HBR.out HL8.out);go_wp2_with fail;go_ret;exact⟨ci (by rw[fm HL4.out HTR.out HAT.out (x:=1) HCA.out (by decide)]),HB9.out⟩
   ·have hk2:k=n:=by omega
    subst hk2;go_wp2_with fail;go_ret;exact⟨ci (by rw[ws HL4.out (by rw[<-HN.out]; exact HTR.out)]),HBR.out⟩
end Go.Proofs.YtpffpjbkbaleiaaGreatDoor
namespace Go.Proofs.YtpffpjbkbaleiaaGreatDoor
open Go Go.RowKit Go.Maps
def ut (p:ByteArray×Int):Value×Value:=(.string p.1, .int .i64 p.2)
def ii (S:Nat->Prop) (w:World) (gv:Value) (gs:List (ByteArray×Int)):Prop:=
 (gv= .map none/\gs=[])\/ ∃b,gv= .map (some b)/\S b/\cO Tryz.prog 9 w b (gs.map ut)
theorem ii.keep {S:Nat->Prop} {w w':World} {gv:Value} {gs:List (ByteArray×Int)} (h:ii S w gv gs) (hs: ∀k,S k->k<w.heap.size->w'.heap[k]? =w.heap[k]?):ii S w' gv gs:=by
 rcases h with h | ⟨b,h1,h0,h2⟩
 ·exact .inl h
 ·exact .inr ⟨b,h1,h0,h2.same (hs b h0 h2.lt)⟩
theorem BQ {S:Nat->Prop} {w:World} {gv:Value} {gs:List (ByteArray×Int)} (h:ii S w gv gs) {n:ByteArray} (hn:n.size<=maxLen):
  (Instr.lookup 47 gv (.string n) false).run Tryz.prog w= .ok (.int .i64 (jD gs n)) w:=by
 have hz:(zeroValue 3).run Tryz.prog w= .ok (.int .i64 0) w:=by kernel_rfl
 obtain⟨l,hl⟩:=cD hn
 rcases h with⟨rfl,rfl⟩ | ⟨b,rfl,_,h2⟩
 ·have:=Maps.look_nil false bO (t:=47) (e:=3) eI hz hl
  simpa [jD]using this
 ·unfold jD
  cases hf:gs.find? (fun p=>decide (p.1=n))with
  | none=>
   have:=h2.is.miss bO eI hz ⟨l,hl⟩ (fun q hq e=>by
    obtain⟨x,hx,rfl⟩:=List.mem_map.1 hq;simp only[ut,Value.string.injEq]at e;have:=List.find?_eq_none.1 hf x hx;simp[e]at this) false
   simpa using this
  | some p=>
   have h3:=List.mem_of_find?_eq_some hf;have h4:=List.find?_some hf;simp only[decide_eq_true_eq]at h4;have:=h2.is.hit bO eI ⟨l,hl⟩ (val:= .int .i64 p.2) (List.mem_map.2 ⟨p,h3,by rw[<-h4]; rfl⟩) false
   simpa using this
def jr (v:Value) (b:bK):List Value:=[.string b.ref.name, .int .i64 b.ref.gen, .int .i64 b.ref.size,v]
abbrev iG :=Value×bK
def ey (zs:List iG):List Value:=zs.flatMap fun z=>jr z.1 z.2
theorem tR (zs:List iG) (z:iG):ey (zs++[z])=ey zs++jr z.1 z.2:=by simp[ey]
theorem qJ {a:Option Addr} {n c:Nat} {b:bK} : ∀u∈jr (.slice a n c) b,u.oneCell'=true:=by
 intro u hu;simp only[jr,List.mem_cons,List.not_mem_nil,or_false]at hu
 rcases hu with rfl | rfl | rfl | rfl<;> rfl
theorem Tryz.appBlobs :eQ Tryz.prog 49 53 4 56:=eQ.mk' (z:= .agg #[.string ⟨#[]⟩, .int .i64 0, .int .i64 0, .slice none 0 0]) Tryz.underlying49 (by kernel_rfl) rfl (by decide) (by decide)
structure dU (w : World) (base : Nat) (v : Value) (zs : List iG) : Prop where
 row:w.ownsRow base 53 4 v zs.length (ey zs)
 dat: ∀z∈zs,w.ownsRow base 5 1 z.1 z.2.con.length (z.2.con.map au)
def fV (k:bF) (c:dE) (gv:Value) (im kb:Nat) (v:Value):List Value:=cY k++dt c++[gv, .map (some im),v, .map (some kb)]
structure ee (w : World) (base bb : Nat) (k : bF) (c : dE) (gv : Value) (im kb : Nat) (v : Value) (bs : List bK) : Prop where
 box:w.heap[bb]? =some (.cells (fV k c gv im kb v).toArray 122 (0,0))
 own: ∃zs:List iG,zs.map Prod.snd=bs/\dU w base v zs
 known:dw w kb (bs.map bK.ref)
structure cT (base bb kb : Nat) (v v' : Value) (w w' : World) : Prop where
 below:Below base w w'
 same: ∀k,k<w.heap.size->k≠bb->k≠kb->v.ownBlock≠some k->w'.heap[k]? =w.heap[k]?
 place: ∀k,v'.ownBlock=some k->v.ownBlock=some k\/w.heap.size<=k
theorem cT.refl (base bb kb:Nat) (v:Value) (w:World):cT base bb kb v v w w:=⟨Below.refl _ _,fun _ _ _ _ _=>rfl,fun _ h=> .inl h⟩
theorem cT.trans {base bb kb:Nat} {v v1 v2:Value} {A B C:World} (h:cT base bb kb v v1 A B) (k:cT base bb kb v1 v2 B C):cT base bb kb v v2 A C:=by
 have hs:=h.below.size;refine⟨h.below.trans k.below,fun i h1 h2 h2' h3=>(k.same i (by omega) h2 h2' (fun e=> ?_)).trans (h.same i h1 h2 h2' h3),fun i e=> ?_⟩
 ·rcases h.place i e with e2 | e2
  ·exact h3 e2
  ·omega
 ·rcases k.place i e with e2 | e2
  ·exact h.place i e2
  ·exact .inr (by omega)
theorem cT.ofBelow {base bb kb:Nat} {v:Value} {w w':World} (h:Below w.heap.size w w') (hb:base<=w.heap.size):cT base bb kb v v w w':=⟨h.mono hb,fun k h1 _ _ _=>h.block k h1,fun _ e=> .inl e⟩
theorem dU.below {w w':World} {base:Nat} {v:Value} {zs:List iG} (h:dU w base v zs) (hb:Below w.heap.size w w'):dU w' base v zs:=⟨ba h.row hb,fun z hz=>ba (h.dat z hz) hb⟩
theorem ee.below {w w':World} {base bb im kb:Nat} {k:bF} {c:dE} {gv v:Value} {bs:List bK} (h:ee w base bb k c gv im kb v bs) (hb:Below w.heap.size w w'):ee w' base bb k c gv im kb v bs:=by
 obtain⟨zs,h1,h2⟩:=h.own;exact⟨(hb.block _ (lt_of_block h.box)).trans h.box,⟨zs,h1,h2.below hb⟩,h.known.same (hb.block _ h.known.map.lt)⟩
theorem ee.push {w w1 w2:World} {base bb im kb:Nat} {k:bF} {c:dE} {gv v v' dv:Value} {bs:List bK} {zs:List iG} {b:bK} (hz:zs.map Prod.snd=bs) (h:dU w base v zs) (hx:w.heap[bb]? =some (.cells (fV k c gv im kb v).toArray 122 (0,0))) (hs:dw w kb ((bs++[b]).map bK.ref))
  (hb:Below w.heap.size w w1) (hn:w1.ownsRow base 5 1 dv b.con.length (b.con.map au)) (hown:w2.ownsRow base 53 4 v' (zs.length+1) (ey zs++jr dv b)) (hg:w1.grownBy w2 v.ownBlock) (hpl: ∀k,v'.ownBlock=some k->v.ownBlock=some k\/w1.heap.size<=k) (hbe:base<=bb) (hbz:base<=w.heap.size):
  ee (w2.setCell ⟨bb,12,none⟩ v') base bb k c gv im kb v' (bs++[b])/\cT base bb kb v v' w (w2.setCell ⟨bb,12,none⟩ v'):=by
 have h1:=h.below hb;have hx1:=(hb.block bb (lt_of_block hx)).trans hx;have hlt:=lt_of_block hx1;have hz1:=hb.size;have hne:v.ownBlock≠some bb:=fun e=>by
  obtain⟨cs,hc⟩:=aA h1.row e;exact absurd (aH hx1 hc) (by decide)
 have hne':v'.ownBlock≠some bb:=fun e=>by
  rcases hpl bb e with e | e
  ·exact hne e
  ·omega
 have hb2:=(hg.block bb hlt (fun e=>hne e.symm)).trans hx1;have hdat: ∀(u:Value) (ds:List UInt8),w1.ownsRow base 5 1 u ds.length (ds.map au)->(w2.setCell ⟨bb,12,none⟩ v').ownsRow base 5 1 u ds.length (ds.map au):=by
  intro u ds hd;refine dr hd (fun i hi hu=> ?_);obtain⟨cs,hc⟩:=aA hd hu;rw[Below.heap_setCell _ _ _ _ (show i≠bb from fun e=>absurd (aH (e▸hc) hx1) (by decide))];refine hg.block i hi (fun e=> ?_);obtain⟨cs2,hc2⟩:=aA h1.row e.symm;exact absurd (aH hc hc2) (by decide)
 have hkb:kb<w1.heap.size:=Nat.lt_of_lt_of_le hs.map.lt hz1;have hks:(w2.setCell ⟨bb,12,none⟩ v').heap[kb]? =w.heap[kb]? :=by
  rw[Below.heap_setCell _ _ _ _ (show kb≠bb from fun e=>hs.cells (by rw[e]; exact hx))];refine(hg.block kb hkb (fun e=> ?_)).trans (hb.block kb hs.map.lt);obtain⟨cs,hc⟩:=aA h.row e.symm;exact hs.cells hc
 refine⟨⟨?_,⟨zs++[(dv,b)],by simp[hz], ?_,fun z hz=> ?_⟩,hs.same hks⟩,⟨?_,fun i hi e1 e2 e3=> ?_,fun i e=> ?_⟩⟩
 ·have:=cK (k:=12) hb2 v'
  simpa [fV,cY,dt]using this
 ·rw[List.length_append,List.length_singleton,tR];exact hown.kept (aE _ _ _ _) (.inr (fun e=>hne' e))
 ·rcases List.mem_append.1 hz with hz | hz
  ·exact hdat _ _ (h1.dat z hz)
  ·rw[List.mem_singleton]at hz;subst hz;exact hdat _ _ hn
 ·exact((hb.mono hbz).grown hg (Nat.le_trans hbz hz1) (fun i hi=>(h.row.lt i hi).1)).grown (aE w2 bb 12 v') (Nat.le_trans hbz (Nat.le_trans hz1 hg.size)) (fun i hi=>by cases hi; exact hbe)
 ·rw[Below.heap_setCell _ _ _ _ (show i≠bb from e1)];exact(hg.block i (by omega) (fun e=>e3 e.symm)).trans (hb.block i hi)
 ·rcases hpl i e with e | e
  ·exact .inl e
  ·exact .inr (by omega)
end Go.Proofs.YtpffpjbkbaleiaaGreatDoor
