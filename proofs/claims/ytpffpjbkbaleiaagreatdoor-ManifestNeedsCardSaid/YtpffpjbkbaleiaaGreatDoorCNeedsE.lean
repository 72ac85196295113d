/- Texts of this proof, one after the other: NodA, Lib, FileA, FileB, LoadP, PartB, LookP, WalkA, WalkB, WalkC, Needs, NeedP, LoadA, LookA, FtC, FtD, FtE, FtP, FtQ, BldA. -/
import Derived.Test.YtpffpjbkbaleiaaGreatDoorCNeedsD
set_option maxRecDepth 100000
set_option maxHeartbeats 8000000
namespace Go.Proofs.YtpffpjbkbaleiaaGreatDoor
open Go Go.RowKit
def et (l:List aE) (k:Nat):List UInt8:=aP l.length++(l.take k).flatMap dJ
theorem tj {l:List aE} {k:Nat} {it:aE} (h:l[k]? =some it):et l (k+1)=et l k++dJ it:=by
 unfold et;rw[List.take_add_one,h,List.flatMap_append,<-List.append_assoc]; simp
theorem uF (l:List aE):et l l.length=dR l:=by unfold et dR; rw[List.take_length]
theorem oT (l:List aE) (k:Nat):(et l k).length<=(dR l).length:=by
 have:(l.flatMap dJ).length=((l.take k).flatMap dJ).length+((l.drop k).flatMap dJ).length:=by
  rw[<-List.length_append,<-List.flatMap_append,List.take_append_drop]
 unfold et dR;rw[List.length_append,List.length_append];omega
def om (l:List aE) (w:World) (e:Ending) (w':World):Prop:=Below w.heap.size w w'/\
 if cd l=true then(if(dR l).length<=32768 then ∃v,e= .returned (.tuple #[v, .int .i64 0])/\iN w' w.heap.size v (dR l)else e= .returned (.tuple #[.slice none 0 0, .int .i64 2]))
 else e= .returned (.tuple #[.slice none 0 0, .int .i64 1])
theorem vy (S:Nat->Prop) (l:List aE) (v:Value) (w:World) (hv:ba S w v l) (henv:fE w) (hsm:(dR l).length<1000000000000) (htm: ∀it∈l,it.time<9223372036854775808):Calls Tryz.prog 15 #[v] w (om l w):=by
 obtain⟨a,cap,rfl,hc,hm,-⟩:=aL.shape hv dO.len;unfold maxLen at hm;obtain⟨n,hn⟩: ∃n,n=l.length:=⟨_,rfl⟩;rw[<-hn]at hv hc ⊢;have HV:=ab hv;have HE:=ab henv;have HN:=ab hn;have HSM:=ab hsm;have HTM:=ab htm;clear hv henv hn hsm htm
 by_cases hval:cd l=true
 ·have HVN:=ab hval;have HALL:=ab (sD hval);clear hval;have hn4:n<=4096:=by rw[HN.out]; exact HALL.out.1
  go_enter Tryz.func15,Tryz.ntmps15
  go_wp2_with fail;refine(gm S l _ true w HV.out HE.out HVN.out).mono ?_;rintro e w1 ⟨rfl,hb1⟩;have HB1:=ab hb1;clear hb1;go_wp2_with fail;refine(qG w1).mono ?_;rintro e w2 ⟨rfl,hw2,hb2⟩;obtain⟨wb,hwb⟩: ∃wb,wb=w1.heap.size:=⟨_,rfl⟩;rw[<-hwb]at hw2 ⊢;have HB2:=ab (ag HB1.out hb2);have HW2:=ab hw2;have HWB:=ab (show w.heap.size<=wb by rw[hwb]; exact HB1.out.size)
  clear hw2 hb2 hwb;go_wp2_with fail;refine(ql wb n [] w2 HW2.out (by simp) (by omega)).mono ?_;rintro e w3 ⟨rfl,hw3,hk3⟩;rw[List.nil_append]at hw3;have HW3:=ab hw3;have HB3:=ab (HB2.out.trans (hk3.1.mono HWB.out));clear hw3 hk3;go_wp2_with fail
  go_loopw [21] (fun i wr=> ∃k:Nat,k<=n/\i= .int .i64 (k:Int)/\lC wr wb (et l k)/\Below w.heap.size w wr) (fun i _=>n-(intOf i).toNat)
  case atStart=>exact⟨0,Nat.zero_le _,rfl,by have:=HW3.out; rw[HN.out]at this; simpa [et]using this,HB3.out⟩
  case round=>
   obtain⟨k,hk,rfl,hw,hb⟩:=hrel;have HW:=ab hw;have HB:=ab hb;clear hw hb
   by_cases hlt:k<n
   ·obtain⟨it,hr⟩: ∃it,l[k]? =some it:=⟨l[k]'(by rw[<-HN.out]; exact hlt),by simp⟩;obtain⟨b,o,ca,cc,rfl,hok,hrf,hbl,-,hcl0⟩:=dy HV.out (Below.refl _ _) hr;have hcl: ∀j,j<10->wr.cell? ⟨b,o+k*10+j,none⟩=(cP (.slice ca it.chunks.length cc) it)[j]? :=fun j hj=>(HB.out.cell (p:=⟨b,o+k*10+j,none⟩) hbl).trans (hcl0 j hj)
    have HR:=ab hr;have HO:=ab hok;have HRF:=ab hrf;have HVI:=ab (HALL.out.2 it (List.mem_of_getElem? hr));have q0:=hcl 0 (by omega);have q1:=hcl 1 (by omega);have q2:=hcl 2 (by omega);have q3:=hcl 3 (by omega);have q4:=hcl 4 (by omega);have q5:=hcl 5 (by omega);have q6:=hcl 6 (by omega);have q7:=hcl 7 (by omega);have q8:=hcl 8 (by omega);have q9:=hcl 9 (by omega);simp only[cP,Bw,Nat.add_zero]at q0 q1 q2 q3 q4 q5 q6 q7 q8 q9
    have hvi:=HVI.out;unfold cy at hvi;rw[Bool.and_eq_true]at hvi;have hh:=uO.1 hvi.1;have HBK:=ab (zB hvi.2);have HVB:=ab hvi.2;have htm:=HTM.out it (List.mem_of_getElem? hr);obtain⟨kd,hkd⟩: ∃kd,kd=it.kind.toNat:=⟨_,rfl⟩;obtain⟨md,hmd⟩: ∃md,md=it.mode.toNat:=⟨_,rfl⟩;obtain⟨td,htd⟩: ∃td,td=it.time.toNat:=⟨_,rfl⟩;have hk0:=hh.md0;have hm0:=hh.md1
    have ht0:=hh.tm0;have hnm:=uw hh.val hh.nos;have hki:it.kind=(kd:Int):=by rcases HBK.out with h | h | h<;> omega
    have hmi:it.mode=(md:Int):=by omega
    have hti:it.time=(td:Int):=by omega
    have hkd3:kd<=3:=by rcases HBK.out with h | h | h<;> omega
    have hmd9:md<=511:=by omega
    have htd9:td<9223372036854775808:=by omega
    have HIN:=ab (And.intro hkd (And.intro hmd htd));have hns:it.name.size=(bl it.name).length:=ay _;have hwk:IntKind.u64.wrap (kd:Int)=(kd:Int):=by rw[IntKind.wrap_u64]; omega
    have hwm:IntKind.u64.wrap (md:Int)=(md:Int):=by rw[IntKind.wrap_u64]; omega
    have hwt:IntKind.u64.wrap (td:Int)=(td:Int):=by rw[IntKind.wrap_u64]; omega
    rw[hki]at q1;rw[hmi]at q2;rw[hti]at q3;have HBKk:=ab (show kd=1\/kd=2\/kd=3 by rcases HBK.out with h | h | h<;> omega);have HKI:=ab hki;clear hr hok hrf hcl hcl0 hvi hh htm hkd hmd htd hk0 hm0 ht0 hki hmi hti;have l1:=oT l k;have l2:=HSM.out;have l3:=dK (n:=it.name.size) (by omega);have l4:=dK (n:=kd) (by omega);have l5:=dK (n:=md) (by omega)
    have l6:=dK (n:=td) (by omega);have HLN:=ab (show(et l k).length<1000000000000/\(aP it.name.size).length<=10/\(aP kd).length<=10/\(aP md).length<=10/\(aP td).length<=10/\(bl it.name).length<=64/\it.name.size<=64 from⟨by omega,l3,l4,l5,l6,hnm,by omega⟩);clear l1 l2 l3 l4 l5 l6 hnm hns;have hwbl:wb<wr.heap.size:=by obtain⟨_,h,_⟩:=HW.out; exact lt_of_block h
    have HA:=ab ((Below.refl wr.heap.size wr).alloc (Nat.le_refl _) (.cells #[.string it.name, .int .i64 (kd:Int), .int .i64 (md:Int), .int .i64 (td:Int), .int .i64 it.size, .string it.link, .slice ca it.chunks.length cc, .string it.node.name, .int .i64 it.node.gen, .int .i64 it.node.size] 28));have HX4:=ab (bZ wr (.cells #[.string it.name, .int .i64 (kd:Int), .int .i64 (md:Int), .int .i64 (td:Int), .int .i64 it.size, .string it.link, .slice ca it.chunks.length cc, .string it.node.name, .int .i64 it.node.gen, .int .i64 it.node.size] 28))
    have HW4:=ab (HW.out.below HA.out);have HB4:=ab (HB.out.trans (HA.out.mono HB.out.size));go_wp2_with fail;clear q0 q1 q2 q3 q4 q5 q6 q7 q8 q9;refine(sE wb it.name _ _ HW4.out (by have:=HLN.out; omega) (by have:=HLN.out; omega)).mono ?_;rintro e wx ⟨rfl,hw5,hk5⟩;have HX5:=ab ((hk5.2 _ (by decide) (by decide) _ _ HX4.out).trans HX4.out);have HW5:=ab hw5;have HB5:=ab (HB4.out.trans (hk5.1.mono HWB.out))
    clear hw5 hk5 HX4 HW4 HB4;have HX4:=HX5;have HW4:=HW5;have HB4:=HB5;clear HX5 HW5 HB5;have c0:=aa (k:=0) HX4.out;have c1:=aa (k:=1) HX4.out;have c2:=aa (k:=2) HX4.out;have c3:=aa (k:=3) HX4.out;have c5:=aa (k:=5) HX4.out;have c6:=aa (k:=6) HX4.out;have c7:=aa (k:=7) HX4.out;have c8:=aa (k:=8) HX4.out;have c9:=aa (k:=9) HX4.out
    simp only[aN]at c0 c1 c2 c3 c5 c6 c7 c8 c9;go_wp2_with fail;clear c0 c1 c2 c3 c5 c6 c7 c8 c9;refine(eZ wb kd _ _ HW4.out (by have:=HLN.out; simp only[List.length_append]; omega) (by omega)).mono ?_;rintro e wx ⟨rfl,hw5,hk5⟩;have HX5:=ab ((hk5.2 _ (by decide) (by decide) _ _ HX4.out).trans HX4.out);have HW5:=ab hw5;have HB5:=ab (HB4.out.trans (hk5.1.mono HWB.out));clear hw5 hk5 HX4 HW4 HB4
    have HX4:=HX5;have HW4:=HW5;have HB4:=HB5;clear HX5 HW5 HB5;have c0:=aa (k:=0) HX4.out;have c1:=aa (k:=1) HX4.out;have c2:=aa (k:=2) HX4.out;have c3:=aa (k:=3) HX4.out;have c5:=aa (k:=5) HX4.out;have c6:=aa (k:=6) HX4.out;have c7:=aa (k:=7) HX4.out;have c8:=aa (k:=8) HX4.out;have c9:=aa (k:=9) HX4.out;simp only[aN]at c0 c1 c2 c3 c5 c6 c7 c8 c9
    go_wp2_with fail;clear c0 c1 c2 c3 c5 c6 c7 c8 c9;refine(eZ wb md _ _ HW4.out (by have:=HLN.out; simp only[List.length_append]; omega) (by omega)).mono ?_;rintro e wx ⟨rfl,hw5,hk5⟩;have HX5:=ab ((hk5.2 _ (by decide) (by decide) _ _ HX4.out).trans HX4.out);have HW5:=ab hw5;have HB5:=ab (HB4.out.trans (hk5.1.mono HWB.out));clear hw5 hk5 HX4 HW4 HB4;have HX4:=HX5;have HW4:=HW5
    have HB4:=HB5;clear HX5 HW5 HB5;have c0:=aa (k:=0) HX4.out;have c1:=aa (k:=1) HX4.out;have c2:=aa (k:=2) HX4.out;have c3:=aa (k:=3) HX4.out;have c5:=aa (k:=5) HX4.out;have c6:=aa (k:=6) HX4.out;have c7:=aa (k:=7) HX4.out;have c8:=aa (k:=8) HX4.out;have c9:=aa (k:=9) HX4.out;simp only[aN]at c0 c1 c2 c3 c5 c6 c7 c8 c9;go_wp2_with fail
    clear c0 c1 c2 c3 c5 c6 c7 c8 c9;have HNX:=ab (tj HR.out);have HLX:=ab (show(et l (k+1)).length<1000000000000 by have h1:=oT l (k+1); have h2:=HSM.out; omega)
    rcases HBKk.out with h | h | h
    ·subst h;have hbf:=my (by rw[HKI.out]; rfl) HVB.out;have HBF:=ab hbf.2.2.1;obtain⟨_,_,heq,hcn,hcm,-⟩:=aL.shape HRF.out fc.len;simp only[Value.slice.injEq]at heq;obtain⟨rfl,-,rfl⟩:=heq;obtain⟨n2,hn2⟩: ∃n2,n2=it.chunks.length:=⟨_,rfl⟩;have HN2:=ab hn2;unfold maxLen at hcm;rw[<-hn2]at HX4 HRF hcn;have hn2b:n2<9223372036854775808:=by omega
     have HTL:=ab (show dJ it=aP it.name.size++(bl it.name++(aP 1++(aP md++(aP td++(aP n2++it.chunks.flatMap dL))))) by
      unfold dJ lN;rw[if_pos (by rw[HKI.out]; rfl),<-HIN.out.1,<-HIN.out.2.1,<-HIN.out.2.2,<-hn2])
     clear hn2 hbf;refine(eZ wb td _ _ HW4.out (by have:=HLN.out; simp only[List.length_append]; omega) (by omega)).mono ?_;rintro e wx ⟨rfl,hw5,hk5⟩;have HX5:=ab ((hk5.2 _ (by decide) (by decide) _ _ HX4.out).trans HX4.out);have HW5:=ab hw5;have HB5:=ab (HB4.out.trans (hk5.1.mono HWB.out));clear hw5 hk5 HX4 HW4 HB4;have HX4:=HX5;have HW4:=HW5;have HB4:=HB5;clear HX5 HW5 HB5
     have c0:=aa (k:=0) HX4.out;have c1:=aa (k:=1) HX4.out;have c2:=aa (k:=2) HX4.out;have c3:=aa (k:=3) HX4.out;have c5:=aa (k:=5) HX4.out;have c6:=aa (k:=6) HX4.out;have c7:=aa (k:=7) HX4.out;have c8:=aa (k:=8) HX4.out;have c9:=aa (k:=9) HX4.out;simp only[aN]at c0 c1 c2 c3 c5 c6 c7 c8 c9;go_wp2_with fail;clear c0 c1 c2 c3 c5 c6 c7 c8 c9
     refine(ql wb n2 _ _ HW4.out (by have:=HLN.out; simp only[List.length_append]; omega) hn2b).mono ?_;rintro e wx ⟨rfl,hw5,hk5⟩;have HX5:=ab ((hk5.2 _ (by decide) (by decide) _ _ HX4.out).trans HX4.out);have HW5:=ab hw5;have HB5:=ab (HB4.out.trans (hk5.1.mono HWB.out));clear hw5 hk5 HX4 HW4 HB4;have HX4:=HX5;have HW4:=HW5;have HB4:=HB5;clear HX5 HW5 HB5;have c0:=aa (k:=0) HX4.out
     have c1:=aa (k:=1) HX4.out;have c2:=aa (k:=2) HX4.out;have c3:=aa (k:=3) HX4.out;have c5:=aa (k:=5) HX4.out;have c6:=aa (k:=6) HX4.out;have c7:=aa (k:=7) HX4.out;have c8:=aa (k:=8) HX4.out;have c9:=aa (k:=9) HX4.out;simp only[aN]at c0 c1 c2 c3 c5 c6 c7 c8 c9;go_wp2_with fail;clear c0 c1 c2 c3 c5 c6 c7 c8 c9;obtain⟨D,hDw,hDe⟩: ∃D,lC wx wb D/\D++it.chunks.flatMap dL=et l (k+1):=⟨_,HW4.out,by rw[HNX.out,HTL.out]; simp[List.append_assoc]⟩
     have HDW:=ab hDw;have HDE:=ab hDe;clear hDw hDe
     go_loopw [56] (fun j w6=> ∃m:Nat,m<=n2/\j= .int .i64 (m:Int)/\lC w6 wb (D++(it.chunks.take m).flatMap dL)/\Below w.heap.size w w6) (fun j _=>n2-(intOf j).toNat)
     case atStart=>exact⟨0,Nat.zero_le _,rfl,by simpa using HDW.out,HB4.out⟩
     case round=>
      obtain⟨m,hmn,rfl,hw6,hb6⟩:=hrel;have HW6:=ab hw6;have HB6:=ab hb6;clear hw6 hb6
      by_cases hlm:m<n2
      ·obtain⟨r,hr2⟩: ∃r,it.chunks[m]? =some r:=⟨it.chunks[m]'(by rw[<-HN2.out]; exact hlm),by simp⟩;have HR2:=ab hr2;have HVR:=ab ((HBF.out r (List.mem_of_getElem? hr2)).1);obtain⟨b2,o2,rfl,-,p0,p1,p2⟩:=cR HRF.out HB6.out hr2;have HLD:=ab (show(D++(it.chunks.take m).flatMap dL).length<1098000000000 by
        have h1:=congrArg List.length HDE.out;have h2:=HLX.out;have h3:(it.chunks.flatMap dL).length=((it.chunks.take m).flatMap dL).length+((it.chunks.drop m).flatMap dL).length:=by
         rw[<-List.length_append,<-List.flatMap_append,List.take_append_drop]
        rw[List.length_append]at h1 ⊢
        omega)
       clear hr2;have HA6:=ab ((Below.refl wr.heap.size wr).alloc (Nat.le_refl _) (.cells #[.string r.name, .int .i64 r.gen, .int .i64 r.size] 26));have HTK:=ab (show(it.chunks.take (m+1)).flatMap dL=(it.chunks.take m).flatMap dL++dL r by
        rw[List.take_add_one,HR2.out,List.flatMap_append]; simp)
       have HR6:=ab (mr wb r _ _ (HW6.out.below HA6.out) HLD.out HVR.out);have HB7:=ab (HB6.out.trans (HA6.out.mono HB6.out.size));go_wp2_with fail;refine HR6.out.mono ?_;rintro e w8 ⟨rfl,hw8,hk8⟩;have HW8:=ab hw8;have HB8:=ab (HB7.out.trans (hk8.1.mono HWB.out));clear hw8 hk8 p0 p1 p2;go_wp2_with fail
       go_roundw
       case rel=>
        refine⟨m+1,by omega,by go_num, ?_,HB8.out⟩;rw[HTK.out,<-List.append_assoc];exact HW8.out
       case measure=>simp[intOf]; omega
      ·have hm2:m=n2:=by omega
       subst hm2;have HWE:=ab (show lC _ wb (et l (k+1)) by have:=HW6.out; rw[HN2.out,List.take_length,HDE.out]at this; exact this);go_wp2_with fail
       go_roundw
       case rel=>exact⟨k+1,by omega,by go_num,HWE.out,HB6.out⟩
       case measure=>simp[intOf]; omega
    ·subst h;have hbf:=BZ (by rw[HKI.out]; rfl) HVB.out;have HBF:=ab hbf.2.2.2;have HTL:=ab (show dJ it=aP it.name.size++(bl it.name++(aP 2++(aP md++(aP td++dL it.node)))) by
      unfold dJ lN;rw[if_neg (by rw[HKI.out]; decide),if_pos (by rw[HKI.out]; rfl),<-HIN.out.1,<-HIN.out.2.1,<-HIN.out.2.2])
     clear hbf;refine(eZ wb td _ _ HW4.out (by have:=HLN.out; simp only[List.length_append]; omega) (by omega)).mono ?_;rintro e wx ⟨rfl,hw5,hk5⟩;have HX5:=ab ((hk5.2 _ (by decide) (by decide) _ _ HX4.out).trans HX4.out);have HW5:=ab hw5;have HB5:=ab (HB4.out.trans (hk5.1.mono HWB.out));clear hw5 hk5 HX4 HW4 HB4;have HX4:=HX5;have HW4:=HW5;have HB4:=HB5;clear HX5 HW5 HB5
     have c0:=aa (k:=0) HX4.out;have c1:=aa (k:=1) HX4.out;have c2:=aa (k:=2) HX4.out;have c3:=aa (k:=3) HX4.out;have c5:=aa (k:=5) HX4.out;have c6:=aa (k:=6) HX4.out;have c7:=aa (k:=7) HX4.out;have c8:=aa (k:=8) HX4.out;have c9:=aa (k:=9) HX4.out;simp only[aN]at c0 c1 c2 c3 c5 c6 c7 c8 c9;go_wp2_with fail;clear c0 c1 c2 c3 c5 c6 c7 c8 c9
     refine(mr wb it.node _ _ HW4.out (by have:=HLN.out; simp only[List.length_append]; omega) HBF.out).mono ?_;rintro e wx ⟨rfl,hw5,hk5⟩;have HX5:=ab ((hk5.2 _ (by decide) (by decide) _ _ HX4.out).trans HX4.out);have HW5:=ab hw5;have HB5:=ab (HB4.out.trans (hk5.1.mono HWB.out));clear hw5 hk5 HX4 HW4 HB4;have HX4:=HX5;have HW4:=HW5;have HB4:=HB5;clear HX5 HW5 HB5;have c0:=aa (k:=0) HX4.out
     have c1:=aa (k:=1) HX4.out;have c2:=aa (k:=2) HX4.out;have c3:=aa (k:=3) HX4.out;have c5:=aa (k:=5) HX4.out;have c6:=aa (k:=6) HX4.out;have c7:=aa (k:=7) HX4.out;have c8:=aa (k:=8) HX4.out;have c9:=aa (k:=9) HX4.out;simp only[aN]at c0 c1 c2 c3 c5 c6 c7 c8 c9;go_wp2_with fail;clear c0 c1 c2 c3 c5 c6 c7 c8 c9
     go_roundw
     case rel=>
      refine⟨k+1,by omega,by go_num, ?_,HB4.out⟩;rw[HNX.out,HTL.out]
      simpa [List.append_assoc]using HW4.out
     case measure=>simp[intOf]; omega
    ·subst h;have hbf:=zC (by rw[HKI.out]; rfl) HVB.out;have HBF:=ab hbf.2.2.2.2.1;have HTL:=ab (show dJ it=aP it.name.size++(bl it.name++(aP 3++(aP md++(aP td++(aP it.link.size++bl it.link))))) by
      unfold dJ lN;rw[if_neg (by rw[HKI.out]; decide),if_neg (by rw[HKI.out]; decide),<-HIN.out.1,<-HIN.out.2.1,<-HIN.out.2.2])
     clear hbf;refine(eZ wb td _ _ HW4.out (by have:=HLN.out; simp only[List.length_append]; omega) (by omega)).mono ?_;rintro e wx ⟨rfl,hw5,hk5⟩;have HX5:=ab ((hk5.2 _ (by decide) (by decide) _ _ HX4.out).trans HX4.out);have HW5:=ab hw5;have HB5:=ab (HB4.out.trans (hk5.1.mono HWB.out));clear hw5 hk5 HX4 HW4 HB4;have HX4:=HX5;have HW4:=HW5;have HB4:=HB5;clear HX5 HW5 HB5
     have c0:=aa (k:=0) HX4.out;have c1:=aa (k:=1) HX4.out;have c2:=aa (k:=2) HX4.out;have c3:=aa (k:=3) HX4.out;have c5:=aa (k:=5) HX4.out;have c6:=aa (k:=6) HX4.out;have c7:=aa (k:=7) HX4.out;have c8:=aa (k:=8) HX4.out;have c9:=aa (k:=9) HX4.out;simp only[aN]at c0 c1 c2 c3 c5 c6 c7 c8 c9;go_wp2_with fail;clear c0 c1 c2 c3 c5 c6 c7 c8 c9
     refine(sE wb it.link _ _ HW4.out (by have:=HLN.out; simp only[List.length_append]; omega) (by have:=HBF.out; omega)).mono ?_;rintro e wx ⟨rfl,hw5,hk5⟩;have HX5:=ab ((hk5.2 _ (by decide) (by decide) _ _ HX4.out).trans HX4.out);have HW5:=ab hw5;have HB5:=ab (HB4.out.trans (hk5.1.mono HWB.out));clear hw5 hk5 HX4 HW4 HB4;have HX4:=HX5;have HW4:=HW5;have HB4:=HB5;clear HX5 HW5 HB5
     have c0:=aa (k:=0) HX4.out;have c1:=aa (k:=1) HX4.out;have c2:=aa (k:=2) HX4.out;have c3:=aa (k:=3) HX4.out;have c5:=aa (k:=5) HX4.out;have c6:=aa (k:=6) HX4.out;have c7:=aa (k:=7) HX4.out;have c8:=aa (k:=8) HX4.out;have c9:=aa (k:=9) HX4.out;simp only[aN]at c0 c1 c2 c3 c5 c6 c7 c8 c9;go_wp2_with fail;clear c0 c1 c2 c3 c5 c6 c7 c8 c9
     go_roundw
     case rel=>
      refine⟨k+1,by omega,by go_num, ?_,HB4.out⟩;rw[HNX.out,HTL.out]
      simpa [List.append_assoc]using HW4.out
     case measure=>simp[intOf]; omega
   ·have hk2:k=n:=by omega
    subst hk2;have HWE:=ab (show lC wr wb (dR l) by have:=HW.out; rw[HN.out,uF]at this; exact this);go_wp2_with fail;refine(Bs wb (dR l) wr HWE.out (by have:=HSM.out; omega)).mono ?_;rintro e w9 ⟨hb9,hif⟩;obtain⟨m,hm0⟩: ∃m,m=(dR l).length:=⟨_,rfl⟩;rw[<-hm0]at hif;have HM0:=ab hm0;have HB9:=ab (HB.out.trans (hb9.mono HB.out.size));have hbs:=HB.out.size
    by_cases hbig:m<=1048576
    ·rw[if_pos hbig]at hif;obtain⟨v9,rfl,ho9⟩:=hif;obtain⟨a9,c9,hv9,-,-⟩:=aj ho9;rw[<-hm0]at hv9;subst hv9;have HO9:=ab (cN ho9 hbs);clear hm0 ho9 hb9
     by_cases hsmall:m<=32768
     ·have hmi:(m:Int)<=32768:=by omega
      go_wp2_with fail
      go_ret2
      refine⟨HB9.out, ?_⟩;rw[if_pos HVN.out,<-HM0.out,if_pos hsmall];exact⟨_,rfl,HO9.out⟩
     ·have hmi:(32768:Int)<(m:Int):=by omega
      have HSB:=ab hsmall;clear hsmall;go_wp2_with fail
      go_ret2
      refine⟨HB9.out, ?_⟩;rw[if_pos HVN.out,<-HM0.out,if_neg HSB.out]
      rfl
    ·rw[if_neg hbig]at hif;subst hif;have HSB:=ab (show ¬m<=32768 by omega);clear hm0 hb9 hbig;go_wp2_with fail
     go_ret2
     refine⟨HB9.out, ?_⟩;rw[if_pos HVN.out,<-HM0.out,if_neg HSB.out]
     rfl
 ·have HVN:=ab (show cd l=false by simpa using hval);clear hval
  go_enter Tryz.func15,Tryz.ntmps15
  go_wp2_with fail;refine(gm S l _ false w HV.out HE.out HVN.out).mono ?_;rintro e w1 ⟨rfl,hb1⟩;have HB1:=ab hb1;clear hb1;go_wp2_with fail
  go_ret2
  refine⟨HB1.out, ?_⟩;rw[HVN.out]
  rfl
end Go.Proofs.YtpffpjbkbaleiaaGreatDoor
namespace Go.Proofs.YtpffpjbkbaleiaaGreatDoor
open Go.RowKit Go.Maps
def bA (S:Nat->Prop) (w:World):List (Value×Value)->List (ByteArray×List UInt8)->Prop
 | [],[]=>True
 | (k,v)::m,(n,bs)::cs=>k= .string n/\aD S w v bs/\bA S w m cs
 | _,_=>False
theorem bA.mono {S:Nat->Prop} {w w':World} : ∀ {m:List (Value×Value)} {cs:List (ByteArray×List UInt8)},bA S w m cs->(∀v bs,aD S w v bs->aD S w' v bs)->bA S w' m cs
 | [],[],_,_=>trivial
 | [],_::_,h,_=>h
 | _::_,[],h,_=>h
 | (_,_)::_,(_,_)::_,h,hm=>⟨h.1,hm _ _ h.2.1,bA.mono h.2.2 hm⟩
def cV :List (ByteArray×List UInt8)->ByteArray->Option (List UInt8)
 | [],_=>none
 | (k,bs)::cs,n=>if k=n then some bs else cV cs n
theorem bA.hit {S:Nat->Prop} {w:World} {n:ByteArray} {bs:List UInt8} : ∀ {m:List (Value×Value)} {cs:List (ByteArray×List UInt8)},bA S w m cs->cV cs n=some bs-> ∃v,(Value.string n,v)∈m/\aD S w v bs
 | [],[],_,hf=>by simp[cV]at hf
 | [],_::_,h,_=>False.elim h
 | _::_,[],h,_=>False.elim h
 | (k,v)::m,(n',bs')::cs,h,hf=>by
  simp only[cV]at hf
  split at hf
  ·rename_i e;simp only[Option.some.injEq]at hf;subst hf e;exact⟨v,by rw[h.1]; simp,h.2.1⟩
  ·obtain⟨v',h1,h2⟩:=bA.hit h.2.2 hf;exact⟨v',by simp[h1],h2⟩
theorem bA.miss {S:Nat->Prop} {w:World} {n:ByteArray} : ∀ {m:List (Value×Value)} {cs:List (ByteArray×List UInt8)},bA S w m cs->cV cs n=none-> ∀p∈m,p.1≠Value.string n
 | [],[],_,_,_,hp=>by simp at hp
 | [],_::_,h,_,_,_=>False.elim h
 | _::_,[],h,_,_,_=>False.elim h
 | (k,v)::m,(n',bs')::cs,h,hf,p,hp=>by
  simp only[cV]at hf
  split at hf
  ·simp at hf
  ·rename_i e
   rcases List.mem_cons.1 hp with rfl | hp
   ·intro e2;have:=h.1.symm.trans e2;simp only[Value.string.injEq]at this;exact e this
   ·exact bA.miss h.2.2 hf p hp
def bt (S:Nat->Prop) (w:World) (cv:Value) (cs:List (ByteArray×List UInt8)):Prop:=
 (cv= .map none/\cs=[])\/ ∃b m,cv= .map (some b)/\S b/\dB Tryz.prog 9 w b m/\bA S w m cs
theorem bt.below {S:Nat->Prop} {w w':World} {cv:Value} {cs:List (ByteArray×List UInt8)} (h:bt S w cv cs) (hb:Below w.heap.size w w'):bt S w' cv cs:=by
 rcases h with h | ⟨b,m,h1,h0,h2,h3⟩
 ·exact .inl h
 ·exact .inr ⟨b,m,h1,h0,h2.same (hb.block b h2.lt),h3.mono (fun v bs hv=>aS.below hv (by omega) hb)⟩
theorem jW :Keyed Tryz.prog 9:=string_keyed Tryz.underlying9
theorem mD {n:ByteArray} (h:n.size<=maxLen): ∃l,keyOf Tryz.prog 9 (.string n)=some l:=⟨.string n.data.toList,by simp[keyOf,mapKey,Tryz.underlying9,h]⟩
theorem bt.hitL {S:Nat->Prop} {w:World} {cv:Value} {cs:List (ByteArray×List UInt8)} (h:bt S w cv cs) {n:ByteArray} {bs:List UInt8} (hn:n.size<=maxLen) (hf:cV cs n=some bs):
  ∃v,(Instr.lookup 133 cv (.string n) true).run Tryz.prog w= .ok (.tuple #[v, .bool true]) w/\aD S w v bs:=by
 rcases h with⟨_,rfl⟩ | ⟨b,m,rfl,_,h2,h3⟩
 ·simp[cV]at hf
 ·obtain⟨v,hv,hb⟩:=h3.hit hf;exact⟨v,h2.hit jW (t:=133) (e:=29) (by kernel_rfl) (mD hn) hv true,hb⟩
theorem bt.missL {S:Nat->Prop} {w:World} {cv:Value} {cs:List (ByteArray×List UInt8)} (h:bt S w cv cs) {n:ByteArray} (hn:n.size<=maxLen) (hf:cV cs n=none):
  (Instr.lookup 133 cv (.string n) true).run Tryz.prog w= .ok (.tuple #[.slice none 0 0, .bool false]) w:=by
 obtain⟨l,hl⟩:=mD hn
 rcases h with⟨rfl,_⟩ | ⟨b,m,rfl,_,h2,h3⟩
 ·exact Maps.look_nil true jW (t:=133) (e:=29) (by kernel_rfl) (by kernel_rfl) hl
 ·exact h2.miss jW (t:=133) (e:=29) (by kernel_rfl) (by kernel_rfl) (mD hn) (h3.miss hf) true
def cC (cs:List (ByteArray×List UInt8)) (r:aG):Except Int (List UInt8):=match cV cs r.name with
 | none=> .error 10
 | some bs=>if(bs.length:Int)=r.size then .ok bs else .error 9
def bG (cs:List (ByteArray×List UInt8)) (r:aG):Except Int (List aE):=match cC cs r with
 | .error e=> .error e
 | .ok bs=>match bE bs with
  | none=> .error 9
  | some l=> .ok l
def og (cs:List (ByteArray×List UInt8)) (r:aG) (S:Nat->Prop) (w:World) (e:Ending) (w':World):Prop:=Below w.heap.size w w'/\match cC cs r with
 | .error x=>e= .returned (.tuple #[.slice none 0 0, .int .i64 x])/\x≠0
 | .ok bs=> ∃v,e= .returned (.tuple #[v, .int .i64 0])/\aD S w' v bs
theorem rh (S:Nat->Prop) (cv:Value) (cs:List (ByteArray×List UInt8)) (r:aG) (w:World) (hc:bt S w cv cs) (hr:aW r):Calls Tryz.prog 129 #[cv,aX r] w (og cs r S w):=by
 have hnm:=hr.nm;have HC:=ab (hc.below ((Below.refl _ _).alloc (Nat.le_refl _) (.cells #[.string r.name, .int .i64 r.gen, .int .i64 r.size] 26)));have HB:=ab ((Below.refl w.heap.size w).alloc (Nat.le_refl _) (.cells #[.string r.name, .int .i64 r.gen, .int .i64 r.size] 26));unfold aX;clear hc hr
 cases hf:cV cs r.name with
 | none=>
  have hlk:=HC.out.missL hnm hf;have HF:=ab (show cC cs r= .error 10 by unfold cC; rw[hf]);clear hf hnm
  go_enter Tryz.func129,Tryz.ntmps129
  go_wp2_with fail
  go_ret2
  exact⟨HB.out,by rw[HF.out]; exact⟨rfl,by decide⟩⟩
 | some bs=>
  obtain⟨v,hlk,hv⟩:=HC.out.hitL hnm hf;have HV:=ab hv;obtain⟨_,a,cap,rfl,hn,hm,-⟩:=hv;unfold maxLen at hm
  by_cases hl:(bs.length:Int)=r.size
  ·have HF:=ab (show cC cs r= .ok bs by unfold cC; rw[hf]; simp only[if_pos hl]);have e1:((bs.length:Int) != r.size)=false:=by simp[hl]
   clear hf hnm hl
   go_enter Tryz.func129,Tryz.ntmps129
   go_wp2_with fail
   go_ret2
   exact⟨HB.out,by rw[HF.out]; exact⟨_,rfl,HV.out⟩⟩
  ·have HF:=ab (show cC cs r= .error 9 by unfold cC; rw[hf]; simp only[if_neg hl]);have e1:((bs.length:Int) != r.size)=true:=by simp[hl]
   clear hf hnm hl
   go_enter Tryz.func129,Tryz.ntmps129
   go_wp2_with fail
   go_ret2
   exact⟨HB.out,by rw[HF.out]; exact⟨rfl,by decide⟩⟩
def nQ (cs:List (ByteArray×List UInt8)) (r:aG) (w:World) (e:Ending) (w':World):Prop:=Below w.heap.size w w'/\match bG cs r with
 | .error x=>e= .returned (.tuple #[.slice none 0 0, .int .i64 x])/\x≠0
 | .ok l=> ∃v,e= .returned (.tuple #[v, .int .i64 0])/\ba (w.heap.size<= ·) w' v l
theorem lU (S:Nat->Prop) (cv:Value) (cs:List (ByteArray×List UInt8)) (r:aG) (w:World) (hc:bt S w cv cs) (hr:aW r) (henv:fE w):Calls Tryz.prog 83 #[cv,aX r] w (nQ cs r w):=by
 have HB:=ab ((Below.refl w.heap.size w).alloc (Nat.le_refl _) (.cells #[.string r.name, .int .i64 r.gen, .int .i64 r.size] 26));have HC:=ab (hc.below HB.out);have HR:=ab hr;have HE:=ab (henv.below HB.out);unfold aX;clear hc hr henv
 go_enter Tryz.func83,Tryz.ntmps83
 go_wp2_with fail;refine(rh S cv cs r _ HC.out HR.out).mono ?_;rintro e w1 ⟨hb1,hres⟩;have HB1:=ab (ag HB.out hb1);have HE1:=ab (HE.out.below hb1);clear hb1
 cases hch:cC cs r with
 | error x=>
  rw[hch]at hres;obtain⟨rfl,hx⟩:=hres;have HN:=ab (show bG cs r= .error x by unfold bG; rw[hch]);have HX:=ab hx;have e1:(x != 0)=true:=by simp[hx]
  clear hch hx;go_wp2_with fail
  go_ret2
  exact⟨HB1.out,by rw[HN.out]; exact⟨rfl,HX.out⟩⟩
 | ok bs=>
  rw[hch]at hres;obtain⟨v,rfl,hv⟩:=hres;have HV:=ab hv;obtain⟨_,a,cap,rfl,hn,hm,-⟩:=hv;unfold maxLen at hm;have HCH:=ab hch;clear hch;go_wp2_with fail;refine(rM S bs _ w1 HV.out HE1.out).mono ?_;rintro e w2 ⟨hb2,hres⟩;have HB2:=ab (ag HB1.out hb2);clear hb2
  cases hit:bE bs with
  | none=>
   rw[hit]at hres;simp only at hres;subst hres;have HN:=ab (show bG cs r= .error 9 by unfold bG; rw[HCH.out]; simp only[hit]);clear hit;go_wp2_with fail
   go_ret2
   exact⟨HB2.out,by rw[HN.out]; exact⟨rfl,by decide⟩⟩
  | some l=>
   rw[hit]at hres;simp only at hres;obtain⟨v,rfl,hv⟩:=hres;have hwz:=HB1.out.size;have HV2:=ab (show ba (w.heap.size<= ·) w2 v l from by
    obtain⟨cells,h1,h2⟩:=hv;exact⟨cells,h1.weak (fun k hk=>Nat.le_trans hwz hk),h2.mono (fun c x _ hx=>hx.same (fun k _ hS=>⟨Nat.le_trans hwz hS,rfl⟩))⟩)
   obtain⟨a2,c2,rfl,-,-,-⟩:=aL.shape hv dO.len;have HN:=ab (show bG cs r= .ok l by unfold bG; rw[HCH.out]; simp only[hit]);clear hit hv;go_wp2_with fail
   go_ret2
   exact⟨HB2.out,by rw[HN.out]; exact⟨_,rfl,HV2.out⟩⟩
end Go.Proofs.YtpffpjbkbaleiaaGreatDoor
namespace Go.Proofs.YtpffpjbkbaleiaaGreatDoor
open Go Go.RowKit
def gY (cs:List (ByteArray×List UInt8)):List aG->List UInt8->Except Int (List UInt8)
 | [],acc=> .ok acc
 | r::rs,acc=>match cC cs r with
  | .error x=> .error x
  | .ok bs=>gY cs rs (acc++bs)
def sP (cs:List (ByteArray×List UInt8)) (rs:List aG) (w:World) (e:Ending) (w':World):Prop:=Below w.heap.size w w'/\match gY cs rs []with
 | .error x=>e= .returned (.tuple #[.slice none 0 0, .int .i64 x])/\x≠0
 | .ok bs=> ∃v,e= .returned (.tuple #[v, .int .i64 0])/\iN w' w.heap.size v bs
theorem DI (S:Nat->Prop) (v:Value) (rs:List aG) (n:Nat) (w:World) (hv:aM S w v rs) (h:dt rs=(n:Int)):Calls Tryz.prog 63 #[v] w fun e w'=>e= .returned (.int .i64 (n:Int))/\Below w.heap.size w w':=by
 rw[<-h]; exact mN S v rs w hv
theorem nr (S:Nat->Prop) (cv rv:Value) (cs:List (ByteArray×List UInt8)) (rs:List aG) (w:World) (hc:bt S w cv cs) (hv:aM S w rv rs) (ht0:0<=dt rs) (ht1:dt rs<=1048576) (hn6:rs.length<=1048576) (hrs: ∀r∈rs,dw r=true):
  Calls Tryz.prog 97 #[cv,rv] w (sP cs rs w):=by
 obtain⟨a,cap,rfl,hcap,hcm,-⟩:=aL.shape hv fc.len;obtain⟨t,ht⟩: ∃t,t=(dt rs).toNat:=⟨_,rfl⟩;have hti:dt rs=(t:Int):=by omega
 have ht6:t<=1048576:=by omega
 obtain⟨n,hn⟩: ∃n,n=rs.length:=⟨_,rfl⟩;rw[<-hn]at hv hcap hn6 ⊢;unfold maxLen at hcm;have HC:=ab hc;have HV:=ab hv;have HN:=ab hn;have HTI:=ab hti;have HRS:=ab hrs;clear hrs;obtain⟨ht9,⟨i9,z9,h91,h92,h93,h94,h95⟩,-,-⟩:=Tryz.appBytes;have hb32:i9.bytes*t<=281474976710656:=by rw[h94]; omega
 have H9:=ab (And.intro h91 (And.intro h92 (And.intro h93 hb32)));clear hc hv hn ht0 ht1 ht hti h91 h92 h93 h94 h95 hb32
 go_enter Tryz.func97,Tryz.ntmps97
 have HT6:=ab (show t<=maxLen by unfold maxLen; omega);go_wp2_with fail;refine(DI S _ rs t w HV.out HTI.out).mono ?_;rintro e w1 ⟨rfl,hb1⟩;have HB1:=ab hb1;clear hb1;go_wp2_with (first | ((refine wpList_make_own _ rfl _ _ 29 rfl w.heap.size 5 i9 z9 1 Tryz.underlying29 H9.out.1 H9.out.2.1 H9.out.2.2.1 .i64 .i64 (t:Int) t rfl rfl rfl H9.out.2.2.2 HT6.out HB1.out.size ?_); intro w4 hown4 hg4; have HO4:=ab hown4; have HG4:=ab hg4; clear hown4 hg4))
 have HB4:=ab ((eI HG4.out).mono HB1.out.size |> HB1.out.trans)
 go_loopw [16,6] (fun i x wr=> ∃(k:Nat) (acc:List UInt8),k<=n/\i= .int .i64 (k:Int)/\gY cs rs []=gY cs (rs.drop k) acc/\acc.length<=k*32768/\iN wr w.heap.size x acc/\Below w.heap.size w wr) (fun i _ _=>n-(intOf i).toNat)
 case atStart=>exact⟨0,[],Nat.zero_le _,rfl,rfl,by simp,HO4.out,HB4.out⟩
 case round=>
  obtain⟨k,acc,hk,rfl,hf,hal,ho,hb⟩:=hrel;obtain⟨ax,cx,rfl,hx1,hx2⟩:=aj ho;have HF:=ab hf;have HO:=ab ho;have HB:=ab hb;clear hf ho hb
  by_cases hlt:k<n
  ·obtain⟨r,hr⟩: ∃r,rs[k]? =some r:=⟨rs[k]'(by rw[<-HN.out]; exact hlt),by simp⟩;obtain⟨b,o,rfl,hok,p0,p1,p2⟩:=cR HV.out HB.out hr;have HA:=ab ((Below.refl wr.heap.size wr).alloc (Nat.le_refl _) (.cells #[.string r.name, .int .i64 r.gen, .int .i64 r.size] 26));have hch:=rh S cv cs r _ ((HC.out.below HB.out).below HA.out) hok;have hsz:=(qj.1 (HRS.out r (List.mem_of_getElem? hr))).2.2.2
   have HBA:=ab (HB.out.trans (HA.out.mono HB.out.size));have HOA:=ab (bm HO.out HA.out);have HDR:=ab (show rs.drop k=r::rs.drop (k+1) by
    rw[List.drop_eq_getElem_cons (by rw[<-HN.out]; exact hlt)]
    congr 1
    exact(List.getElem?_eq_some_iff.1 hr).2)
   unfold og at hch
   cases hcp:cC cs r with
   | error x=>
    rw[hcp]at hch;have HCH:=ab hch;have HFE:=ab (show gY cs rs []= .error x by rw[HF.out,HDR.out,gY,hcp]);clear hcp hch hr hok hsz;go_wp2_with fail;refine HCH.out.mono ?_;rintro e w5 ⟨hb5,rfl,hx⟩;have HB5:=ab (HBA.out.trans (hb5.mono HBA.out.size));clear hb5;go_wp2_with fail
    go_ret2
    refine⟨HB5.out, ?_⟩;rw[HFE.out];exact⟨rfl,hx⟩
   | ok bs=>
    rw[hcp]at hch;have HCH:=ab hch;have HFE:=ab (show gY cs rs []=gY cs (rs.drop (k+1)) (acc++bs) by rw[HF.out,HDR.out,gY,hcp]);have hbl:bs.length<=32768:=by
     unfold cC at hcp
     cases hf:cV cs r.name with
     | none=>rw[hf]at hcp; cases hcp
     | some y=>
      rw[hf]at hcp;simp only at hcp
      split at hcp
      ·cases hcp; omega
      ·cases hcp
    clear hcp hch hr hok hsz;go_wp2_with fail;refine HCH.out.mono ?_;rintro e w5 ⟨hb5,v5,rfl,hby⟩;obtain⟨_,a5,c5,rfl,-,-,-⟩:=id hby
    obtain⟨m,hm⟩: ∃m,m=bs.length:=⟨_,rfl⟩;have HM:=ab hm;have HB5:=ab (HBA.out.trans (hb5.mono HBA.out.size));have HO5:=ab (bm HOA.out hb5);have HBY:=ab (show aS S w5 1 (.slice a5 m c5) m (bs.map au) by rw[hm]; exact hby);rw[<-hm]at hbl ⊢;have HON:=ab (show ∀u∈bs.map au,u.oneCell'=true from eq bs);have HLE:=ab (show acc.length+m<1099511627775 by omega)
    clear hb5 hby hm p0 p1 p2;go_wp2_with (at_builtin; go_must (refine fa Tryz.appBytes rfl _ _ rfl w.heap.size (.slice ax acc.length cx) acc.length (acc.map au) rfl HO5.out _ m (bs.map au) rfl HBY.out HON.out HLE.out HB5.out.size ?_); intro v6 wz hown6 hgrow6; have HO6:=ab hown6; have HG6:=ab hgrow6; clear hown6 hgrow6)
    go_roundw
    case rel=>
     refine⟨k+1,acc++bs,by omega,by go_num,HFE.out, ?_, ?_,HB5.out.grown HG6.out HB5.out.size (fun k e=>(iF HO5.out e).1)⟩
     ·rw[List.length_append,<-HM.out]; omega
     ·unfold iN;rw[List.length_append,List.map_append,<-HM.out];exact HO6.out
    case measure=>simp[intOf]; omega
  ·have hk2:k=n:=by omega
   subst hk2;go_wp2_with fail
   go_ret2
   refine⟨HB.out, ?_⟩;rw[HF.out,HN.out,List.drop_length];exact⟨_,rfl,HO.out⟩
theorem qg {l:List aG} (hl:l.length<=1048576) (h: ∀r∈l,dw r=true): ∀k,k<=l.length->0<=dt (l.take k)/\dt (l.take k)<=(k:Int)*32768
 | 0,_=>by simp[dt]
 | k+1,hk=>by
  have ih:=qg hl h k (by omega);have hr:l[k]? =some (l[k]'(by omega)):=by simp
  have hz:=(qj.1 (h _ (List.getElem_mem (by omega:k<l.length)))).2.2.2;rw[bh hr,kG];unfold wrap64;omega
end Go.Proofs.YtpffpjbkbaleiaaGreatDoor
namespace Go.Proofs.YtpffpjbkbaleiaaGreatDoor
open Go.RowKit
def fi (dir name:ByteArray):ByteArray:=if dir.size=0 then name else dir++⟨#[47]⟩++name
def kL (cs:List (ByteArray×List UInt8)) (it:aE):List UInt8×Int:=
 if it.kind=1 then(match gY cs it.chunks []with | .error x=>([],x) | .ok bs=>(bs,0))else([],0)
def eC (cs:List (ByteArray×List UInt8)) (rec:ByteArray->aG->List bD->Int×List bD) (dir:ByteArray):List aE->List bD->Int×List bD
 | [],acc=>(0,acc)
 | it::r,acc=>
  if bo (bl (fi dir it.name))=true/\acc.length<4096 then
   let acc1:=acc++[⟨fi dir it.name,it.kind,it.mode,it.time,(kL cs it).1,it.link⟩]
   let p:=if it.kind=2 then rec (fi dir it.name) it.node acc1 else((kL cs it).2,acc1)
   if p.1=0 then eC cs rec dir r p.2 else p
  else(2,acc)
def di (cs:List (ByteArray×List UInt8)):Nat->ByteArray->aG->List bD->Int×List bD
 | 0,_,_,acc=>(0,acc)
 | f+1,dir,ref,acc=>match bG cs ref with
  | .error x=>(x,acc)
  | .ok l=>eC cs (di cs f) dir l acc
def nt (cs:List (ByteArray×List UInt8)) (root:aG):Except Int (List bD):=
 if dw root=true then(if(di cs 514 ⟨#[]⟩ root []).1=0 then .ok (di cs 514 ⟨#[]⟩ root []).2 else .error (di cs 514 ⟨#[]⟩ root []).1)else .error 1
def BL (xs:List ByteArray) (w:World) (e:Ending) (w':World):Prop:=
 ∃a cap,e= .returned (.tuple #[.slice a xs.length cap, .int .i64 0])/\xs.length<=cap/\cap<=maxLen/\jh (w.heap.size<= ·) w' (.slice a xs.length cap) xs/\Below w.heap.size w w'
theorem oz : ∀ {xs ys:List ByteArray},xs.map bl=ys.map bl->xs=ys
 | [],[],_=>rfl
 | [],_::_,h=>by simp at h
 | _::_,[],h=>by simp at h
 | x::xs,y::ys,h=>by
  simp only[List.map_cons,List.cons.injEq]at h;rw[ft h.1,oz h.2]
def jw (l:List UInt8):List ByteArray:=(aU 47 l).map fun p=>⟨p.toArray⟩
theorem Ar (l:List UInt8):(jw l).map bl=aU 47 l:=by
 unfold jw;rw[List.map_map];have:(bl ∘ fun p:List UInt8=>(⟨p.toArray⟩:ByteArray))=id:=by funext p; exact ff p
 rw[this,List.map_id]
theorem ws (s:ByteArray) (w:World) (he:fE w) (hv:bo (bl s)=true):Calls Tryz.prog 82 #[.string s] w (BL (jw (bl s)) w):=by
 refine(kj s w he).mono ?_;rintro e w' (⟨_,v,xs,rfl,hx,hs,hb⟩ | ⟨hf,_⟩)
 ·have:xs=jw (bl s):=oz (hx.trans (Ar _).symm);subst this;obtain⟨a,cap,rfl,h1,h2,_⟩:=hs.shape;exact⟨a,cap,rfl,h1,h2,hs,hb⟩
 ·rw[hv]at hf; cases hf
theorem Bi (s:ByteArray) (w:World) (he:fE w) (hv:bo (bl s)=false):Calls Tryz.prog 82 #[.string s] w fun e w'=>e= .returned (.tuple #[.slice none 0 0, .int .i64 1])/\Below w.heap.size w w':=by
 refine(kj s w he).mono ?_;rintro e w' (⟨ht,_⟩ | ⟨_,rfl,hb⟩)
 ·rw[hv]at ht; cases ht
 ·exact⟨rfl,hb⟩
def iV (cs:List (ByteArray×List UInt8)):List ByteArray->aE->Except Int aE
 | [],it=> .ok it
 | c::r,it=>if it.kind=2 then(match bG cs it.node with
  | .error x=> .error x
  | .ok l=>match l.find? (fun y=>decide (y.name=c))with
   | none=> .error 4
   | some y=>iV cs r y)else .error 4
def gh (root:aG):aE:=⟨⟨#[]⟩,2,0,0,0,⟨#[]⟩,[],root⟩
def eM (cs:List (ByteArray×List UInt8)) (root:aG) (path:ByteArray):Except Int aE:=
 if bo (bl path)=true/\dw root=true then iV cs (jw (bl path)) (gh root)else .error 1
structure fF (w : World) (base wb eb sb : Nat) (fv v : Value) (ex rs : List aG) : Prop where
 box:w.heap[wb]? =some (.cells #[fv, .map (some eb), .map (some sb),v] 191 (0,0))
 exs:cb w eb ex
 see:cb w sb rs
 row:w.ownsRow base 26 3 v rs.length (rs.flatMap cG)
 ne:eb≠sb
def de (wb eb sb:Nat) (v:Value) (k:Nat):Prop:=k=wb\/k=eb\/k=sb\/v.ownBlock=some k
section
variable {w w' : World} {base wb eb sb : Nat} {fv v : Value} {ex rs : List aG}
theorem cb.cells {b:Nat} {l:List aG} (h:cb w b l) {cs:Array Value} {t:TypeId} {z:Nat×Nat} :w.heap[b]? ≠some (.cells cs t z):=fun e=>by
 obtain⟨es,clock,hb,_⟩:=h.map;rw[hb]at e; cases e
theorem fF.wne (h:fF w base wb eb sb fv v ex rs):wb≠eb/\wb≠sb:=⟨fun e=>h.exs.cells (e▸h.box),fun e=>h.see.cells (e▸h.box)⟩
theorem az {e:TypeId} {sz:Nat} {n:Nat} {xs:List Value} {k:Nat} (h:w.ownsRow base e sz v n xs) (hk:v.ownBlock=some k): ∃cs,w.heap[k]? =some (.cells cs e (0,0)):=by
 obtain⟨_,h2⟩:=h
 rcases h2 with⟨rfl,rfl⟩ | ⟨g,cap,cur,rfl,_,hh,_⟩
 ·cases hk
 ·have:g=k:=by simpa [Value.ownBlock]using hk
  subst this;exact⟨cur,hh⟩
theorem fF.own (h:fF w base wb eb sb fv v ex rs) {k:Nat} (hk:v.ownBlock=some k):k≠wb/\k≠eb/\k≠sb:=by
 obtain⟨cs,hc⟩:=az h.row hk;refine⟨fun e=> ?_,fun e=> ?_,fun e=> ?_⟩
 ·subst e;have:=hc.symm.trans h.box;simp at this
 ·subst e; exact h.exs.cells hc
 ·subst e; exact h.see.cells hc
theorem fF.keep (h:fF w base wb eb sb fv v ex rs) (hs: ∀k,k<w.heap.size->de wb eb sb v k->w'.heap[k]? =w.heap[k]?):fF w' base wb eb sb fv v ex rs:=by
 refine⟨(hs wb (lt_of_block h.box) (.inl rfl)).trans h.box,h.exs.same (hs eb h.exs.map.lt (.inr (.inl rfl))),h.see.same (hs sb h.see.map.lt (.inr (.inr (.inl rfl)))), ?_,h.ne⟩;obtain⟨hl,h2⟩:=h.row;refine⟨hl, ?_⟩
 rcases h2 with h2 | ⟨g,cap,cur,rfl,hg,hh,h3⟩
 ·exact .inl h2
 ·exact .inr ⟨g,cap,cur,rfl,hg,(hs g (lt_of_block hh) (.inr (.inr (.inr rfl)))).trans hh,h3⟩
theorem fF.below (h:fF w base wb eb sb fv v ex rs) (hb:Below w.heap.size w w'):fF w' base wb eb sb fv v ex rs:=h.keep (fun k hk _=>hb.block k hk)
theorem fF.ok (h:fF w base wb eb sb fv v ex rs): ∀r∈rs,aW r:=h.see.ok
theorem fF.shape (h:fF w base wb eb sb fv v ex rs): ∃a cap,v= .slice a rs.length cap:=by
 obtain⟨a,cap,h1,_⟩:=aj h.row;exact⟨a,cap,h1⟩
end
def aH (r:aG) (rs:List aG):List aG:=if r∈rs then rs else rs++[r]
def BQ (base wb eb sb:Nat) (fv v:Value) (ex rs:List aG) (w w':World):Prop:=
 ∃v',fF w' base wb eb sb fv v' ex rs/\bg (de wb eb sb v) w w'/\ ∀k,v'.ownBlock=some k->v.ownBlock=some k\/w.heap.size<=k
theorem ik (base wb eb sb:Nat) (fv v:Value) (ex rs:List aG) (r:aG) (w:World) (h:fF w base wb eb sb fv v ex rs) (hr:aW r) (hl:rs.length<1099511627775) (hbase:base<=w.heap.size):
  Calls Tryz.prog 161 #[.pointer (some ⟨wb,0,none⟩),aX r] w fun e w'=>e= .returned (.tuple #[])/\BQ base wb eb sb fv v ex (aH r rs) w w':=by
 obtain⟨av,cv,rfl⟩:=h.shape;obtain⟨W,hW⟩: ∃W:World,W=(w.alloc (.cells #[.string r.name, .int .i64 r.gen, .int .i64 r.size] 26)).drew:=⟨_,rfl⟩;have hbW:Below w.heap.size w W:=by rw[hW]; exact((Below.refl _ _).alloc (Nat.le_refl _) _).drew
 have HBW:=ab hbW;have HK:=ab (h.below hbW);have bx:W.heap[w.heap.size]? =some (.cells #[.string r.name, .int .i64 r.gen, .int .i64 r.size] 26 (0,0)):=by rw[hW]; exact heap_alloc_new w _
 have HBX:=ab bx;have HR:=ab hr;have HW:=ab hW;have q0:=ah (k:=0) bx;have q1:=ah (k:=1) bx;have q2:=ah (k:=2) bx;have c2:=ah (k:=2) HK.out.box;have hlk:=HK.out.see.look hr;simp only[aN]at q0 q1 q2 c2;have hwb:wb<w.heap.size:=lt_of_block h.box;have H0:=ab h;unfold aX at hlk ⊢;clear h hr bx hbW
 by_cases hm:r∈rs
 ·have e1:decide (r∈rs)=true:=by simp[hm]
  have HM:=ab (show aH r rs=rs by unfold aH; rw[if_pos hm]);rw[e1]at hlk;clear e1 hm
  go_enter Tryz.func161,Tryz.ntmps161
  go_wp2_with fail;refine am [some 7] (by kernel_rfl) (by kernel_rfl) (by kernel_rfl) ?_;simp only[aZ,List.take_succ_cons,List.take_zero];rw[<-HW.out];clear hW
  repeat (first | (refine aw rfl ?_; simp only[Act.put,aA,aB,aC]) | (refine aJ rfl (fun K hK=> ?_); go_simp; refine hK _ ?_; clear hK K))
  refine aI ?_;go_wp2_with fail
  go_end0
  exact⟨rfl, .slice av rs.length cv,by rw[HM.out]; exact HK.out,bg.of_below HBW.out,fun k hk=> .inl hk⟩
 ·have e1:decide (r∈rs)=false:=by simp[hm]
  have HM:=ab (show aH r rs=rs++[r] by unfold aH; rw[if_neg hm]);have HNM:=ab hm;rw[e1]at hlk;clear e1 hm
  go_enter Tryz.func161,Tryz.ntmps161
  go_wp2_with fail;refine am [some 7] (by kernel_rfl) (by kernel_rfl) (by kernel_rfl) ?_;simp only[aZ,List.take_succ_cons,List.take_zero];rw[<-HW.out];clear hW
  repeat (first | (refine aw rfl ?_; simp only[Act.put,aA,aB,aC]) | (refine aJ rfl (fun K hK=> ?_); go_simp; refine hK _ ?_; clear hK K))
  refine aI ?_;go_wp2_with fail;refine am [some 5,none] (by kernel_rfl) (by kernel_rfl) (by kernel_rfl) ?_;simp only[aZ,List.take_succ_cons,List.take_zero,List.drop_succ_cons,List.drop_zero];have HK1:=ab (HK.out.below ((Below.refl _ W).drew))
  repeat (first | (refine aw rfl ?_; simp only[Act.put,aA,aB,aC]) | (refine aJ rfl (fun K hK=> ?_); go_simp; refine hK _ ?_; clear hK K))
  refine aI ?_;refine bw rfl (fun K hK=> ?_);go_wp2_with (at_mapUpdate; go_must (refine cL rfl _ _ _ rfl sb rs HK1.out.see rfl r HR.out rfl rfl HNM.out ?_); intro w2 hset hg2);have hsb:sb<w.heap.size:=H0.out.see.map.lt;have heb:eb<w.heap.size:=H0.out.exs.map.lt;have hbs:=HBW.out.size;obtain⟨W3,hW3⟩: ∃W3:World,W3=w2.drew:=⟨_,rfl⟩;have hg3:W.grownBy W3 (some sb):=by rw[hW3]; exact ak (b:=W.drew) ⟨rfl,rfl,rfl,Nat.le_refl _,fun _ _ _=>rfl⟩ (ak hg2 ⟨rfl,rfl,rfl,Nat.le_refl _,fun _ _ _=>rfl⟩)
  have hz3:=hg3.size;have HSET:=ab (show cb W3 sb (rs++[r]) by rw[hW3]; exact hset.same rfl);have HEX:=ab (HK.out.exs.same (w':=W3) (hg3.block eb HK.out.exs.map.lt (by simp; exact HK.out.ne)));have HROW:=ab (HK.out.row.kept hg3 (.inr (fun e=>(HK.out.own e).2.2 rfl)));have HWB:=ab (dE hg3 HK.out.box HK.out.wne.2);have HRB:=ab (dE hg3 HBX.out (by omega));have HG3:=ab hg3
  have c3:=ah (k:=3) HWB.out;have f3:=ai (k:=3) HWB.out;have r0:=ah (k:=0) HRB.out;have r1:=ah (k:=1) HRB.out;have r2:=ah (k:=2) HRB.out;simp only[aN]at c3 r0 r1 r2;clear q0 q1 q2 c2 hlk hset hg2 hg3;refine bP (fun w'=>w'.cell? ⟨wb,3,none⟩=some (.slice av rs.length cv)/\w'.cell? ⟨w.heap.size,0,none⟩=some (.string r.name)/\w'.cell? ⟨w.heap.size,1,none⟩=some (.int .i64 r.gen)/\w'.cell? ⟨w.heap.size,2,none⟩=some (.int .i64 r.size)) (by kernel_rfl) (by kernel_rfl) ?_
  simp only[List.dropLast_cons_cons,List.dropLast_singleton,List.length_cons,List.length_nil,Nat.reduceAdd,Nat.reduceSub];rw[<-hW3];clear hW3;refine af 0 rfl (by kernel_rfl) (by kernel_rfl) (by kernel_rfl) (fun _ _ _ h=>h) rfl (by go_simp) (by rintro w' ⟨hw1,hw2,hw3,hw4⟩; go_simp; rfl) ?_;simp only[Act.put,aA,aB,aC];refine af 1 rfl (by kernel_rfl) (by kernel_rfl) (by kernel_rfl) (fun _ _ _ h=>h) rfl (by go_simp) (by rintro w' ⟨hw1,hw2,hw3,hw4⟩; go_simp; rfl) ?_
  simp only[Act.put,aA,aB,aC];refine af 2 rfl (by kernel_rfl) (by kernel_rfl) (by kernel_rfl) (fun _ _ _ h=>h) rfl (by go_simp) (by rintro w' ⟨hw1,hw2,hw3,hw4⟩; go_simp; rfl) ?_;simp only[Act.put,aA,aB,aC];refine af 3 rfl (by kernel_rfl) (by kernel_rfl) (by kernel_rfl) (fun _ _ _ h=>h) rfl (by go_simp) (by rintro w' ⟨hw1,hw2,hw3,hw4⟩; go_simp; rfl) ?_;simp only[Act.put,aA,aB,aC]
  refine af 4 rfl (by kernel_rfl) (by kernel_rfl) (by kernel_rfl) (fun _ _ _ h=>h) rfl (by go_simp) (by rintro w' ⟨hw1,hw2,hw3,hw4⟩; go_simp; rfl) ?_;simp only[Act.put,aA,aB,aC];refine af 5 rfl (by kernel_rfl) (by kernel_rfl) (by kernel_rfl) (fun _ _ _ h=>h) rfl (by go_simp) (by rintro w' ⟨hw1,hw2,hw3,hw4⟩; go_simp; rfl) ?_;simp only[Act.put,aA,aB,aC];have hltw:wb<W3.heap.size:=lt_of_block HWB.out
  have hltr:w.heap.size<W3.heap.size:=lt_of_block HRB.out;have HAL:=ab ((Below.refl W3.heap.size W3).alloc (Nat.le_refl _) (.cells #[.string r.name, .int .i64 r.gen, .int .i64 r.size] 26));have hS2:=And.intro ((HAL.out.cell (p:=⟨wb,3,none⟩) hltw).trans c3) (And.intro ((HAL.out.cell (p:=⟨w.heap.size,0,none⟩) hltr).trans r0) (And.intro ((HAL.out.cell (p:=⟨w.heap.size,1,none⟩) hltr).trans r1) ((HAL.out.cell (p:=⟨w.heap.size,2,none⟩) hltr).trans r2)))
  have HS2:=ab hS2;clear hS2;refine ar 6 rfl (by kernel_rfl) rfl (fun K hK=> ?_);go_wp2_with fail
  (first | (refine⟨HS2.out, ?_⟩) | skip)
  refine ar 7 rfl (by kernel_rfl) rfl (fun K hK=> ?_);go_wp2_with (at_builtin; go_must (refine aK Tryz.appRefs rfl _ _ rfl base (.slice av rs.length cv) rs.length (rs.flatMap cG) rfl W3 [.string r.name, .int .i64 r.gen, .int .i64 r.size] _ rfl rfl (gL (r:=r)) HROW.out (by omega) (by omega) ?_); intro v' wc hown' hgrow' _ hpl; obtain⟨ae,ce,rfl,-,-⟩:=aj hown')
  have hne: ∀k,(Value.slice av rs.length cv).ownBlock=some k->k≠wb/\k≠eb/\k≠sb:=fun k hk=>H0.out.own hk
  have hner:(Value.slice av rs.length cv).ownBlock≠some w.heap.size:=fun e=>by have:=(H0.out.row.lt _ e).2; omega
  have HWB2:=ab ((hgrow'.block wb hltw (fun e=>(hne wb e.symm).1 rfl)).trans HWB.out);have HRB2:=ab ((hgrow'.block w.heap.size hltr (fun e=>hner e.symm)).trans HRB.out);have HEX2:=ab (HEX.out.same (hgrow'.block eb HEX.out.map.lt (fun e=>(hne eb e.symm).2.1 rfl)));have HSET2:=ab (HSET.out.same (hgrow'.block sb HSET.out.map.lt (fun e=>(hne sb e.symm).2.2 rfl)));have HGR:=ab hgrow'
  have HPL:=ab hpl;have HOW:=ab (show wc.ownsRow base 26 3 (.slice ae (rs.length+1) ce) (rs++[r]).length ((rs++[r]).flatMap cG) by rw[List.length_append,List.flatMap_append]; simpa [cG]using hown');have c4:=ah (k:=3) HWB2.out;have f4:=ai (k:=3) HWB2.out;have s0:=ah (k:=0) HRB2.out;have s1:=ah (k:=1) HRB2.out;have s2:=ah (k:=2) HRB2.out;simp only[aN]at c4 s0 s1 s2
  clear hown' hgrow' hpl c3 f3 r0 r1 r2 hne hner;refine⟨⟨c4,s0,s1,s2⟩, ?_⟩;refine af 8 rfl (by kernel_rfl) (by kernel_rfl) (by kernel_rfl) (fun _ _ _ h=>h) rfl (by go_simp) (by rintro w' ⟨hw1,hw2,hw3,hw4⟩; go_simp; rfl) ?_;simp only[Act.put,aA,aB,aC];refine af 9 rfl (by kernel_rfl) (by kernel_rfl) (by kernel_rfl) (fun _ _ _ h=>h) rfl (by go_simp) (by rintro w' ⟨hw1,hw2,hw3,hw4⟩; go_simp; rfl) ?_
  simp only[Act.put,aA,aB,aC];refine aV (by kernel_rfl) ?_;refine bX rfl rfl (fun K hK=> ?_);go_wp2_with fail
  go_end0
  refine⟨rfl, .slice ae (rs.length+1) ce, ?_, ?_, ?_⟩
  ·rw[HM.out];have hws:=H0.out.wne;have hx:=cI (k:=3) HWB2.out (.slice ae (rs.length+1) ce);simp only[List.setIfInBounds_toArray,List.set_cons_succ,List.set_cons_zero]at hx;refine⟨hx,HEX2.out.same (Below.heap_setCell _ _ _ _ (Ne.symm hws.1)),HSET2.out.same (Below.heap_setCell _ _ _ _ (Ne.symm hws.2)),HOW.out.kept (aF _ _ _ _) (.inr (fun e=> ?_)),H0.out.ne⟩
   rcases HPL.out wb e with h1 | h1
   ·exact(H0.out.own h1).1 rfl
   ·omega
  ·refine bg.trans (bg.of_below HBW.out) (bg.trans (S:=de wb eb sb (.slice av rs.length cv)) (bg.of_grown HG3.out (fun k hk=>by cases hk; exact .inr (.inr (.inl rfl)))) (bg.trans (S:=de wb eb sb (.slice av rs.length cv)) (bg.of_grown HGR.out (fun k hk=> .inr (.inr (.inr hk)))) (bg.of_grown (S:=de wb eb sb (.slice av rs.length cv)) (aF wc wb 3 _) (fun k hk=>by cases hk; exact .inl rfl)) (fun i _ h=>h)) (fun i _ h=>h)) (fun i _ h=>h)
  ·intro k hk
   rcases HPL.out k hk with h1 | h1
   ·exact .inl h1
   ·exact .inr (by omega)
def bT (cs rs:List aG):List aG:=cs.foldl (fun rs r=>aH r rs) rs
def dG (f:aG->List aG×List aG->Option (Int×(List aG×List aG))):List aE->List aG×List aG->Option (Int×(List aG×List aG))
 | [],st=>some (0,st)
 | it::l,st=>if it.kind≠2 then dG f l (st.1,bT it.chunks st.2)else
  (f it.node (st.1,bT it.chunks st.2)).bind fun p=>if p.1≠0 then some p else dG f l p.2
def bC (visit:aG->Except Int (List aE)):Nat->aG->List aG×List aG->Option (Int×(List aG×List aG))
 | 0,_,_=>none
 | n+1,r,st=>if r∈st.1 then some (0,(st.1,aH r st.2))else match visit r with
  | .error x=>some (x,(st.1++[r],aH r st.2))
  | .ok l=>dG (bC visit n) l (st.1++[r],aH r st.2)
theorem fL (r:aG) (rs:List aG):rs.length<=(aH r rs).length:=by
 unfold aH
 split
 ·exact Nat.le_refl _
 ·simp
theorem kz : ∀(cs rs:List aG),rs.length<=(bT cs rs).length
 | [],_=>Nat.le_refl _
 | c::cs,rs=>Nat.le_trans (fL c rs) (kz cs (aH c rs))
theorem jX (cs:List aG) (c:aG) (rs:List aG):bT (cs++[c]) rs=aH c (bT cs rs):=by
 unfold bT; rw[List.foldl_append]; rfl
theorem gE (cs rs:List aG) (j:Nat):(bT (cs.take j) rs).length<=(bT cs rs).length:=by
 have:bT cs rs=bT (cs.drop j) (bT (cs.take j) rs):=by
  unfold bT;rw[<-List.foldl_append,List.take_append_drop]
 rw[this];exact kz _ _
theorem em {f:aG->List aG×List aG->Option (Int×(List aG×List aG))} (hf: ∀r st x st',f r st=some (x,st')->st.2.length<=st'.2.length):
  ∀(l:List aE) (st:List aG×List aG) (x:Int) (st':List aG×List aG),dG f l st=some (x,st')->st.2.length<=st'.2.length
 | [],st,x,st',h=>by
  simp only[dG,Option.some.injEq,Prod.mk.injEq]at h;obtain⟨_,rfl⟩:=h;exact Nat.le_refl _
 | it::l,st,x,st',h=>by
  rw[dG]at h
  split at h
  ·exact Nat.le_trans (kz it.chunks st.2) (em hf l _ x st' h)
  ·rw[Option.bind_eq_some_iff]at h;obtain⟨⟨y,st2⟩,h1,h2⟩:=h;have h3:=hf _ _ _ _ h1;have h4:=kz it.chunks st.2;simp only at h2 h3
   split at h2
   ·simp only[Option.some.injEq,Prod.mk.injEq]at h2;obtain⟨_,rfl⟩:=h2;exact Nat.le_trans h4 h3
   ·exact Nat.le_trans (Nat.le_trans h4 h3) (em hf l _ x st' h2)
theorem eR (visit:aG->Except Int (List aE)): ∀(n:Nat) (r:aG) (st:List aG×List aG) (x:Int) (st':List aG×List aG),bC visit n r st=some (x,st')->st.2.length<=st'.2.length
 | 0,_,_,_,_,h=>by simp[bC]at h
 | n+1,r,st,x,st',h=>by
  have hm:=fL r st.2;rw[bC]at h
  split at h
  ·simp only[Option.some.injEq,Prod.mk.injEq]at h;obtain⟨_,rfl⟩:=h;exact hm
  ·split at h
   ·simp only[Option.some.injEq,Prod.mk.injEq]at h;obtain⟨_,rfl⟩:=h;exact hm
   ·exact Nat.le_trans hm (em (eR visit n) _ _ x st' h)
def FI (res:Except Int (List aE)) (w:World) (e:Ending) (w':World):Prop:=Below w.heap.size w w'/\match res with
 | .error x=>e= .returned (.tuple #[.slice none 0 0, .int .i64 x])/\x≠0
 | .ok l=> ∃v,e= .returned (.tuple #[v, .int .i64 0])/\ba (w.heap.size<= ·) w' v l
theorem fF.notown {w:World} {base wb eb sb:Nat} {fv v:Value} {ex rs:List aG} (h:fF w base wb eb sb fv v ex rs) {k:Nat} {cs:Array Value} {t:TypeId} {z:Nat×Nat} (hb:w.heap[k]? =some (.cells cs t z)) (h1:t≠191) (h2:t≠26): ¬de wb eb sb v k:=by
 rintro(e | e | e | e)
 ·subst e;have:=hb.symm.trans h.box;simp at this;exact h1 this.2.1
 ·subst e; exact h.exs.cells hb
 ·subst e; exact h.see.cells hb
 ·obtain⟨cs',hc⟩:=az h.row e;have:=hb.symm.trans hc;simp at this;exact h2 this.2.1
structure lH (w : World) (B h5 h6 base wb eb sb : Nat) (fv v itv : Value) (l : List aE) (wr : World) (v2 : Value) (ex rs : List aG) : Prop where
 at':fF wr base wb eb sb fv v2 ex rs
 gr:bg (de wb eb sb v) w wr
 own: ∀k,v2.ownBlock=some k->v.ownBlock=some k\/w.heap.size<=k
 apart: ∀k,v2.ownBlock=some k->k<h5\/h6<=k
 lo:wb<h5/\eb<h5/\sb<h5
 ord:w.heap.size<=h5/\h5<=h6/\h6<=wr.heap.size
 its:ba (fun k=>h5<=k/\k<h6) wr itv l
theorem ba.same {S:Nat->Prop} {w w':World} {v:Value} {l:List aE} (h:ba S w v l) (hs: ∀k,k<w.heap.size->S k->w'.heap[k]? =w.heap[k]?):ba S w' v l:=by
 obtain⟨cells,hr,hin⟩:=h;have h2:=hr.mono (T:=fun k=>k<w.heap.size/\S k) (fun k hk hS=>⟨hk,hS⟩) (by omega);have h3:=h2.same (w':=w') (fun k hk=>hs k hk.1 hk.2);exact⟨cells,h3.weak (fun k hk=>hk.2),hin.mono (fun c x _ hx=>hx.same (fun k hk hS=>⟨hS,hs k hk hS⟩))⟩
section
variable {w wr w' : World} {B h5 h6 base wb eb sb : Nat} {fv v itv v2 v3 : Value} {l : List aE} {ex rs ex3 rs3 : List aG}
theorem lH.below (h:lH w B h5 h6 base wb eb sb fv v itv l wr v2 ex rs) (hb:Below wr.heap.size wr w'):lH w B h5 h6 base wb eb sb fv v itv l w' v2 ex rs:=
 ⟨h.at'.below hb,h.gr.trans (bg.of_below hb (S:=fun _=>False)) (fun _ _ h=>False.elim h),h.own,h.apart,h.lo,⟨h.ord.1,h.ord.2.1,Nat.le_trans h.ord.2.2 hb.size⟩,h.its.below hb⟩
theorem lH.notown (h:lH w B h5 h6 base wb eb sb fv v itv l wr v2 ex rs) {k:Nat} (hk:h5<=k/\k<h6): ¬de wb eb sb v2 k:=by
 have:=h.lo;rintro(e | e | e | e)
 ·omega
 ·omega
 ·omega
 ·have:=h.apart k e; omega
theorem lH.step (h:lH w B h5 h6 base wb eb sb fv v itv l wr v2 ex rs) (hr:BQ base wb eb sb fv v2 ex3 rs3 wr w'): ∃v3,lH w B h5 h6 base wb eb sb fv v itv l w' v3 ex3 rs3/\bg (de wb eb sb v2) wr w':=by
 obtain⟨v3,h1,h2,h3⟩:=hr;have hz:=h.gr.size;refine⟨v3,⟨h1,h.gr.trans h2 (fun i hi ho=> ?_),fun k hk=> ?_,fun k hk=> ?_,h.lo,⟨h.ord.1,h.ord.2.1,Nat.le_trans h.ord.2.2 h2.size⟩,h.its.same (fun k hk hS=>h2.block k hk (h.notown hS))⟩,h2⟩
 ·rcases ho with e | e | e | e
  ·exact .inl e
  ·exact .inr (.inl e)
  ·exact .inr (.inr (.inl e))
  ·rcases h.own i e with e | e
   ·exact .inr (.inr (.inr e))
   ·omega
 ·rcases h3 k hk with e | e
  ·exact h.own k e
  ·exact .inr (by omega)
 ·rcases h3 k hk with e | e
  ·exact h.apart k e
  ·have:=h.ord; exact .inr (by omega)
end
def qW (visit:aG->Except Int (List aE)) (F:Nat) (cv:Value) (I:World->Prop) (B n:Nat):Prop:= ∀(r:aG) (st:List aG×List aG) (x:Int) (st':List aG×List aG) (base wb eb sb:Nat) (v:Value) (w:World),bC visit n r st=some (x,st')->st'.2.length<1099511627775->
 fF w base wb eb sb (.func (.func F) #[cv] #[]) v st.1 st.2->aW r->I w->(B<=base/\B<=wb/\B<=eb/\B<=sb)->base<=w.heap.size->
 Calls Tryz.prog 133 #[.pointer (some ⟨wb,0,none⟩),aX r] w fun e w'=>e= .returned (.int .i64 x)/\BQ base wb eb sb (.func (.func F) #[cv] #[]) v st'.1 st'.2 w w'
def ud (visit:aG->Except Int (List aE)) (F:Nat) (cv:Value) (I:World->Prop):Prop:= ∀(W:World) (r:aG),I W->aW r->Calls Tryz.prog F #[cv,aX r] W (FI (visit r) W)
def ol (I:World->Prop) (B:Nat):Prop:= ∀w w':World,I w->bg (B<= ·) w w'->I w'
theorem mG {B base wb eb sb:Nat} {w:World} {fv v:Value} {ex rs:List aG} (h:fF w base wb eb sb fv v ex rs) (hB:B<=base/\B<=wb/\B<=eb/\B<=sb) {k:Nat} (hk:de wb eb sb v k):B<=k:=by
 rcases hk with e | e | e | e
 ·omega
 ·omega
 ·omega
 ·have:=(h.row.lt k e).1; omega
theorem fx {S T:Nat->Prop} {w w':World} (h:bg S w w') (hs: ∀k,S k->T k):bg T w w':=⟨h.os,h.tape,h.output,h.size,fun k hk hn=>h.block k hk (fun hS=>hn (hs k hS))⟩
theorem ba.lt {S:Nat->Prop} {w:World} {v:Value} {l:List aE} (h:ba S w v l):ba (fun k=>S k/\k<w.heap.size) w v l:=by
 obtain⟨cells,hr,hin⟩:=h;exact⟨cells,hr.mono (fun k hk hS=>⟨hS,hk⟩) (by omega),hin.mono (fun c x _ hx=>hx.same (fun k hk hS=>⟨⟨hS,hk⟩,rfl⟩))⟩
theorem jt {f:aG->List aG×List aG->Option (Int×(List aG×List aG))} {it:aE} {l:List aE} {ex rs:List aG} {q:Int×(List aG×List aG)} (h:dG f (it::l) (ex,rs)=some q):
  (it.kind≠2/\dG f l (ex,bT it.chunks rs)=some q)\/(it.kind=2/\ ∃y st2,f it.node (ex,bT it.chunks rs)=some (y,st2)/\((y≠0/\q=(y,st2))\/(y=0/\dG f l st2=some q))):=by
 rw[dG]at h
 split at h
 ·rename_i hk;exact .inl ⟨hk,h⟩
 ·rename_i hk;rw[Option.bind_eq_some_iff]at h;obtain⟨⟨y,st2⟩,h1,h2⟩:=h;refine .inr ⟨Decidable.not_not.1 hk,y,st2,h1, ?_⟩;simp only at h2
  split at h2
  ·rename_i hy;exact .inl ⟨hy,(Option.some.inj h2).symm⟩
  ·rename_i hy;exact .inr ⟨Decidable.not_not.1 hy,h2⟩
theorem mF {visit:aG->Except Int (List aE)} {n:Nat} {it:aE} {l:List aE} {ex rs:List aG} {x:Int} {st':List aG×List aG} (h:dG (bC visit n) (it::l) (ex,rs)=some (x,st')):(bT it.chunks rs).length<=st'.2.length:=by
 rcases jt h with⟨_,h2⟩ | ⟨_,y,st2,h1,h2⟩
 ·exact em (eR visit n) l _ x st' h2
 ·have h3:=eR visit n _ _ _ _ h1
  rcases h2 with⟨_,h2⟩ | ⟨_,h2⟩
  ·obtain⟨_,rfl⟩:=Prod.mk.inj h2;exact h3
  ·exact Nat.le_trans h3 (em (eR visit n) l _ x st' h2)
theorem yf (visit:aG->Except Int (List aE)) (cv:Value) (I:World->Prop) (B n:Nat) (hI:ol I B) (hV:ud visit 83 cv I) (IH:qW visit 83 cv I B n):qW visit 83 cv I B (n+1):=by
 intro r st x st' base wb eb sb v w hw hlen h hr hi hB hbase;have HI:=ab hI;have HV:=ab hV;have HIH:=ab IH;have HB:=ab hB;have HR:=ab hr;have H:=ab h;have HIW:=ab hi;have HLEN:=ab hlen;have HWP:=ab hw;have hmen:(aH r st.2).length<=st'.2.length:=by
  rw[bC]at hw
  split at hw
  ·simp only[Option.some.injEq,Prod.mk.injEq]at hw;obtain⟨_,rfl⟩:=hw;exact Nat.le_refl _
  ·split at hw
   ·simp only[Option.some.injEq,Prod.mk.injEq]at hw;obtain⟨_,rfl⟩:=hw;exact Nat.le_refl _
   ·exact em (eR visit n) _ _ x st' hw
 have hml:=fL r st.2;have HB0:=ab ((Below.refl w.heap.size w).alloc (Nat.le_refl _) (.cells #[.string r.name, .int .i64 r.gen, .int .i64 r.size] 26));have HK0:=ab (h.below HB0.out);have HBX0:=ab (heap_alloc_new w (.cells #[.string r.name, .int .i64 r.gen, .int .i64 r.size] 26));have hwb:wb<w.heap.size:=lt_of_block h.box;unfold aX;clear hw h hr hi hI hV IH hB
 go_enter Tryz.func133,Tryz.ntmps133
 go_wp2_with fail;refine(ik base wb eb sb _ v st.1 st.2 r _ HK0.out HR.out (by omega) (by simp; omega)).mono ?_;rintro e w1 ⟨rfl,v1,hk1,hg1,ho1⟩;have HK1:=ab hk1;have HBX1:=ab (show w1.heap[w.heap.size]? =some (.cells #[.string r.name, .int .i64 r.gen, .int .i64 r.size] 26 (0,0))from(hg1.block w.heap.size (by simp) (fun ho=>by
  rcases ho with e | e | e | e
  ·omega
  ·have:=H.out.exs.map.lt; omega
  ·have:=H.out.see.map.lt; omega
  ·have:=(H.out.row.lt _ e).2; omega)).trans HBX0.out)
 have hz1:=hg1.size;simp at hz1;have HG1:=ab (show bg (de wb eb sb v) w w1 from(bg.of_below HB0.out (S:=de wb eb sb v)).trans hg1 (fun _ _ h=>h));have HO1:=ab (show ∀k,v1.ownBlock=some k->v.ownBlock=some k\/w.heap.size<=k from fun k hk=>by
  rcases ho1 k hk with e | e
  ·exact .inl e
  ·simp at e; exact .inr (by omega))
 clear hk1 hg1 ho1 HK0 HBX0;have c1:=ah (k:=1) HK1.out.box;have q0:=ah (k:=0) HBX1.out;have q1:=ah (k:=1) HBX1.out;have q2:=ah (k:=2) HBX1.out;simp only[aN]at c1 q0 q1 q2;go_wp2_with fail;refine am [some 6] (by kernel_rfl) (by kernel_rfl) (by kernel_rfl) ?_;simp only[aZ,List.take_succ_cons,List.take_zero];obtain⟨W1,hW1⟩: ∃W1:World,W1=w1.drew:=⟨_,rfl⟩
 rw[<-hW1];have hbw1:Below w1.heap.size w1 W1:=by rw[hW1]; exact(Below.refl _ _).drew
 have HK2:=ab (HK1.out.below hbw1);have HBX2:=ab ((hbw1.block w.heap.size (by omega)).trans HBX1.out);have HG2:=ab (HG1.out.trans (bg.of_below hbw1 (S:=fun _=>False)) (fun _ _ h=>False.elim h));have hz2:=hbw1.size;clear hbw1 HK1 HBX1 HG1 c1 q0 q1 q2;have c1:=ah (k:=1) HK2.out.box;have q0:=ah (k:=0) HBX2.out;have q1:=ah (k:=1) HBX2.out;have q2:=ah (k:=2) HBX2.out
 have hlk:=HK2.out.exs.look HR.out;unfold aX at hlk;simp only[aN]at c1 q0 q1 q2;clear hW1
 by_cases hm:r∈st.1
 ·have e1:decide (r∈st.1)=true:=by simp[hm]
  rw[e1]at hlk;have HRES:=ab (show(x,st')=(0,(st.1,aH r st.2)) by have:=HWP.out; rw[bC,if_pos hm]at this; exact(Option.some.inj this).symm);clear e1 hm
  repeat (first | (refine aw rfl ?_; simp only[Act.put,aA,aB,aC]) | (refine aJ rfl (fun K hK=> ?_); go_simp; refine hK _ ?_; clear hK K))
  refine aI ?_;go_wp2_with fail;go_ret;obtain⟨e1,e2⟩:=Prod.mk.inj HRES.out;exact⟨bz e1.symm,v1,by rw[e2]; exact HK2.out,HG2.out,HO1.out⟩
 ·have e1:decide (r∈st.1)=false:=by simp[hm]
  rw[e1]at hlk;have HNM:=ab hm;have HWQ:=ab (show(match visit r with | .error x=>some (x,(st.1++[r],aH r st.2)) | .ok l=>dG (bC visit n) l (st.1++[r],aH r st.2))=some (x,st') by have:=HWP.out; rw[bC,if_neg hm]at this; exact this);clear e1 hm HWP
  repeat (first | (refine aw rfl ?_; simp only[Act.put,aA,aB,aC]) | (refine aJ rfl (fun K hK=> ?_); go_simp; refine hK _ ?_; clear hK K))
  refine aI ?_;go_wp2_with fail;refine am [some 5,none] (by kernel_rfl) (by kernel_rfl) (by kernel_rfl) ?_;simp only[aZ,List.take_succ_cons,List.take_zero,List.drop_succ_cons,List.drop_zero]
  repeat (first | (refine aw rfl ?_; simp only[Act.put,aA,aB,aC]) | (refine aJ rfl (fun K hK=> ?_); go_simp; refine hK _ ?_; clear hK K))
  refine aI ?_;refine bw rfl (fun K hK=> ?_);have HKd:=ab (HK2.out.below ((Below.refl _ W1).drew));go_wp2_with (at_mapUpdate; go_must (refine cL rfl _ _ _ rfl eb st.1 HKd.out.exs rfl r HR.out rfl rfl HNM.out ?_); intro w2 hset hg2);have heb:eb<w.heap.size:=H.out.exs.map.lt;have hsb:sb<w.heap.size:=H.out.see.map.lt;have hne1:=H.out.wne;have hne2:=H.out.ne;refine am [some 5,none,some 5] (by kernel_rfl) (by kernel_rfl) (by kernel_rfl) ?_
  simp only[aZ,List.take_succ_cons,List.take_zero,List.drop_succ_cons,List.drop_zero];obtain⟨W2,hW2⟩: ∃W2:World,W2=w2.drew:=⟨_,rfl⟩;rw[<-hW2];have hg3:W1.grownBy W2 (some eb):=by rw[hW2]; exact ak (b:=W1.drew) ⟨rfl,rfl,rfl,Nat.le_refl _,fun _ _ _=>rfl⟩ (ak hg2 ⟨rfl,rfl,rfl,Nat.le_refl _,fun _ _ _=>rfl⟩)
  have hset3:cb W2 eb (st.1++[r]):=by rw[hW2]; exact hset.same rfl
  have HK3:=ab (show fF W2 base wb eb sb (.func (.func 83) #[cv] #[]) v1 (st.1++[r]) (aH r st.2)from⟨dE hg3 HK2.out.box hne1.1,hset3,HK2.out.see.same (hg3.block sb HK2.out.see.map.lt (by simp; exact Ne.symm hne2)),HK2.out.row.kept hg3 (.inr (fun e=>(HK2.out.own e).2.1 rfl)),hne2⟩);have HBX3:=ab (dE hg3 HBX2.out (by omega));have HG3:=ab (show bg (de wb eb sb v) w W2 from HG2.out.trans (bg.of_grown (S:=fun k=>k=eb) hg3 (fun k hk=>by cases hk; rfl)) (fun i _ h=> .inr (.inl h)))
  have hz3:=hg3.size;have HI3:=ab (HI.out w W2 HIW.out (fx HG3.out (fun k hk=>mG H.out HB.out hk)));clear hW2 hg3 hset3 hset hg2 HKd HK2 HBX2 HG2 c1 q0 q1 q2 hlk;have c0:=ah (k:=0) HK3.out.box;have q0:=ah (k:=0) HBX3.out;have q1:=ah (k:=1) HBX3.out;have q2:=ah (k:=2) HBX3.out;simp only[aN]at c0 q0 q1 q2
  repeat (first | (refine aw rfl ?_; simp only[Act.put,aA,aB,aC]) | (refine aJ rfl (fun K hK=> ?_); go_simp; refine hK _ ?_; clear hK K))
  refine aI ?_;refine bw rfl (fun K hK=> ?_);go_wp2_with fail;refine(HV.out W2 r HI3.out HR.out).mono ?_;rintro e w3 ⟨hb3,hres⟩;have HK4:=ab (HK3.out.below hb3);have HG4:=ab (HG3.out.trans (bg.of_below hb3 (S:=fun _=>False)) (fun _ _ h=>False.elim h));have HB3:=ab hb3;have hz4:=hb3.size;clear hb3 c0 q0 q1 q2
  cases hvr:visit r with
  | error y=>
   rw[hvr]at hres;obtain⟨rfl,hy⟩:=hres;have HRES:=ab (show(x,st')=(y,(st.1++[r],aH r st.2)) by have:=HWQ.out; rw[hvr]at this; exact(Option.some.inj this).symm);have e1:(y != 0)=true:=by simp[hy]
   clear hvr hy;go_wp2_with fail
   repeat (first | (refine aw rfl ?_; simp only[Act.put,aA,aB,aC]) | (refine aJ rfl (fun K hK=> ?_); go_simp; refine hK _ ?_; clear hK K))
   refine aI ?_;go_wp2_with fail;go_ret;obtain⟨e1,e2⟩:=Prod.mk.inj HRES.out;exact⟨bz e1.symm,v1,by rw[e2]; exact HK4.out,HG4.out,HO1.out⟩
  | ok l=>
   rw[hvr]at hres;obtain⟨itv,rfl,hits⟩:=hres;have HOV:=ab (show dG (bC visit n) l (st.1++[r],aH r st.2)=some (x,st') by have:=HWQ.out; rw[hvr]at this; exact this);obtain⟨ia,ic,rfl,hil,him,-⟩:=aL.shape hits dO.len;unfold maxLen at him;have HIN:=ab (show lH w B W2.heap.size w3.heap.size base wb eb sb (.func (.func 83) #[cv] #[]) v (.slice ia l.length ic) l w3 v1 (st.1++[r]) (aH r st.2)from
    ⟨HK4.out,HG4.out,HO1.out,fun k hk=> .inl (HK3.out.row.lt k hk).2,⟨by omega,by omega,by omega⟩,⟨by omega,hz4,Nat.le_refl _⟩,ba.lt hits⟩)
   clear hvr hits HWQ HK3 HK4 HG3 HG4 HBX3;go_wp2_with fail
   repeat (first | (refine aw rfl ?_; simp only[Act.put,aA,aB,aC]) | (refine aJ rfl (fun K hK=> ?_); go_simp; refine hK _ ?_; clear hK K))
   refine aI ?_;go_wp2_with fail
   go_loopw [40] (fun i wr=> ∃(k:Nat) (v2:Value) (ex2 rs2:List aG),k<=l.length/\i= .int .i64 k/\dG (bC visit n) (l.drop k) (ex2,rs2)=some (x,st')/\lH w B W2.heap.size w3.heap.size base wb eb sb (.func (.func 83) #[cv] #[]) v (.slice ia l.length ic) l wr v2 ex2 rs2) (fun i _=>l.length-(intOf i).toNat)
   case atStart=>exact⟨0,v1,_,_,Nat.zero_le _,rfl,HOV.out,HIN.out⟩
   case round=>
    obtain⟨k,v2,ex2,rs2,hk,rfl,hov,hin⟩:=hrel;have HV2:=ab hov;have HN2:=ab hin;clear hov hin
    by_cases hlt:k<l.length
    ·obtain⟨it,hr2⟩: ∃it,l[k]? =some it:=⟨l[k],by simp[hlt]⟩;obtain⟨b,o,ca,cc,rfl,hok,hrf,-,-,hcl⟩:=dy HN2.out.its (Below.refl _ _) hr2;have HOV2:=ab (show dG (bC visit n) (it::l.drop (k+1)) (ex2,rs2)=some (x,st') by
      obtain⟨hk',rfl⟩:=List.getElem?_eq_some_iff.1 hr2;rw[<-List.drop_eq_getElem_cons hk']; exact HV2.out)
     have hmb:=mF HOV2.out;have HOK:=ab hok;have q0:=hcl 0 (by omega);have q1:=hcl 1 (by omega);have q2:=hcl 2 (by omega);have q3:=hcl 3 (by omega);have q4:=hcl 4 (by omega);have q5:=hcl 5 (by omega);have q6:=hcl 6 (by omega);have q7:=hcl 7 (by omega);have q8:=hcl 8 (by omega);have q9:=hcl 9 (by omega);simp only[cP,Bw,Nat.add_zero]at q0 q1 q2 q3 q4 q5 q6 q7 q8 q9
     obtain⟨wo,hwo⟩: ∃wo:World,wo=wr:=⟨_,rfl⟩;subst hwo;have HAL:=ab ((Below.refl wo.heap.size wo).alloc (Nat.le_refl _) (.cells #[.string it.name, .int .i64 it.kind, .int .i64 it.mode, .int .i64 it.time, .int .i64 it.size, .string it.link, .slice ca it.chunks.length cc, .string it.node.name, .int .i64 it.node.gen, .int .i64 it.node.size] 28));have HN3:=ab (HN2.out.below HAL.out)
     have HRF:=ab (show aM (fun k=>W2.heap.size<=k/\k<w3.heap.size) _ (.slice ca it.chunks.length cc) it.chunks from aL.below hrf (by omega) HAL.out (fun _ _ _ h=>h));obtain⟨a',cap',hv',hcl1,hcl2,-⟩:=aL.shape hrf fc.len
     cases hv'
     unfold maxLen at hcl2;clear hr2 hok hrf hcl;have HBX5:=ab (heap_alloc_new wo (.cells #[.string it.name, .int .i64 it.kind, .int .i64 it.mode, .int .i64 it.time, .int .i64 it.size, .string it.link, .slice ca it.chunks.length cc, .string it.node.name, .int .i64 it.node.gen, .int .i64 it.node.size] 28));go_wp2_with fail;clear q0 q1 q2 q3 q4 q5 q6 q7 q8 q9
     go_loopw [47] (fun i wq=> ∃(j:Nat) (v3:Value),j<=it.chunks.length/\i= .int .i64 j/\lH w B W2.heap.size w3.heap.size base wb eb sb (.func (.func 83) #[cv] #[]) v (.slice (some ⟨b,o,none⟩) l.length ic) l wq v3 ex2 (bT (it.chunks.take j) rs2)/\aM (fun k=>W2.heap.size<=k/\k<w3.heap.size) wq (.slice ca it.chunks.length cc) it.chunks/\wq.heap[wo.heap.size]? =some (.cells #[.string it.name, .int .i64 it.kind, .int .i64 it.mode, .int .i64 it.time, .int .i64 it.size, .string it.link, .slice ca it.chunks.length cc, .string it.node.name, .int .i64 it.node.gen, .int .i64 it.node.size] 28 (0,0))) (fun i _=>it.chunks.length-(intOf i).toNat)
     case atStart=>exact⟨0,v2,Nat.zero_le _,rfl,HN3.out,HRF.out,HBX5.out⟩
     case round=>
      obtain⟨j,v3,hj,rfl,hin3,hrf3,hbx3⟩:=hrel;have HN4:=ab hin3;have HRF4:=ab hrf3;have HBX6:=ab hbx3;clear hin3 hrf3 hbx3 HN3 HRF HBX5 HAL
      by_cases hlt2:j<it.chunks.length
      ·obtain⟨c,hc⟩: ∃c,it.chunks[j]? =some c:=⟨it.chunks[j],by simp[hlt2]⟩;obtain⟨b2,o2,rfl,hcok,p0,p1,p2⟩:=cR HRF4.out (Below.refl _ _) hc;have HCO:=ab hcok;have HSN:=ab (show bT (it.chunks.take (j+1)) rs2=aH c (bT (it.chunks.take j) rs2) by rw[bh hc,jX]);have hjl:=gE it.chunks rs2 j;have HAL2:=ab ((Below.refl wr.heap.size wr).alloc (Nat.le_refl _) (.cells #[.string c.name, .int .i64 c.gen, .int .i64 c.size] 26))
       have HN5:=ab (HN4.out.below HAL2.out);have hbz:base<=(wr.alloc (.cells #[.string c.name, .int .i64 c.gen, .int .i64 c.size] 26)).heap.size:=Nat.le_trans hbase (Nat.le_trans HN4.out.gr.size HAL2.out.size);have HBZ:=ab hbz;clear hc hcok hbz;go_wp2_with fail;refine(ik base wb eb sb _ v3 ex2 _ c _ HN5.out.at' HCO.out (by omega) HBZ.out).mono ?_;rintro e w4 ⟨rfl,hres⟩;obtain⟨v4,hin4,hg4⟩:=HN5.out.step hres
       have HN6:=ab hin4;have hzz:=HAL2.out.size;have HRF6:=ab (show aM (fun k=>W2.heap.size<=k/\k<w3.heap.size) w4 (.slice (some ⟨b2,o2,none⟩) it.chunks.length cc) it.chunks from aM.same HRF4.out (fun k hk hS=>⟨hS,(hg4.block k (Nat.lt_of_lt_of_le hk hzz) (HN5.out.notown hS)).trans (HAL2.out.block k hk)⟩));have hbk:=cH HBX6.out (.cells #[.string c.name, .int .i64 c.gen, .int .i64 c.size] 26)
       have HBX7:=ab ((hg4.block wo.heap.size ((Array.getElem?_eq_some_iff.1 hbk).1) (HN5.out.at'.notown hbk (by decide) (by decide))).trans hbk);clear hres hin4 hg4 hbk p0 p1 p2;go_wp2_with fail
       go_roundw
       case rel=>exact⟨j+1,v4,by omega,by go_num,by rw[HSN.out]; exact HN6.out,HRF6.out,HBX7.out⟩
       case measure=>simp[intOf]; omega
      ·obtain rfl:j=it.chunks.length:=by omega
       rw[List.take_of_length_le (Nat.le_refl _)]at HN4;have c1:=ah (k:=1) HBX6.out;have c7:=ah (k:=7) HBX6.out;have c8:=ah (k:=8) HBX6.out;have c9:=ah (k:=9) HBX6.out;simp only[aN]at c1 c7 c8 c9
       rcases jt HOV2.out with⟨hk2,h2⟩ | ⟨hk2,y,st2,h1,h2⟩
       ·have e2:(it.kind != 2)=true:=by simp[hk2]
        have H2:=ab h2;clear hk2 h2;go_wp2_with fail
        go_roundw
        case rel=>exact⟨k+1,v3,_,_,by omega,by go_num,H2.out,HN4.out⟩
        case measure=>simp[intOf]; omega
       ·have e2:(it.kind != 2)=false:=by simp[hk2]
        have H1:=ab h1;have H2:=ab h2;have hle2:st2.2.length<=st'.2.length:=by
         rcases h2 with⟨_,h2⟩ | ⟨_,h2⟩
         ·obtain⟨_,rfl⟩:=Prod.mk.inj h2;exact Nat.le_refl _
         ·exact em (eR visit n) _ _ x st' h2
        have HI4:=ab (HI.out w wr HIW.out (fx HN4.out.gr (fun k hk=>mG H.out HB.out hk)));have HBZ:=ab (Nat.le_trans hbase HN4.out.gr.size);clear hk2 h1 h2;go_wp2_with fail;refine(HIH.out it.node (ex2,bT it.chunks rs2) y st2 base wb eb sb v3 wr H1.out (by omega) HN4.out.at' HOK.out.nd HI4.out HB.out HBZ.out).mono ?_;rintro e w4 ⟨rfl,hres⟩;obtain⟨v4,hin4,-⟩:=HN4.out.step hres
        have HN6:=ab hin4;clear hres hin4 c1 c7 c8 c9
        rcases H2.out with⟨hy,h2⟩ | ⟨hy,h2⟩
        ·have e3:(y != 0)=true:=by simp[hy]
         have HRES:=ab h2;clear hy h2;go_wp2_with fail;go_ret;obtain⟨e1,e2⟩:=Prod.mk.inj HRES.out;exact⟨bz e1.symm,v4,by rw[e2]; exact HN6.out.at',HN6.out.gr,HN6.out.own⟩
        ·subst hy;have H3:=ab h2;clear h2;go_wp2_with fail
         go_roundw
         case rel=>exact⟨k+1,v4,st2.1,st2.2,by omega,by go_num,H3.out,HN6.out⟩
         case measure=>simp[intOf]; omega
    ·obtain rfl:k=l.length:=by omega
     have HRES:=ab (show(x,st')=(0,(ex2,rs2)) by have:=HV2.out; rw[List.drop_of_length_le (Nat.le_refl _)]at this; exact(Option.some.inj this).symm);go_wp2_with fail;go_ret;obtain⟨e1,e2⟩:=Prod.mk.inj HRES.out;exact⟨bz e1.symm,v2,by rw[e2]; exact HN2.out.at',HN2.out.gr,HN2.out.own⟩
theorem sF (visit:aG->Except Int (List aE)) (cv:Value) (I:World->Prop) (B:Nat) (hI:ol I B) (hV:ud visit 83 cv I): ∀n,qW visit 83 cv I B n
 | 0=>by intro r st x st' base wb eb sb v w hw; simp[bC]at hw
 | n+1=>yf visit cv I B n hI hV (sF visit cv I B hI hV n)
def dF (visit:aG->Except Int (List aE)) (n:Nat) (root:aG):Option (Except Int (List aG)):=
 if dw root=true then(bC visit n root ([],[])).map fun p=>if p.1=0 then .ok p.2.2 else .error p.1 else some (.error 1)
def eS (res:Except Int (List aG)) (w:World) (e:Ending) (w':World):Prop:=Below w.heap.size w w'/\match res with
 | .error x=>e= .returned (.tuple #[.slice none 0 0, .int .i64 x])/\x≠0
 | .ok rs=> ∃v,e= .returned (.tuple #[v, .int .i64 0])/\aM (w.heap.size<= ·) w' v rs
theorem wC {w:World} {B:Nat} {fv:Value} :fF (((w.alloc (.map #[] 0)).alloc (.map #[] 0)).alloc (.cells #[fv, .map (some w.heap.size), .map (some (w.heap.size+1)), .slice none 0 0] 191)) B (w.heap.size+1+1) w.heap.size (w.heap.size+1) fv (.slice none 0 0) [] []:=by
 have e1:(w.alloc (.map #[] 0)).heap.size=w.heap.size+1:=by simp
 have e2:((w.alloc (.map #[] 0)).alloc (.map #[] 0)).heap.size=w.heap.size+1+1:=by simp
 have h1:=cb.made w;have h2:=cb.made (w.alloc (.map #[] 0));rw[e1]at h2;have h3:=heap_alloc_new ((w.alloc (.map #[] 0)).alloc (.map #[] 0)) (.cells #[fv, .map (some w.heap.size), .map (some (w.heap.size+1)), .slice none 0 0] 191);rw[e2]at h3;refine⟨h3, ?_,h2.same (Below.heap_alloc _ _ _ (by rw[e2]; omega)),World.ownsRow_nil _ _ _ _,by omega⟩;exact h1.same ((Below.heap_alloc _ _ _ (by rw[e2]; omega)).trans (Below.heap_alloc _ _ _ (by rw[e1]; omega)))
theorem xD (visit:aG->Except Int (List aE)) (cv:Value) (I:World->Prop) (n:Nat) (root:aG) (res:Except Int (List aG)) (w:World) (hI:ol I w.heap.size) (hV:ud visit 83 cv I) (hi:I w) (hr:aW root)
  (hn:dF visit n root=some res) (hl: ∀p,bC visit n root ([],[])=some p->p.2.2.length<1099511627775):
  Calls Tryz.prog 94 #[aX root, .func (.func 83) #[cv] #[]] w (eS res w):=by
 have HI:=ab hI;have HV:=ab hV;have HIW:=ab hi;have HR:=ab hr;have HL:=ab hl;have hmm:= @run_makeMap Tryz.prog;have HB0:=ab ((Below.refl w.heap.size w).alloc (Nat.le_refl _) (.cells #[.string root.name, .int .i64 root.gen, .int .i64 root.size] 26));have HBX0:=ab (heap_alloc_new w (.cells #[.string root.name, .int .i64 root.gen, .int .i64 root.size] 26));unfold aX;clear hI hV hi hr hl
 cases hv:dw root
 ·have HRES:=ab (show res= .error 1 by rw[dF,if_neg (by rw[hv]; simp)]at hn; exact(Option.some.inj hn).symm);have HVR:=ab hv;clear hv hn
  go_enter Tryz.func94,Tryz.ntmps94
  go_wp2_with fail;refine(cA root false _ HR.out HVR.out).mono ?_;rintro e w1 ⟨rfl,hb1⟩;have HB1:=ab (ag HB0.out hb1);clear hb1;go_wp2_with fail
  go_ret2
  exact⟨HB1.out,by rw[HRES.out]; exact⟨rfl,by decide⟩⟩
 ·have HVR:=ab hv;obtain⟨⟨x,st⟩,hwp,hres⟩: ∃p,bC visit n root ([],[])=some p/\res=(if p.1=0 then .ok p.2.2 else .error p.1):=by
   rw[dF,if_pos hv,Option.map_eq_some_iff]at hn;obtain⟨p,h1,h2⟩:=hn;exact⟨p,h1,h2.symm⟩
  have HWP:=ab hwp;have HRES:=ab hres;have HLN:=ab (HL.out _ hwp);clear hv hn hwp hres
  go_enter Tryz.func94,Tryz.ntmps94
  go_wp2_with fail;refine(cA root true _ HR.out HVR.out).mono ?_;rintro e w1 ⟨rfl,hb1⟩;have HB1:=ab (ag HB0.out hb1);have hbx1:=(hb1.block w.heap.size (by simp)).trans HBX0.out;have HBX1:=ab hbx1;have hz1:=lt_of_block hbx1;clear hb1 hbx1 HBX0;obtain⟨W,hW⟩: ∃W:World,W=((w1.alloc (.map #[] 0)).alloc (.map #[] 0)).alloc (.cells #[.func (.func 83) #[cv] #[], .map (some w1.heap.size), .map (some (w1.heap.size+1)), .slice none 0 0] 191):=⟨_,rfl⟩
  have HK:=ab (show fF W w.heap.size (w1.heap.size+1+1) w1.heap.size (w1.heap.size+1) (.func (.func 83) #[cv] #[]) (.slice none 0 0) [] [] by rw[hW]; exact wC);have hbw:Below w1.heap.size w1 W:=by rw[hW]; exact(((Below.refl _ _).alloc (Nat.le_refl _) _).alloc (by simp) _).alloc (by simp; omega) _
  have HBW:=ab (ag HB1.out hbw);have HBX2:=ab ((hbw.block w.heap.size hz1).trans HBX1.out);have q0:=ah (k:=0) HBX2.out;have q1:=ah (k:=1) HBX2.out;have q2:=ah (k:=2) HBX2.out;have r0:=ah (k:=0) HBX1.out;have r1:=ah (k:=1) HBX1.out;have r2:=ah (k:=2) HBX1.out;simp only[aN]at q0 q1 q2 r0 r1 r2;have HI2:=ab (HI.out w W HIW.out (bg.of_below HBW.out))
  clear hbw
  go_upto_region 4 with(fail)
  rw[<-hW];clear hW;go_wp2_with fail;refine(sF visit cv I w.heap.size HI.out HV.out n root ([],[]) x st w.heap.size (w1.heap.size+1+1) w1.heap.size (w1.heap.size+1) (.slice none 0 0) W HWP.out HLN.out HK.out HR.out HI2.out ⟨Nat.le_refl _,by omega,by omega,by omega⟩ HBW.out.size).mono ?_;rintro e w2 ⟨rfl,v2,hk2,hg2,ho2⟩;have HK2:=ab hk2;have HB2:=ab (show Below w.heap.size w w2 from HBW.out.trans (hg2.below HBW.out.size (fun k hk=>mG HK.out ⟨Nat.le_refl _,by omega,by omega,by omega⟩ hk)))
  obtain⟨a2,c2,rfl⟩:=hk2.shape;have d3:=ah (k:=3) hk2.box;simp only[aN]at d3;clear hk2 hg2 ho2 q0 q1 q2 r0 r1 r2
  by_cases hx:x=0
  ·subst hx;have HRS:=ab (show res= .ok st.2 by rw[HRES.out]; simp);go_wp2_with fail
   go_ret2
   exact⟨HB2.out,by rw[HRS.out]; exact⟨_,rfl,aM.same (dr HK2.out.row HK2.out.ok) (fun k _ hS=>⟨hS.1,rfl⟩)⟩⟩
  ·have e1:(x != 0)=true:=by simp[hx]
   have HRS:=ab (show res= .error x by rw[HRES.out]; simp[hx]);have HX:=ab hx;clear hx;go_wp2_with fail
   go_ret2
   exact⟨HB2.out,by rw[HRS.out]; exact⟨rfl,HX.out⟩⟩
structure dd (B : Nat) (cv : Value) (cs : List (ByteArray × List UInt8)) (w : World) : Prop where
 cont:bt (· <B) w cv cs
 env:fE w
 lt:1<B/\3<B/\4<B
 size:B<=w.heap.size
theorem aS.lt' {S:Nat->Prop} {w:World} {sz:Nat} {v:Value} {n:Nat} {cells:List Value} (h:aS S w sz v n cells) (hs:0<sz):aS (· <w.heap.size) w sz v n cells:=h.mono (fun _ hk _=>hk) hs
theorem bt.lt {S:Nat->Prop} {w:World} {cv:Value} {cs:List (ByteArray×List UInt8)} (h:bt S w cv cs):bt (· <w.heap.size) w cv cs:=by
 rcases h with h | ⟨b,m,h1,h0,h2,h3⟩
 ·exact .inl h
 ·refine .inr ⟨b,m,h1,h2.lt,h2, ?_⟩;clear h1 h2 h0
  induction m generalizing cs with
  | nil=>cases cs with
   | nil=>trivial
   | cons=>exact h3
  | cons p m ih=>cases cs with
   | nil=>exact h3
   | cons q cs=>exact⟨h3.1,aS.lt' h3.2.1 (by omega),ih h3.2.2⟩
theorem dd.keep {B:Nat} {cv:Value} {cs:List (ByteArray×List UInt8)} :ol (dd B cv cs) B:=by
 intro w w' h hg;have hb:Below B w w':=hg.below h.size (fun k hk=>hk);refine⟨?_,h.env.belowB hb h.lt.1 h.lt.2.1 h.lt.2.2,h.lt,Nat.le_trans h.size hg.size⟩
 rcases h.cont with h1 | ⟨b,m,h1,h0,h2,h3⟩
 ·exact .inl h1
 ·exact .inr ⟨b,m,h1,h0,h2.same (hb.block b h0),h3.mono (fun v bs hv=>aS.same hv (fun k hk=>hb.block k hk))⟩
theorem dd.visit {B:Nat} {cv:Value} {cs:List (ByteArray×List UInt8)} :ud (bG cs) 83 cv (dd B cv cs):=fun W r hI hr=>(lU (· <B) cv cs r W hI.cont hr hI.env).mono fun _ _ h=>h
theorem dd.start {S:Nat->Prop} {w:World} {cv:Value} {cs:List (ByteArray×List UInt8)} (h:bt S w cv cs) (he:fE w):dd w.heap.size cv cs w:=⟨h.lt,he,he.lt,Nat.le_refl _⟩
theorem Di (S:Nat->Prop) (cv:Value) (cs:List (ByteArray×List UInt8)) (n:Nat) (root:aG) (res:Except Int (List aG)) (w:World) (hc:bt S w cv cs) (henv:fE w) (hr:aW root)
  (hn:dF (bG cs) n root=some res) (hl: ∀p,bC (bG cs) n root ([],[])=some p->p.2.2.length<1099511627775):
  Calls Tryz.prog 38 #[aX root,cv] w (eS res w):=by
 have hmf: ∀(fn:Fn) (first cap:Array Value) (w:World),(Instr.makeFunc fn first cap).run Tryz.prog w= .ok (.func fn first cap) w:=fun _ _ _ _=>rfl
 have HB0:=ab ((Below.refl w.heap.size w).alloc (Nat.le_refl _) (.cells #[.string root.name, .int .i64 root.gen, .int .i64 root.size] 26));have HI:=ab (dd.start (hc.below HB0.out) (henv.below HB0.out));have HR:=ab hr;have HN:=ab hn;have HL:=ab hl;unfold aX;clear hc henv hr hn hl
 go_enter Tryz.func38,Tryz.ntmps38
 go_wp2_with fail;refine(xD (bG cs) cv _ n root res _ dd.keep dd.visit HI.out HR.out HN.out HL.out).mono ?_;rintro e w1 ⟨hb1,hres⟩;have HB1:=ab (ag HB0.out hb1);clear hb1
 cases res with
 | error x=>
  obtain⟨rfl,hx⟩:=hres;have HX:=ab hx;clear hx;go_wp2_with fail
  go_ret2
  exact⟨HB1.out,rfl,HX.out⟩
 | ok rs=>
  obtain⟨v,rfl,hv⟩:=hres;have hz:=HB0.out.size;have HV:=ab (show aM (w.heap.size<= ·) w1 v rs from aM.same hv (fun k _ hS=>⟨Nat.le_trans hz hS,rfl⟩));obtain⟨a,cap,rfl,-,-,-⟩:=aL.shape hv fc.len;clear hv;go_wp2_with fail
  go_ret2
  exact⟨HB1.out,_,rfl,HV.out⟩
def mu (cs:List (ByteArray×List UInt8)) (need:aG->Except Int (List aG)):Prop:= ∀r,aW r-> ∃n,dF (bG cs) n r=some (need r)/\ ∀p,bC (bG cs) n r ([],[])=some p->p.2.2.length<=1000000000
theorem mu.refs {cs:List (ByteArray×List UInt8)} {need:aG->Except Int (List aG)} (hn:mu cs need) (S:Nat->Prop) (cv:Value) (root:aG) (w:World) (hc:bt S w cv cs) (henv:fE w) (hr:aW root):Calls Tryz.prog 38 #[aX root,cv] w (eS (need root) w):=by
 obtain⟨n,h1,h2⟩:=hn root hr;exact Di S cv cs n root (need root) w hc henv hr h1 (fun p hp=>by have:=h2 p hp; omega)
theorem mu.le {cs:List (ByteArray×List UInt8)} {need:aG->Except Int (List aG)} (hn:mu cs need) {r:aG} {rs:List aG} (hr:aW r) (h:need r= .ok rs):rs.length<=1000000000:=by
 obtain⟨n,h1,h2⟩:=hn r hr;rw[h,dF]at h1
 split at h1
 ·rw[Option.map_eq_some_iff]at h1;obtain⟨p,h3,h4⟩:=h1
  split at h4
  ·simp only[Except.ok.injEq]at h4;subst h4;exact h2 p h3
  ·simp at h4
 ·simp at h1
theorem iX : ∀ {l U:List aG},l.Nodup->(∀x∈l,x∈U)->l.length<=U.length
 | [],_,_,_=>Nat.zero_le _
 | a::l,U,hn,hs=>by
  obtain⟨h1,h2⟩:=List.nodup_cons.1 hn;have ha:a∈U:=hs a (by simp);have h3:=iX (l:=l) (U:=U.erase a) h2 (fun x hx=>(List.mem_erase_of_ne (fun e=>by subst e; exact h1 hx)).2 (hs x (by simp[hx])));have h4:=List.length_erase_of_mem ha;have h5:0<U.length:=List.length_pos_of_mem ha;simp only[List.length_cons];omega
def jS (it:aE):List aG:=it.chunks++[it.node]
def FZ (l:List aE):List aG:=l.flatMap jS
def iB (cs:List (ByteArray×List UInt8)):List aG:=cs.flatMap fun p=>match bE p.2 with
 | some l=>FZ l
 | none=>[]
theorem zO {cs:List (ByteArray×List UInt8)} {n:ByteArray} {bs:List UInt8} (h:cV cs n=some bs): ∃k,(k,bs)∈cs:=by
 induction cs with
 | nil=>simp[cV]at h
 | cons p cs ih=>
  obtain⟨k,b⟩:=p;simp only[cV]at h
  split at h
  ·simp only[Option.some.injEq]at h; subst h; exact⟨k,by simp⟩
  ·obtain⟨k',hk⟩:=ih h;exact⟨k',by simp[hk]⟩
theorem rS {cs:List (ByteArray×List UInt8)} {r:aG} {l:List aE} (h:bG cs r= .ok l): ∃k bs,(k,bs)∈cs/\bE bs=some l:=by
 unfold bG at h
 cases hc:cC cs r with
 | error x=>rw[hc]at h; simp at h
 | ok bs=>
  rw[hc]at h;simp only at h
  cases hi:bE bs with
  | none=>rw[hi]at h; simp at h
  | some l'=>
   rw[hi]at h;simp only[Except.ok.injEq]at h;subst h;unfold cC at hc
   cases hf:cV cs r.name with
   | none=>rw[hf]at hc; simp at hc
   | some b=>
    rw[hf]at hc;simp only at hc
    split at hc
    ·simp only[Except.ok.injEq]at hc; subst hc;obtain⟨k,hk⟩:=zO hf;exact⟨k,b,hk,hi⟩
    ·simp at hc
theorem pI {cs:List (ByteArray×List UInt8)} {r:aG} {l:List aE} (h:bG cs r= .ok l) {it:aE} (hit:it∈l): ∀c∈jS it,c∈iB cs:=fun c hc=>by
 obtain⟨k,bs,h1,h2⟩:=rS h;refine List.mem_flatMap.2 ⟨(k,bs),h1, ?_⟩;simp only[h2];exact List.mem_flatMap.2 ⟨it,hit,hc⟩
structure mw (U : List aG) (st : List aG × List aG) : Prop where
 e1:st.1.Nodup
 e2: ∀x∈st.1,x∈U
 l1:st.2.Nodup
 l2: ∀x∈st.2,x∈U
theorem gF {r:aG} {rs:List aG} (h:rs.Nodup):(aH r rs).Nodup:=by
 unfold aH
 split
 ·exact h
 ·rename_i hm;exact List.nodup_append.2 ⟨h,by simp,fun a ha b hb e=>by simp only[List.mem_singleton]at hb; subst hb e; exact hm ha⟩
theorem jq {r x:aG} {rs:List aG} :x∈aH r rs<->x∈rs\/x=r:=by
 unfold aH
 split
 ·rename_i hm;exact⟨.inl,fun h=>by rcases h with h | rfl; exact h; exact hm⟩
 ·simp
theorem lS : ∀(cs:List aG) {rs:List aG},rs.Nodup->(bT cs rs).Nodup
 | [],_,h=>h
 | _c::cs,_,h=>lS cs (gF h)
theorem pG : ∀(cs:List aG) {rs:List aG} {x:aG},x∈bT cs rs<->x∈rs\/x∈cs
 | [],rs,x=>by simp[bT]
 | c::cs,rs,x=>by
  show x∈bT cs (aH c rs)<->_
  rw[pG cs,jq,List.mem_cons,or_assoc]
theorem mw.men {U:List aG} {st:List aG×List aG} (h:mw U st) {cs:List aG} (hc: ∀c∈cs,c∈U):mw U (st.1,bT cs st.2):=
 ⟨h.e1,h.e2,lS cs h.l1,fun x hx=>by
  rcases(pG cs).1 hx with hx | hx
  ·exact h.l2 x hx
  ·exact hc x hx⟩
def BP (U:List aG) (f:aG->List aG×List aG->Option (Int×(List aG×List aG))) (n:Nat):Prop:= ∀r st,r∈U->mw U st->U.length<n+st.1.length-> ∃x st',f r st=some (x,st')/\mw U st'/\st.1.length<=st'.1.length
theorem ju {U:List aG} {f:aG->List aG×List aG->Option (Int×(List aG×List aG))} {n:Nat} (hf:BP U f n):
  ∀(l:List aE) (st:List aG×List aG),(∀it∈l,∀c∈jS it,c∈U)->mw U st->U.length<n+st.1.length-> ∃x st',dG f l st=some (x,st')/\mw U st'/\st.1.length<=st'.1.length
 | [],st,_,hi,_=>⟨0,st,rfl,hi,Nat.le_refl _⟩
 | it::l,st,hl,hi,hn=>by
  have hi2:=hi.men (cs:=it.chunks) (fun c hc=>hl it (by simp) _ (by simp[jS,hc]));rw[dG]
  split
  ·exact ju hf l _ (fun x hx=>hl x (by simp[hx])) hi2 hn
  ·obtain⟨x,st2,h1,h2,h3⟩:=hf it.node _ (hl it (by simp) _ (by simp[jS])) hi2 hn;rw[h1,Option.bind_some];simp only at h3
   split
   ·exact⟨x,st2,rfl,h2,h3⟩
   ·obtain⟨y,st3,k1,k2,k3⟩:=ju hf l st2 (fun x hx=>hl x (by simp[hx])) h2 (by omega);exact⟨y,st3,k1,k2,Nat.le_trans h3 k3⟩
theorem qo {cs:List (ByteArray×List UInt8)} {U:List aG} (hU: ∀c∈iB cs,c∈U): ∀n,BP U (bC (bG cs) n) n
 | 0=>fun r st hr hi hn=>by
  have:=iX hi.e1 hi.e2;omega
 | n+1=>fun r st hr hi hn=>by
  have hm:mw U (st.1,aH r st.2):=⟨hi.e1,hi.e2,gF hi.l1,fun x hx=>by
   rcases jq.1 hx with hx | rfl
   ·exact hi.l2 x hx
   ·exact hr⟩
  rw[bC]
  split
  ·exact⟨0,_,rfl,hm,Nat.le_refl _⟩
  ·rename_i hne;have he:mw U (st.1++[r],aH r st.2):=⟨List.nodup_append.2 ⟨hi.e1,by simp,fun a ha b hb e=>by simp only[List.mem_singleton]at hb; subst hb e; exact hne ha⟩,fun x hx=>by
    rcases List.mem_append.1 hx with hx | hx
    ·exact hi.e2 x hx
    ·simp only[List.mem_singleton]at hx; subst hx; exact hr,hm.l1,hm.l2⟩
   cases hv:bG cs r with
   | error x=>exact⟨x,_,rfl,he,by simp⟩
   | ok l=>
    obtain⟨x,st',h1,h2,h3⟩:=ju (qo hU n) l (st.1++[r],aH r st.2) (fun it hit c hc=>hU c (pI hv hit c hc)) he (by simp; omega);exact⟨x,st',h1,h2,by simp at h3; omega⟩
def gB (cs:List (ByteArray×List UInt8)):Nat:=(iB cs).length+2
def jF (cs:List (ByteArray×List UInt8)) (r:aG):Except Int (List aG):=(dF (bG cs) (gB cs) r).getD (.error 0)
theorem sH (cs:List (ByteArray×List UInt8)) (r:aG): ∃x st',bC (bG cs) (gB cs) r ([],[])=some (x,st')/\mw (r::iB cs) st':=by
 obtain⟨x,st',h1,h2,_⟩:=qo (cs:=cs) (U:=r::iB cs) (fun c hc=>by simp[hc]) (gB cs) r ([],[]) (by simp) ⟨by simp,by simp,by simp,by simp⟩ (by simp[gB]);exact⟨x,st',h1,h2⟩
theorem zJ {data:List UInt8} {s s1:RS} {it:aE} (h:dY data s=some (it,s1)):it.chunks.length<=963:=by
 unfold dY eL at h
 split at h
 ·simp only[Option.some.injEq,Prod.mk.injEq]at h;obtain⟨rfl,_⟩:=h;simp only[oI];exact oN _ _ _
 ·split at h
  ·simp only[Option.some.injEq,Prod.mk.injEq]at h;obtain⟨rfl,_⟩:=h;simp
  ·split at h
   ·simp only[Option.some.injEq,Prod.mk.injEq]at h;obtain⟨rfl,_⟩:=h;simp
   ·simp at h
theorem rJ {data:List UInt8} {s0:RS} : ∀ {k:Nat} {l:List aE} {s:RS},ei data s0 k=some (l,s)->l.length=k/\ ∀it∈l,it.chunks.length<=963
 | 0,l,s,h=>by
  simp only[ei,Option.some.injEq,Prod.mk.injEq]at h;obtain⟨rfl,_⟩:=h;exact⟨rfl,by simp⟩
 | k+1,l,s,h=>by
  rw[fJ,Option.bind_eq_some_iff]at h;obtain⟨⟨l0,s1⟩,h1,h2⟩:=h;rw[Option.map_eq_some_iff]at h2;obtain⟨⟨it,s2⟩,h3,h4⟩:=h2;simp only[Prod.mk.injEq]at h4;obtain⟨rfl,_⟩:=h4;obtain⟨k1,k2⟩:=rJ h1;refine⟨by simp[k1],fun x hx=> ?_⟩
  rcases List.mem_append.1 hx with hx | hx
  ·exact k2 x hx
  ·simp only[List.mem_singleton]at hx; subst hx; exact zJ h3
theorem rL {data:List UInt8} {l:List aE} (h:bE data=some l):l.length<=4096/\ ∀it∈l,it.chunks.length<=963:=by
 unfold bE at h
 split at h
 ·simp at h
 ·rw[Option.bind_eq_some_iff]at h;obtain⟨⟨l0,s1⟩,h1,h2⟩:=h
  split at h2
  ·simp only[Option.some.injEq]at h2;subst h2;obtain⟨k1,k2⟩:=rJ h1;exact⟨by rw[k1]; exact oN _ _ _,k2⟩
  ·simp at h2
theorem fI {α β:Type} (f:α->List β) (m:Nat): ∀(l:List α),(∀x∈l,(f x).length<=m)->(l.flatMap f).length<=l.length*m
 | [],_=>by simp
 | a::l,h=>by
  have h1:=fI f m l (fun x hx=>h x (by simp[hx]));have h2:=h a (by simp);rw[List.flatMap_cons,List.length_append,List.length_cons,Nat.succ_mul];omega
theorem ro {cs:List (ByteArray×List UInt8)} :(iB cs).length<=cs.length*3948544:=fI _ _ cs (fun p _=>by
 cases h:bE p.2 with
 | none=>simp
 | some l=>
  obtain⟨h1,h2⟩:=rL h;simp only;have h3:=fI jS 964 l (fun it hit=>by have:=h2 it hit; simp[jS]; omega);exact Nat.le_trans h3 (Nat.le_trans (Nat.mul_le_mul_right 964 h1) (by decide)))
theorem vC {cs:List (ByteArray×List UInt8)} (h:cs.length<=80):mu cs (jF cs):=fun r _=>by
 obtain⟨x,st',h1,h2⟩:=sH cs r;refine⟨gB cs, ?_,fun p hp=> ?_⟩
 ·unfold jF;have: ∃y,dF (bG cs) (gB cs) r=some y:=by
   unfold dF
   split
   ·rw[h1]; exact⟨_,rfl⟩
   ·exact⟨_,rfl⟩
  obtain⟨y,hy⟩:=this;rw[hy]; rfl
 ·rw[h1]at hp;simp only[Option.some.injEq]at hp;subst hp;have h3:=iX h2.l1 h2.l2;have h4:=ro (cs:=cs);have h5:cs.length*3948544<=80*3948544:=Nat.mul_le_mul_right _ h;simp only[List.length_cons]at h3;simp only;omega
theorem vB {cs:List (ByteArray×List UInt8)} {r:aG} {l:List aG} (h:jF cs r= .ok l) (hv:dw r=true):l.Nodup:=by
 obtain⟨x,st',h1,h2⟩:=sH cs r;unfold jF dF at h;rw[if_pos hv,h1]at h;simp only[Option.map_some,Option.getD_some]at h
 split at h
 ·simp only[Except.ok.injEq]at h; subst h; exact h2.l1
 ·simp at h
theorem CI {cs:List (ByteArray×List UInt8)} {r:aG} {l:List aG} (h:jF cs r= .ok l):l.Nodup:=by
 cases hv:dw r
 ·unfold jF dF at h;rw[if_neg (by rw[hv]; simp)]at h;simp at h
 ·exact vB h hv
theorem pJ {cs:List (ByteArray×List UInt8)} {r:aG} {l:List aE} (h:bG cs r= .ok l):l.length<=4096/\cd l=true/\ ∀it∈l,it.chunks.length<=963:=by
 obtain⟨k,bs,_,h2⟩:=rS h;have h3:=rL h2;refine⟨h3.1, ?_,h3.2⟩;unfold bE at h2
 split at h2
 ·simp at h2
 ·rw[Option.bind_eq_some_iff]at h2;obtain⟨⟨l0,s1⟩,_,h4⟩:=h2
  split at h4
  ·rename_i h5;simp only[Option.some.injEq]at h4;subst h4;exact h5.2
  ·simp at h4
open Go Go.RowKit
def eT (w:World) (base eb:Nat) (v:Value) (acc:List bD):Prop:=
 w.heap[eb]? =some (.cells #[v] 46 (0,0))/\ ∃ys:List ji,ys.map Prod.snd=acc/\w.ownsRow base 79 6 v ys.length (df ys)/\ ∀y∈ys,w.ownsRow base 5 1 y.1 y.2.data.length (y.2.data.map au)
structure kT (base eb : Nat) (v v' : Value) (w w' : World) : Prop where
 below:Below base w w'
 same: ∀k,k<w.heap.size->k≠eb->v.ownBlock≠some k->w'.heap[k]? =w.heap[k]?
 place: ∀k,v'.ownBlock=some k->v.ownBlock=some k\/w.heap.size<=k
theorem kT.refl (base eb:Nat) (v:Value) (w:World):kT base eb v v w w:=⟨Below.refl _ _,fun _ _ _ _=>rfl,fun _ h=> .inl h⟩
theorem kT.trans {base eb:Nat} {v v1 v2:Value} {A B C:World} (h:kT base eb v v1 A B) (k:kT base eb v1 v2 B C) (hs:A.heap.size<=B.heap.size):kT base eb v v2 A C:=
 ⟨h.below.trans k.below,fun i h1 h2 h3=>(k.same i (by omega) h2 (fun e=>by
  rcases h.place i e with e2 | e2
  ·exact h3 e2
  ·omega)).trans (h.same i h1 h2 h3),fun i e=>by
  rcases k.place i e with e2 | e2
  ·exact h.place i e2
  ·exact .inr (by omega)⟩
theorem kT.ofBelow {base eb:Nat} {v:Value} {w w':World} (h:Below w.heap.size w w') (hb:base<=w.heap.size):kT base eb v v w w':=⟨h.mono hb,fun k h1 _ _=>h.block k h1,fun _ e=> .inl e⟩
theorem eT.below {w w':World} {base eb:Nat} {v:Value} {acc:List bD} (h:eT w base eb v acc) (hb:Below w.heap.size w w'):eT w' base eb v acc:=by
 obtain⟨h1,ys,h2,h3,h4⟩:=h;exact⟨(hb.block _ (lt_of_block h1)).trans h1,ys,h2,bm h3 hb,fun y hy=>bm (h4 y hy) hb⟩
theorem aO {w:World} {k:Nat} {cs cs':Array Value} {t t':TypeId} {z z':Nat×Nat} (h:w.heap[k]? =some (.cells cs t z)) (h':w.heap[k]? =some (.cells cs' t' z')):t=t':=by
 have:=h.symm.trans h';simp at this;exact this.2.1
theorem dz {w w':World} {base sz n:Nat} {e:TypeId} {v:Value} {xs:List Value} (h:w.ownsRow base e sz v n xs) (hs: ∀k,k<w.heap.size->v.ownBlock=some k->w'.heap[k]? =w.heap[k]?):w'.ownsRow base e sz v n xs:=by
 obtain⟨hl,h2⟩:=h;refine⟨hl, ?_⟩
 rcases h2 with h2 | ⟨g,cap,cur,rfl,hg,hh,h3⟩
 ·exact .inl h2
 ·exact .inr ⟨g,cap,cur,rfl,hg,(hs g (lt_of_block hh) rfl).trans hh,h3⟩
theorem eT.push {w w2:World} {base eb:Nat} {v v' dv:Value} {ys:List ji} {e:bD} (hx:w.heap[eb]? =some (.cells #[v] 46 (0,0))) (hr:w.ownsRow base 79 6 v ys.length (df ys)) (hd: ∀y∈ys,w.ownsRow base 5 1 y.1 y.2.data.length (y.2.data.map au)) (hn:w.ownsRow base 5 1 dv e.data.length (e.data.map au))
  (hown:w2.ownsRow base 79 6 v' (ys.length+1) (df ys++oX dv e)) (hg:w.grownBy w2 v.ownBlock) (hpl: ∀k,v'.ownBlock=some k->v.ownBlock=some k\/w.heap.size<=k) (hbe:base<=eb) (hbz:base<=w.heap.size):
  eT (w2.setCell ⟨eb,0,none⟩ v') base eb v' (ys.map Prod.snd++[e])/\kT base eb v v' w (w2.setCell ⟨eb,0,none⟩ v'):=by
 have hlt:=lt_of_block hx;have hne:v.ownBlock≠some eb:=fun h=>by
  obtain⟨cs,hc⟩:=az hr h;exact absurd (aO hx hc) (by decide)
 have hne':v'.ownBlock≠some eb:=fun h=>by
  rcases hpl eb h with h | h
  ·exact hne h
  ·omega
 have hb2:=(hg.block eb hlt (fun h=>hne h.symm)).trans hx;have hdat: ∀(u:Value) (bs:List UInt8),w.ownsRow base 5 1 u bs.length (bs.map au)->(w2.setCell ⟨eb,0,none⟩ v').ownsRow base 5 1 u bs.length (bs.map au):=by
  intro u bs h;refine dz h (fun k hk hu=> ?_);obtain⟨cs,hc⟩:=az h hu;rw[Below.heap_setCell _ _ _ _ (show k≠eb from fun e=>absurd (aO (e▸hc) hx) (by decide))];refine hg.block k hk (fun e=> ?_);obtain⟨cs2,hc2⟩:=az hr e.symm;exact absurd (aO hc hc2) (by decide)
 refine⟨⟨?_,ys++[(dv,e)],by simp, ?_,fun y hy=> ?_⟩,⟨?_,fun k hk h1 h2=> ?_,hpl⟩⟩
 ·have:=cI (k:=0) hb2 v'
  simpa using this
 ·rw[List.length_append,List.length_singleton,oY];exact hown.kept (aF _ _ _ _) (.inr (fun h=>hne' h))
 ·rcases List.mem_append.1 hy with hy | hy
  ·exact hdat _ _ (hd y hy)
  ·rw[List.mem_singleton]at hy;subst hy;exact hdat _ _ hn
 ·exact((Below.refl base w).grown hg hbz (fun k hk=>(hr.lt k hk).1)).grown (aF w2 eb 0 v') (Nat.le_trans hbz hg.size) (fun k hk=>by cases hk; exact hbe)
 ·rw[Below.heap_setCell _ _ _ _ (show k≠eb from h1)];exact hg.block k hk (fun e=>h2 e.symm)
structure nE (w : World) (h5 h6 base eb : Nat) (v itv : Value) (l : List aE) (wr : World) (v2 : Value) (acc : List bD) : Prop where
 box:eT wr base eb v2 acc
 kp:kT base eb v v2 w wr
 apart: ∀k,v2.ownBlock=some k->k<h5\/h6<=k
 lo:eb<h5
 ord:w.heap.size<=h5/\h5<=h6/\h6<=wr.heap.size
 its:ba (fun k=>h5<=k/\k<h6) wr itv l
theorem nE.step {w wr w':World} {h5 h6 base eb:Nat} {v itv v2 v3:Value} {l:List aE} {acc acc3:List bD} (h:nE w h5 h6 base eb v itv l wr v2 acc) (h1:eT w' base eb v3 acc3) (h2:kT base eb v2 v3 wr w'):nE w h5 h6 base eb v itv l w' v3 acc3:=by
 have ho:=h.ord;have hl:=h.lo;have hz:=h2.below.size;refine⟨h1,h.kp.trans h2 (by omega),fun k hk=> ?_,hl,⟨ho.1,ho.2.1,by omega⟩,h.its.same (fun k hk hS=>h2.same k hk (by omega) (fun e=> ?_))⟩
 ·rcases h2.place k hk with e | e
  ·exact h.apart k e
  ·exact .inr (by omega)
 ·have:=h.apart k e;omega
theorem nE.below {w wr w':World} {h5 h6 base eb:Nat} {v itv v2:Value} {l:List aE} {acc:List bD} (h:nE w h5 h6 base eb v itv l wr v2 acc) (hb:Below wr.heap.size wr w') (hbz:base<=wr.heap.size):nE w h5 h6 base eb v itv l w' v2 acc:=
 h.step (h.box.below hb) (kT.ofBelow hb hbz)
theorem Dv {w:World} {b:Nat} {a0 a1 a2 x0 x1 x2:Value} {t:TypeId} (h:w.heap[b]? =some (.cells #[a0,a1,a2] t (0,0))):
  (((w.setCell ⟨b,0,none⟩ x0).setCell ⟨b,1,none⟩ x1).setCell ⟨b,2,none⟩ x2).heap[b]? =some (.cells #[x0,x1,x2] t (0,0)):=by
 have:=cI (k:=2) (cI (k:=1) (cI (k:=0) h x0) x1) x2
 simpa using this
theorem Dt {w:World} {b:Nat} {a0 a1 a2 a3 a4 a5 a6 a7 a8 a9 x0 x1 x2 x3 x4 x5 x6 x7 x8 x9:Value} {t:TypeId} (h:w.heap[b]? =some (.cells #[a0,a1,a2,a3,a4,a5,a6,a7,a8,a9] t (0,0))):
  ((((((((((w.setCell ⟨b,0,none⟩ x0).setCell ⟨b,1,none⟩ x1).setCell ⟨b,2,none⟩ x2).setCell ⟨b,3,none⟩ x3).setCell ⟨b,4,none⟩ x4).setCell ⟨b,5,none⟩ x5).setCell ⟨b,6,none⟩ x6).setCell ⟨b,7,none⟩ x7).setCell ⟨b,8,none⟩ x8).setCell ⟨b,9,none⟩ x9).heap[b]? =some (.cells #[x0,x1,x2,x3,x4,x5,x6,x7,x8,x9] t (0,0)):=by
 have:=cI (k:=9) (cI (k:=8) (cI (k:=7) (cI (k:=6) (cI (k:=5) (cI (k:=4) (cI (k:=3) (cI (k:=2) (cI (k:=1) (cI (k:=0) (h) x0) x1) x2) x3) x4) x5) x6) x7) x8) x9
 simpa using this
theorem dm {B b:Nat} {a w:World} {x0 x1 x2:Value} (h:Below B a w) (hb:B<=b):Below B a (((w.setCell ⟨b,0,none⟩ x0).setCell ⟨b,1,none⟩ x1).setCell ⟨b,2,none⟩ x2):=(Below.setCell (Below.setCell (Below.setCell h hb x0) hb x1) hb x2)
theorem dC {B b:Nat} {a w:World} {x0 x1 x2 x3 x4 x5 x6 x7 x8 x9:Value} (h:Below B a w) (hb:B<=b):Below B a ((((((((((w.setCell ⟨b,0,none⟩ x0).setCell ⟨b,1,none⟩ x1).setCell ⟨b,2,none⟩ x2).setCell ⟨b,3,none⟩ x3).setCell ⟨b,4,none⟩ x4).setCell ⟨b,5,none⟩ x5).setCell ⟨b,6,none⟩ x6).setCell ⟨b,7,none⟩ x7).setCell ⟨b,8,none⟩ x8).setCell ⟨b,9,none⟩ x9):=(Below.setCell (Below.setCell (Below.setCell (Below.setCell (Below.setCell (Below.setCell (Below.setCell (Below.setCell (Below.setCell (Below.setCell h hb x0) hb x1) hb x2) hb x3) hb x4) hb x5) hb x6) hb x7) hb x8) hb x9)
theorem bO {b k:Nat} {w:World} {x0 x1 x2:Value} (hk:k≠b):(((w.setCell ⟨b,0,none⟩ x0).setCell ⟨b,1,none⟩ x1).setCell ⟨b,2,none⟩ x2).heap[k]? =w.heap[k]? :=(Below.heap_setCell _ _ _ _ hk).trans ((Below.heap_setCell _ _ _ _ hk).trans (Below.heap_setCell _ _ _ _ hk))
theorem ll {b k:Nat} {w:World} {x0 x1 x2 x3 x4 x5 x6 x7 x8 x9:Value} (hk:k≠b):((((((((((w.setCell ⟨b,0,none⟩ x0).setCell ⟨b,1,none⟩ x1).setCell ⟨b,2,none⟩ x2).setCell ⟨b,3,none⟩ x3).setCell ⟨b,4,none⟩ x4).setCell ⟨b,5,none⟩ x5).setCell ⟨b,6,none⟩ x6).setCell ⟨b,7,none⟩ x7).setCell ⟨b,8,none⟩ x8).setCell ⟨b,9,none⟩ x9).heap[k]? =w.heap[k]? :=(Below.heap_setCell _ _ _ _ hk).trans ((Below.heap_setCell _ _ _ _ hk).trans ((Below.heap_setCell _ _ _ _ hk).trans ((Below.heap_setCell _ _ _ _ hk).trans ((Below.heap_setCell _ _ _ _ hk).trans ((Below.heap_setCell _ _ _ _ hk).trans ((Below.heap_setCell _ _ _ _ hk).trans ((Below.heap_setCell _ _ _ _ hk).trans ((Below.heap_setCell _ _ _ _ hk).trans (Below.heap_setCell _ _ _ _ hk)))))))))
def pi (c:ByteArray):List aE->Nat->Int
 | [],_=> -1
 | x::t,k=>if x.name=c then(k:Int)else pi c t (k+1)
theorem rG {c:ByteArray} {l:List aE} {k:Nat} {x:aE} (h:l[k]? =some x):pi c (l.drop k) k=if x.name=c then(k:Int)else pi c (l.drop (k+1)) (k+1):=by
 obtain⟨hk,rfl⟩:=List.getElem?_eq_some_iff.1 h;rw[List.drop_eq_getElem_cons hk,pi]
theorem rH (c:ByteArray): ∀(l:List aE) (k:Nat),(l.find? (fun y=>decide (y.name=c))=none/\pi c l k= -1)\/ ∃(j:Nat) (y:aE),l[j]? =some y/\l.find? (fun y=>decide (y.name=c))=some y/\pi c l k=((k+j:Nat):Int)
 | [],_=> .inl ⟨rfl,rfl⟩
 | x::t,k=>by
  by_cases h:x.name=c
  ·exact .inr ⟨0,x,rfl,by rw[List.find?_cons_of_pos (by simp[h])],by rw[pi,if_pos h]; rfl⟩
  ·rw[List.find?_cons_of_neg (by simp[h]),pi,if_neg h]
   rcases rH c t (k+1)with⟨h1,h2⟩ | ⟨j,y,h1,h2,h3⟩
   ·exact .inl ⟨h1,h2⟩
   ·exact .inr ⟨j+1,y,by simpa using h1,h2,by rw[h3]; congr 1; omega⟩
theorem rQ (it:aE) (cv:Value) (c:ByteArray) (pb:Nat) (w:World) (hc:w.cell? ⟨pb,0,none⟩=some (.string c)):
  Calls Tryz.prog 85 #[iT cv it, .pointer (some ⟨pb,0,none⟩)] w fun e w'=>e= .returned (.bool (decide (it.name=c)))/\Below w.heap.size w w':=by
 have hlt:=aR hc;simp only at hlt;have hne: ¬pb=w.heap.size:=by omega
 unfold iT
 go_enter Tryz.func85,Tryz.ntmps85
 go_wp2_with fail;go_ret;refine⟨an ?_,(Below.refl _ _).alloc (Nat.le_refl _) _⟩;rw[Bool.eq_iff_iff];simp only[cO,beq_iff_eq,decide_eq_true_eq];exact⟨fun h=>ft h,fun h=>by rw[h]⟩
theorem qA (S:Nat->Prop) (l:List aE) (c:ByteArray) (pb:Nat) (v:Value) (w:World) (hv:ba S w v l) (hc:w.cell? ⟨pb,0,none⟩=some (.string c)):
  Calls Tryz.prog 84 #[v, .func (.func 85) #[] #[.pointer (some ⟨pb,0,none⟩)]] w fun e w'=>e= .returned (.int .i64 (pi c l 0))/\Below w.heap.size w w':=by
 obtain⟨a,cap,rfl,hcp,hm,-⟩:=aL.shape hv dO.len;unfold maxLen at hm;have HV:=ab hv;have HC:=ab hc;clear hv hc
 go_enter Tryz.func84,Tryz.ntmps84
 go_wp2_with fail
 go_loopw [8] (fun i wr=> ∃k:Nat,k<=l.length/\i= .int .i64 k/\Below w.heap.size w wr/\pi c l 0=pi c (l.drop k) k) (fun i _=>l.length-(intOf i).toNat)
 case atStart=>exact⟨0,Nat.zero_le _,rfl,Below.refl _ _,rfl⟩
 case round=>
  obtain⟨k,hk,rfl,hb,hd⟩:=hrel;have HB:=ab hb;have HD:=ab hd;clear hb hd
  by_cases hlt:k<l.length
  ·obtain⟨it,hr⟩: ∃it,l[k]? =some it:=⟨l[k],by simp[hlt]⟩;obtain⟨b,o,ca,cc,rfl,-,-,hbl,-,hcl⟩:=dy HV.out HB.out hr;have q0:=hcl 0 (by omega);have q1:=hcl 1 (by omega);have q2:=hcl 2 (by omega);have q3:=hcl 3 (by omega);have q4:=hcl 4 (by omega);have q5:=hcl 5 (by omega);have q6:=hcl 6 (by omega);have q7:=hcl 7 (by omega);have q8:=hcl 8 (by omega);have q9:=hcl 9 (by omega)
   simp only[cP,Bw,Nat.add_zero]at q0 q1 q2 q3 q4 q5 q6 q7 q8 q9;have HC2:=ab ((HB.out.cell (p:=⟨pb,0,none⟩) (aR HC.out)).trans HC.out);have HR:=ab hr;clear hcl hr
   by_cases hin:it.name=c
   ·have HIN:=ab hin;clear hin;go_wp2_with (go_at_call 85; refine(rQ it (.slice ca it.chunks.length cc) c pb _ HC2.out).mono ?_; rintro e w1 ⟨rfl,hb1⟩; rw[decide_eq_true HIN.out]; have HB1:=ab hb1; clear hb1);go_ret;exact⟨bz (by rw[HD.out,rG HR.out,if_pos HIN.out]),ag HB.out HB1.out⟩
   ·have HIN:=ab hin;clear hin;go_wp2_with (go_at_call 85; refine(rQ it (.slice ca it.chunks.length cc) c pb _ HC2.out).mono ?_; rintro e w1 ⟨rfl,hb1⟩; rw[decide_eq_false HIN.out]; have HB1:=ab hb1; clear hb1)
    go_roundw
    case rel=>exact⟨k+1,by omega,by go_num,ag HB.out HB1.out,by rw[HD.out,rG HR.out,if_neg HIN.out]⟩
    case measure=>simp[intOf]; omega
  ·go_wp2_with fail;go_ret;exact⟨bz (by rw[HD.out,List.drop_eq_nil_of_le (by omega)]; rfl),HB.out⟩
end Go.Proofs.YtpffpjbkbaleiaaGreatDoor
namespace Go.Proofs.YtpffpjbkbaleiaaGreatDoor
open Go.RowKit
theorem uA (a:Option Addr) (c:Nat) (w:World):(convert 29 9 (.slice a 0 c)).run Tryz.prog w= .ok (.string ⟨#[]⟩) w:=by cases a<;> kernel_rfl
theorem zL {S:Nat->Prop} {w:World} {v:Value} {bs:List UInt8} (hd:bH S w v bs):(convert 29 9 v).run Tryz.prog w= .ok (.string (strOfNums (bs.map fun b=>(b.toNat:Int)))) w:=by
 obtain⟨_,a,cap,rfl,hn,hm,h0⟩:=hd
 rcases h0 with h0 | ⟨b,o,rfl,_,hc⟩
 ·obtain rfl:=List.eq_nil_of_length_eq_zero h0;exact uA a cap w
 ·exact run_convert_bytes_arg (P:=Tryz.prog) w 29 5 Tryz.underlying29 Tryz.underlying5 b o bs.length cap (bs.map fun b=>(b.toNat:Int)) (by simp) (fun i hi=>by
   rw[hc i (u8V bs[i]) (by simp[hi])];simp[u8V,List.getD,hi]) 9 Tryz.underlying9
open Go.RowKit Go.Maps
theorem eO (p q:ByteArray) (w:World) (he:fE w) (hv:bo (bl p)=true) (hq:q=⟨(aT (bl p)).toArray⟩):
  Calls Tryz.prog 72 #[.string p] w fun e w'=>e= .returned (.tuple #[.string q, .bool true])/\Below w.heap.size w w':=by
 rw[hq]; exact xG p w he hv
theorem nW (q:ByteArray):q.toList.isEmpty=decide (bl q=[]):=by rw[cO,Bool.eq_iff_iff]; simp
theorem kH (S:Nat->Prop) (en:bD) (v:Value) (b:Bool) (w:World) (hd:bH S w v en.data) (hok:gS en) (henv:fE w) (h:iJ en=b):Calls Tryz.prog 117 #[FN v en] w fun e w'=>e= .returned (.bool b)/\Below w.heap.size w w':=by
 rw[<-h]; exact xZ S en v w hd hok henv
theorem rf : ∀ {m pre:List bD} (r:List bD),Tr (pre++m)->iA pre (m++r)=iA (pre++m) r
 | [],pre,r,_=>by simp
 | e::m,pre,r,h=>by
  have h1:Tr (pre++[e]):=Tr.pre (M:=m) (by simpa using h);have h2:=(jK h1.pre e).2 h1;have h3:=rf (m:=m) (pre:=pre++[e]) r (by simpa using h);rw[List.cons_append,iA,if_pos h2,h3];simp
theorem un {L:List bD} (hl:L.length<=4096) {k:Nat} (h:Tr (L.take k)):cX L=iA (L.take k) (L.drop k):=by
 have h1:=rf (m:=L.take k) (pre:=[]) (L.drop k) (by simpa using h);rw[List.take_append_drop,List.nil_append]at h1;unfold cX;rw[if_neg (by omega),h1]
theorem ru {α:Type} {L:List α} {k:Nat} {e:α} (h:L[k]? =some e):L.drop k=e::L.drop (k+1):=by
 obtain⟨h1,h2⟩:=List.getElem?_eq_some_iff.1 h;rw[List.drop_eq_getElem_cons h1,h2]
theorem fu {L:List bD} (hl:L.length<=4096) {k:Nat} (h:Tr (L.take k)) {e:bD} (he:L[k]? =some e) {x:Int} (hx:cQ (L.take k) e=x) (h0:x≠0):cX L=x:=by
 rw[un hl h,ru he,iA,hx,if_neg h0]
theorem jl {L:List bD} {k:Nat} (h:Tr (L.take k)) {e:bD} (he:L[k]? =some e) (hx:cQ (L.take k) e=0):Tr (L.take (k+1)):=by
 rw[List.take_add_one,he];exact(jK h e).1 hx
theorem wP {L:List bD} (hl:L.length<=4096) (h:Tr (L.take L.length)):cX L=0:=by
 rw[un hl h,List.drop_length]; rfl
theorem zI {L:List bD} (hl:4096<L.length):cX L=2:=by unfold cX; rw[if_pos hl]
def pD (e:bD):Value×Value:=(.string e.path, .int .i64 e.kind)
theorem eN :Tryz.prog.underlying 47=some (.map 9 3):=Tryz.underlying47
theorem xC (w:World) (n:Nat) (hn:n<=4096):(Instr.makeMap 47 (some (.int .i64 (n:Int)))).run Tryz.prog w= .ok (.map (some w.heap.size)) (w.alloc (.map #[] 0)):=by
 have h1:IntKind.i64.wrap (n:Int)=n:=by rw[IntKind.wrap_i64]; omega
 simp[Instr.makeMap,asInt,asIntOf]
theorem kw {w:World} {mb:Nat} {M:List bD} (h:cT Tryz.prog 9 w mb (M.map pD)) {p:ByteArray} (hp:p.size<=maxLen) {f:bD} (hf:gZ M p=some f):
  (Instr.lookup 47 (.map (some mb)) (.string p) true).run Tryz.prog w= .ok (.tuple #[.int .i64 f.kind, .bool true]) w:=by
 obtain⟨h1,h2⟩:=lh hf;have h3:(Value.string p,Value.int .i64 f.kind)∈M.map pD:=List.mem_map.2 ⟨f,h1,by rw[<-h2]; rfl⟩;have:=h.is.hit bS eN (cF hp) h3 true
 simpa only[if_true]using this
theorem pE {w:World} {mb:Nat} {M:List bD} (h:cT Tryz.prog 9 w mb (M.map pD)) {p:ByteArray} (hp:p.size<=maxLen) (hf:gZ M p=none):
  (Instr.lookup 47 (.map (some mb)) (.string p) true).run Tryz.prog w= .ok (.tuple #[.int .i64 0, .bool false]) w:=by
 have hz:(zeroValue 3).run Tryz.prog w= .ok (.int .i64 0) w:=by kernel_rfl
 have:=h.is.miss bS eN hz (cF hp) (fun q hq e=>by
  obtain⟨x,hx,rfl⟩:=List.mem_map.1 hq;simp only[pD,Value.string.injEq]at e;exact pd hf x hx e) true
 simpa only[if_true]using this
theorem kx {M:List bD} {e:bD} (h:Tr (M++[e])): ∀q∈M.map pD,q.1≠Value.string e.path:=by
 intro q hq hc;obtain⟨x,hx,rfl⟩:=List.mem_map.1 hq;simp only[pD,Value.string.injEq]at hc;have hn:=h.ord.nodup;rw[List.map_append,List.nodup_append]at hn;exact hn.2.2 x.path (List.mem_map.2 ⟨x,hx,rfl⟩) e.path (by simp) hc
theorem rk (a b:ByteArray) (o:Int) (w:World) (ha:a.size<=maxLen) (h:cU (bl a) (bl b)=o):Calls Tryz.prog 118 #[.string a, .string b] w fun e w'=>e= .returned (.int .i64 o)/\Below w.heap.size w w':=by
 rw[<-h]; exact ux a b w (by unfold maxLen at ha; omega)
theorem BS {L:List bD} {k:Nat} {f e:bD} (hf:L[k]? =some f):jJ (L.take (k+1)) e=decide (cU (bl f.path) (bl e.path)<0):=by
 have:(L.take (k+1)).getLast? =some f:=by rw[List.take_add_one,hf]; simp
 unfold jJ;rw[this]; rfl
def FF (L:List bD) (mb:Nat) (w:World) (k:Nat) (wr:World):Prop:=Tr (L.take k)/\cT Tryz.prog 9 wr mb ((L.take k).map pD)/\Below w.heap.size w wr
theorem zH (S:Nat->Prop) (L:List bD) (v:Value) (w:World) (hv:dI S w v L) (henv:fE w):Calls Tryz.prog 71 #[v] w fun e w'=>e= .returned (.int .i64 (cX L))/\Below w.heap.size w w':=by
 have HV:=ab hv;have HE:=ab henv;obtain⟨a,cap,rfl,hc,hm,-⟩:=aL.shape hv qt.len;unfold maxLen at hm;obtain⟨n,hn⟩: ∃n,n=L.length:=⟨_,rfl⟩;have HN:=ab hn;rw[<-hn]at hc HV ⊢;clear hv henv
 by_cases hbig:4096<n
 ·have hbi:(4096:Int)<(n:Int):=by omega
  have HC:=ab (zI (by rw[<-hn]; exact hbig));clear hbig hn
  go_enter Tryz.func71,Tryz.ntmps71
  go_wp2_with fail;go_ret;exact⟨bz (by rw[HC.out]),Below.refl _ _⟩
 ·have hbi:(n:Int)<=(4096:Int):=by omega
  have hmk:=xC w n (by omega);have HL4:=ab (show L.length<=4096 by omega);clear hbig hn
  go_enter Tryz.func71,Tryz.ntmps71
  go_wp2_with fail;obtain⟨W0,hW0⟩: ∃W0,W0=w.alloc (.map #[] 0):=⟨_,rfl⟩;rw[<-hW0];have HM0:=ab (show cT Tryz.prog 9 W0 w.heap.size [] by rw[hW0]; exact cT.made w);have HB0:=ab (show Below w.heap.size w W0 by rw[hW0]; exact(Below.refl _ _).alloc (Nat.le_refl _) _);clear hW0;clear hmk
  go_loopw [18] (fun i wr=> ∃k:Nat,k<=n/\i= .int .i64 k/\FF L w.heap.size w k wr) (fun i _=>n-(intOf i).toNat)
  case atStart=>exact⟨0,Nat.zero_le _,rfl,⟨List.Pairwise.nil,by simp,by simp⟩,HM0.out,HB0.out⟩
  case round=>
   obtain⟨k,hk,rfl,htr,hkm,hbr⟩:=hrel;have HTR:=ab htr;have HKM:=ab hkm;have HBR:=ab hbr;clear htr hkm hbr
   by_cases hlt:k<n
   ·obtain⟨e,he⟩: ∃e,L[k]? =some e:=⟨L[k]'(by rw[<-HN.out]; exact hlt),by simp⟩;obtain⟨b,o,dv,rfl,-,hb,hd,hok,-,q0,q1,q2,q3,q4,q5⟩:=ku (HV.out.below HBR.out) he;have HAT:=ab he;have HD:=ab hd;have HOK:=ab hok;obtain⟨a1,cap1,rfl,hd1,hd2⟩:=hd.slice;unfold maxLen at hd2;clear he hd hok
    cases hve:iJ e
    ·have HVE:=ab hve;have HCA:=ab (show cQ (L.take k) e=1 by unfold cQ; rw[hve]; rfl);clear hve;go_wp2_with fail;obtain⟨W,hW⟩: ∃W,W=wr.alloc (.cells #[.string e.path, .int .i64 e.kind, .int .i64 e.mode, .int .i64 e.time, .slice a1 e.data.length cap1, .string e.link] 79):=⟨_,rfl⟩;rw[<-hW];have HX:=ab (show W.heap[wr.heap.size]? =some (.cells #[.string e.path, .int .i64 e.kind, .int .i64 e.mode, .int .i64 e.time, .slice a1 e.data.length cap1, .string e.link] 79 (0,0)) by rw[hW]; exact bZ wr _)
     have HWL:=ab (show Below wr.heap.size wr W by rw[hW]; exact(Below.refl _ _).alloc (Nat.le_refl _) _);have HBW:=ab (ag HBR.out HWL.out);clear hW;refine(kH S e _ false _ (HD.out.below HWL.out) HOK.out (HE.out.below HBW.out) HVE.out).mono ?_;rintro e7 w7 ⟨rfl,hb7⟩;have HB9:=ab (ag HBW.out hb7);clear hb7;go_wp2_with fail;go_ret;exact⟨bz (by rw[fu HL4.out HTR.out HAT.out (x:=1) HCA.out (by decide)]),HB9.out⟩
    ·have HVE:=ab hve;obtain⟨q,hq⟩: ∃q:ByteArray,q=⟨(aT (bl e.path)).toArray⟩:=⟨_,rfl⟩;have HBQ:=ab (show bl q=aT (bl e.path) by rw[hq]; exact ff _);have HQ:=ab hq;have HQS:=ab (show q.size<=maxLen by
      have h1:=gH (bQ hve);have h2:=yd (bQ hve);rw[ay,HBQ.out]; unfold maxLen; omega)
     clear hve hq
     rcases Nat.eq_zero_or_pos k with hk0 | hk0
     ·have e9:decide (0<k)=false:=by simp; omega
      have e8:(k:Int)<=0:=by omega
      have HCV:=ab (show(iJ e && jJ (L.take k) e)=true by rw[hk0,HVE.out]; rfl);clear hk0;go_wp2_with fail;obtain⟨W,hW⟩: ∃W,W=wr.alloc (.cells #[.string e.path, .int .i64 e.kind, .int .i64 e.mode, .int .i64 e.time, .slice a1 e.data.length cap1, .string e.link] 79):=⟨_,rfl⟩;rw[<-hW];have HX:=ab (show W.heap[wr.heap.size]? =some (.cells #[.string e.path, .int .i64 e.kind, .int .i64 e.mode, .int .i64 e.time, .slice a1 e.data.length cap1, .string e.link] 79 (0,0)) by rw[hW]; exact bZ wr _)
      have HWL:=ab (show Below wr.heap.size wr W by rw[hW]; exact(Below.refl _ _).alloc (Nat.le_refl _) _);have HBW:=ab (ag HBR.out HWL.out);clear hW;refine(kH S e _ true _ (HD.out.below HWL.out) HOK.out (HE.out.below HBW.out) HVE.out).mono ?_;rintro e7 w7 ⟨rfl,hb7⟩;have HX7:=ab ((hb7.block wr.heap.size (nF HX.out)).trans HX.out);have HL7:=ab (HWL.out.trans (hb7.mono HWL.out.size))
      have c0:=aa (k:=0) HX7.out;have c1:=aa (k:=1) HX7.out;have c2:=aa (k:=2) HX7.out;have c3:=aa (k:=3) HX7.out;have c4:=aa (k:=4) HX7.out;have c5:=aa (k:=5) HX7.out;simp only[aN]at c0 c1 c2 c3 c4 c5;clear hb7;go_wp2_with fail;refine am [some 11,none,some 2] (by kernel_rfl) (by kernel_rfl) (by kernel_rfl) ?_;simp only[aZ,List.take_succ_cons,List.take_zero,List.drop_succ_cons,List.drop_zero]
      obtain⟨wd,hwd⟩: ∃wd:World,wd=w7.drew:=⟨_,rfl⟩;rw[<-hwd];have HLD:=ab (show Below wr.heap.size wr wd by rw[hwd]; exact HL7.out.trans ((Below.refl w7.heap.size w7).drew.mono HL7.out.size));have HXD:=ab (show wd.heap[wr.heap.size]? =some (.cells #[.string e.path, .int .i64 e.kind, .int .i64 e.mode, .int .i64 e.time, .slice a1 e.data.length cap1, .string e.link] 79 (0,0)) by rw[hwd]; exact HX7.out)
      clear hwd c0 c1 c2 c3 c4 c5;have c0:=aa (k:=0) HXD.out;have c1:=aa (k:=1) HXD.out;have c2:=aa (k:=2) HXD.out;have c3:=aa (k:=3) HXD.out;have c4:=aa (k:=4) HXD.out;have c5:=aa (k:=5) HXD.out;simp only[aN]at c0 c1 c2 c3 c4 c5
      repeat (first | (refine aw rfl ?_; simp only[Act.put,aA,aB,aC]) | (refine aJ rfl (fun K hK=> ?_); go_simp; refine hK _ ?_; clear hK K))
      refine aI ?_;refine BV rfl ?_;simp only[Act.put,aA,aB,aC]
      repeat (first | (refine aw rfl ?_; simp only[Act.put,aA,aB,aC]) | (refine aJ rfl (fun K hK=> ?_); go_simp; refine hK _ ?_; clear hK K))
      refine aI ?_;clear c0 c1 c2 c3 c4 c5;have HL8:=ab HLD.out;have HX8:=ab HXD.out;have HB8:=ab (ag HBR.out HLD.out);have c0:=aa (k:=0) HX8.out;have c1:=aa (k:=1) HX8.out;have c2:=aa (k:=2) HX8.out;have c3:=aa (k:=3) HX8.out;have c4:=aa (k:=4) HX8.out;have c5:=aa (k:=5) HX8.out;simp only[aN]at c0 c1 c2 c3 c4 c5;go_wp2_with fail
      by_cases h0:aT (bl e.path)=[]
      ·have e1:q.toList.isEmpty=true:=by rw[nW,HBQ.out,decide_eq_true h0]
       have HTN:=ab (jl HTR.out HAT.out (show cQ (L.take k) e=0 by unfold cQ; rw[if_pos HCV.out]; unfold lM; rw[if_pos h0]));clear h0;refine(eO e.path q _ (HE.out.below HB8.out) (bQ HVE.out) HQ.out).mono ?_;rintro e9 w9 ⟨rfl,hb9⟩;have HL9:=ab (HL8.out.trans (hb9.mono HL8.out.size));have HB9:=ab (ag HB8.out hb9);have HX9:=ab ((hb9.block wr.heap.size (nF HX8.out)).trans HX8.out)
       have HK9:=ab (HKM.out.same (HL9.out.block w.heap.size HKM.out.lt));clear hb9;have c0:=aa (k:=0) HX9.out;have c1:=aa (k:=1) HX9.out;have c2:=aa (k:=2) HX9.out;have c3:=aa (k:=3) HX9.out;have c4:=aa (k:=4) HX9.out;have c5:=aa (k:=5) HX9.out;simp only[aN]at c0 c1 c2 c3 c4 c5;go_wp2_with (at_mapUpdate; go_must (refine eo bS rfl _ _ _ _ rfl eN w.heap.size _ HK9.out rfl (.string e.path) (.int .i64 e.kind) rfl rfl (cF HOK.out.pth) (kx (by have h1:=HTN.out; rw[List.take_add_one,HAT.out]at h1; exact h1)) ?_); intro w10 hm10 hg10)
       have HM10:=ab hm10;have HG10:=ab hg10;clear hm10 hg10 c0 c1 c2 c3 c4 c5;go_wp2_with fail
       go_roundw
       case rel=>
        refine⟨k+1,by omega,by go_num,HTN.out, ?_, ?_⟩
        ·rw[List.take_add_one,HAT.out,List.map_append]; exact HM10.out
        ·exact HB9.out.grown HG10.out HB9.out.size (fun k e=>by cases e; exact Nat.le_refl _)
       case measure=>simp[intOf]; omega
      ·have e1:q.toList.isEmpty=false:=by rw[nW,HBQ.out,decide_eq_false h0]
       have HDI:=ab (show ∀x,(match gZ (L.take k) q with | none=>(4:Int) | some f=>if f.kind=2 then 0 else 13)=x->cQ (L.take k) e=x from fun x hx=>by unfold cQ; rw[if_pos HCV.out]; unfold lM; rw[if_neg h0,<-HQ.out]; exact hx);clear h0
       cases hf:gZ (L.take k) q with
       | none=>
        have HF:=ab hf;have HCA:=ab (HDI.out 4 (by rw[hf]));clear hf;refine(eO e.path q _ (HE.out.below HB8.out) (bQ HVE.out) HQ.out).mono ?_;rintro e9 w9 ⟨rfl,hb9⟩;have HL9:=ab (HL8.out.trans (hb9.mono HL8.out.size));have HB9:=ab (ag HB8.out hb9);have HX9:=ab ((hb9.block wr.heap.size (nF HX8.out)).trans HX8.out);have HK9:=ab (HKM.out.same (HL9.out.block w.heap.size HKM.out.lt))
        clear hb9;have c0:=aa (k:=0) HX9.out;have c1:=aa (k:=1) HX9.out;have c2:=aa (k:=2) HX9.out;have c3:=aa (k:=3) HX9.out;have c4:=aa (k:=4) HX9.out;have c5:=aa (k:=5) HX9.out;simp only[aN]at c0 c1 c2 c3 c4 c5;have hlk:=pE HK9.out HQS.out HF.out;go_wp2_with fail;go_ret;exact⟨bz (by rw[fu HL4.out HTR.out HAT.out (x:=4) HCA.out (by decide)]),HB9.out⟩
       | some f=>
        have HF:=ab hf
        by_cases hk2:f.kind=2
        ·have e3:(f.kind != 2)=false:=by simp[hk2]
         have HTN:=ab (jl HTR.out HAT.out (HDI.out 0 (by rw[hf]; simp only[if_pos hk2])));clear hf hk2;refine(eO e.path q _ (HE.out.below HB8.out) (bQ HVE.out) HQ.out).mono ?_;rintro e9 w9 ⟨rfl,hb9⟩;have HL9:=ab (HL8.out.trans (hb9.mono HL8.out.size));have HB9:=ab (ag HB8.out hb9);have HX9:=ab ((hb9.block wr.heap.size (nF HX8.out)).trans HX8.out);have HK9:=ab (HKM.out.same (HL9.out.block w.heap.size HKM.out.lt))
         clear hb9;have c0:=aa (k:=0) HX9.out;have c1:=aa (k:=1) HX9.out;have c2:=aa (k:=2) HX9.out;have c3:=aa (k:=3) HX9.out;have c4:=aa (k:=4) HX9.out;have c5:=aa (k:=5) HX9.out;simp only[aN]at c0 c1 c2 c3 c4 c5;have hlk:=kw HK9.out HQS.out HF.out;go_wp2_with (at_mapUpdate; go_must (refine eo bS rfl _ _ _ _ rfl eN w.heap.size _ HK9.out rfl (.string e.path) (.int .i64 e.kind) rfl rfl (cF HOK.out.pth) (kx (by have h1:=HTN.out; rw[List.take_add_one,HAT.out]at h1; exact h1)) ?_); intro w10 hm10 hg10)
         have HM10:=ab hm10;have HG10:=ab hg10;clear hm10 hg10 c0 c1 c2 c3 c4 c5;go_wp2_with fail
         go_roundw
         case rel=>
          refine⟨k+1,by omega,by go_num,HTN.out, ?_, ?_⟩
          ·rw[List.take_add_one,HAT.out,List.map_append]; exact HM10.out
          ·exact HB9.out.grown HG10.out HB9.out.size (fun k e=>by cases e; exact Nat.le_refl _)
         case measure=>simp[intOf]; omega
        ·have e3:(f.kind != 2)=true:=by simp[hk2]
         have HCA:=ab (HDI.out 13 (by rw[hf]; simp only[if_neg hk2]));clear hf hk2;refine(eO e.path q _ (HE.out.below HB8.out) (bQ HVE.out) HQ.out).mono ?_;rintro e9 w9 ⟨rfl,hb9⟩;have HL9:=ab (HL8.out.trans (hb9.mono HL8.out.size));have HB9:=ab (ag HB8.out hb9);have HX9:=ab ((hb9.block wr.heap.size (nF HX8.out)).trans HX8.out);have HK9:=ab (HKM.out.same (HL9.out.block w.heap.size HKM.out.lt))
         clear hb9;have c0:=aa (k:=0) HX9.out;have c1:=aa (k:=1) HX9.out;have c2:=aa (k:=2) HX9.out;have c3:=aa (k:=3) HX9.out;have c4:=aa (k:=4) HX9.out;have c5:=aa (k:=5) HX9.out;simp only[aN]at c0 c1 c2 c3 c4 c5;have hlk:=kw HK9.out HQS.out HF.out;go_wp2_with fail;go_ret;exact⟨bz (by rw[fu HL4.out HTR.out HAT.out (x:=13) HCA.out (by decide)]),HB9.out⟩
     ·obtain⟨j,rfl⟩: ∃j,k=j+1:=⟨k-1,by omega⟩;obtain⟨f,hf⟩: ∃f,L[j]? =some f:=⟨L[j]'(by rw[<-HN.out]; omega),by simp⟩;obtain⟨b',o',dv',he',-,-,-,hokf,-,p0,-⟩:=ku (HV.out.below HBR.out) hf;simp only[Option.some.injEq,Addr.mk.injEq,and_true]at he';obtain⟨rfl,rfl⟩:=he';have HPF:=ab hokf.pth;obtain⟨c,hc⟩: ∃c,cU (bl f.path) (bl e.path)=c:=⟨_,rfl⟩
      have HC:=ab hc;have e9:decide (0<j+1)=true:=by simp
      have hjn:j<n:=by omega
      have hjn2:(j:Int)<(n:Int):=by omega
      have hjn3:decide (j<n)=true:=by simp; omega
      have hwj:IntKind.i64.wrap (j:Int)=j:=by rw[IntKind.wrap_i64]; omega
      have HAF:=ab (show jJ (L.take (j+1)) e=decide (c<0) by rw[BS hf,hc]);clear hf hokf hc hk0
      by_cases hneg:c<0
      ·have HCV:=ab (show(iJ e && jJ (L.take (j+1)) e)=true by rw[HVE.out,HAF.out,decide_eq_true hneg]; rfl);have e8:decide (0<=c)=false:=by simp; omega
       go_wp2_with fail;obtain⟨W,hW⟩: ∃W,W=wr.alloc (.cells #[.string e.path, .int .i64 e.kind, .int .i64 e.mode, .int .i64 e.time, .slice a1 e.data.length cap1, .string e.link] 79):=⟨_,rfl⟩;rw[<-hW];have HX:=ab (show W.heap[wr.heap.size]? =some (.cells #[.string e.path, .int .i64 e.kind, .int .i64 e.mode, .int .i64 e.time, .slice a1 e.data.length cap1, .string e.link] 79 (0,0)) by rw[hW]; exact bZ wr _)
       have HWL:=ab (show Below wr.heap.size wr W by rw[hW]; exact(Below.refl _ _).alloc (Nat.le_refl _) _);have HBW:=ab (ag HBR.out HWL.out);clear hW;refine(kH S e _ true _ (HD.out.below HWL.out) HOK.out (HE.out.below HBW.out) HVE.out).mono ?_;rintro e7 w7 ⟨rfl,hb7⟩;have HX7:=ab ((hb7.block wr.heap.size (nF HX.out)).trans HX.out);have HL7:=ab (HWL.out.trans (hb7.mono HWL.out.size))
       have c0:=aa (k:=0) HX7.out;have c1:=aa (k:=1) HX7.out;have c2:=aa (k:=2) HX7.out;have c3:=aa (k:=3) HX7.out;have c4:=aa (k:=4) HX7.out;have c5:=aa (k:=5) HX7.out;simp only[aN]at c0 c1 c2 c3 c4 c5;clear hb7;go_wp2_with fail;refine am [some 11,none,some 2] (by kernel_rfl) (by kernel_rfl) (by kernel_rfl) ?_;simp only[aZ,List.take_succ_cons,List.take_zero,List.drop_succ_cons,List.drop_zero]
       obtain⟨wd,hwd⟩: ∃wd:World,wd=w7.drew:=⟨_,rfl⟩;rw[<-hwd];have HLD:=ab (show Below wr.heap.size wr wd by rw[hwd]; exact HL7.out.trans ((Below.refl w7.heap.size w7).drew.mono HL7.out.size));have HXD:=ab (show wd.heap[wr.heap.size]? =some (.cells #[.string e.path, .int .i64 e.kind, .int .i64 e.mode, .int .i64 e.time, .slice a1 e.data.length cap1, .string e.link] 79 (0,0)) by rw[hwd]; exact HX7.out)
       clear hwd c0 c1 c2 c3 c4 c5;have c0:=aa (k:=0) HXD.out;have c1:=aa (k:=1) HXD.out;have c2:=aa (k:=2) HXD.out;have c3:=aa (k:=3) HXD.out;have c4:=aa (k:=4) HXD.out;have c5:=aa (k:=5) HXD.out;simp only[aN]at c0 c1 c2 c3 c4 c5;have y0:=(HLD.out.cell (aR p0)).trans p0
       repeat (first | (refine aw rfl ?_; simp only[Act.put,aA,aB,aC]) | (refine aJ rfl (fun K hK=> ?_); go_simp; refine hK _ ?_; clear hK K))
       refine aI ?_;refine bw rfl (fun K hK=> ?_);go_wp2_with (go_at_call 118; refine(rk f.path e.path c _ HPF.out HC.out).mono ?_; rintro e8' w8 ⟨rfl,hb8⟩; have HL8:=ab (HLD.out.trans (hb8.mono HLD.out.size)); have HX8:=ab ((hb8.block wr.heap.size (nF HXD.out)).trans HXD.out); clear hb8 c0 c1 c2 c3 c4 c5 y0)
       repeat (first | (refine aw rfl ?_; simp only[Act.put,aA,aB,aC]) | (refine aJ rfl (fun K hK=> ?_); go_simp; refine hK _ ?_; clear hK K))
       refine aI ?_;have HB8:=ab (ag HBR.out HL8.out);have c0:=aa (k:=0) HX8.out;have c1:=aa (k:=1) HX8.out;have c2:=aa (k:=2) HX8.out;have c3:=aa (k:=3) HX8.out;have c4:=aa (k:=4) HX8.out;have c5:=aa (k:=5) HX8.out;simp only[aN]at c0 c1 c2 c3 c4 c5;go_wp2_with fail
       by_cases h0:aT (bl e.path)=[]
       ·have e1:q.toList.isEmpty=true:=by rw[nW,HBQ.out,decide_eq_true h0]
        have HTN:=ab (jl HTR.out HAT.out (show cQ (L.take (j+1)) e=0 by unfold cQ; rw[if_pos HCV.out]; unfold lM; rw[if_pos h0]));clear h0;refine(eO e.path q _ (HE.out.below HB8.out) (bQ HVE.out) HQ.out).mono ?_;rintro e9 w9 ⟨rfl,hb9⟩;have HL9:=ab (HL8.out.trans (hb9.mono HL8.out.size));have HB9:=ab (ag HB8.out hb9);have HX9:=ab ((hb9.block wr.heap.size (nF HX8.out)).trans HX8.out)
        have HK9:=ab (HKM.out.same (HL9.out.block w.heap.size HKM.out.lt));clear hb9;have c0:=aa (k:=0) HX9.out;have c1:=aa (k:=1) HX9.out;have c2:=aa (k:=2) HX9.out;have c3:=aa (k:=3) HX9.out;have c4:=aa (k:=4) HX9.out;have c5:=aa (k:=5) HX9.out;simp only[aN]at c0 c1 c2 c3 c4 c5;go_wp2_with (at_mapUpdate; go_must (refine eo bS rfl _ _ _ _ rfl eN w.heap.size _ HK9.out rfl (.string e.path) (.int .i64 e.kind) rfl rfl (cF HOK.out.pth) (kx (by have h1:=HTN.out; rw[List.take_add_one,HAT.out]at h1; exact h1)) ?_); intro w10 hm10 hg10)
        have HM10:=ab hm10;have HG10:=ab hg10;clear hm10 hg10 c0 c1 c2 c3 c4 c5;go_wp2_with fail
        go_roundw
        case rel=>
         refine⟨j+1+1,by omega,by go_num,HTN.out, ?_, ?_⟩
         ·rw[List.take_add_one,HAT.out,List.map_append]; exact HM10.out
         ·exact HB9.out.grown HG10.out HB9.out.size (fun k e=>by cases e; exact Nat.le_refl _)
        case measure=>simp[intOf]; omega
       ·have e1:q.toList.isEmpty=false:=by rw[nW,HBQ.out,decide_eq_false h0]
        have HDI:=ab (show ∀x,(match gZ (L.take (j+1)) q with | none=>(4:Int) | some g=>if g.kind=2 then 0 else 13)=x->cQ (L.take (j+1)) e=x from fun x hx=>by unfold cQ; rw[if_pos HCV.out]; unfold lM; rw[if_neg h0,<-HQ.out]; exact hx);clear h0
        cases hf:gZ (L.take (j+1)) q with
        | none=>
         have HF:=ab hf;have HCA:=ab (HDI.out 4 (by rw[hf]));clear hf;refine(eO e.path q _ (HE.out.below HB8.out) (bQ HVE.out) HQ.out).mono ?_;rintro e9 w9 ⟨rfl,hb9⟩;have HL9:=ab (HL8.out.trans (hb9.mono HL8.out.size));have HB9:=ab (ag HB8.out hb9);have HX9:=ab ((hb9.block wr.heap.size (nF HX8.out)).trans HX8.out);have HK9:=ab (HKM.out.same (HL9.out.block w.heap.size HKM.out.lt))
         clear hb9;have c0:=aa (k:=0) HX9.out;have c1:=aa (k:=1) HX9.out;have c2:=aa (k:=2) HX9.out;have c3:=aa (k:=3) HX9.out;have c4:=aa (k:=4) HX9.out;have c5:=aa (k:=5) HX9.out;simp only[aN]at c0 c1 c2 c3 c4 c5;have hlk:=pE HK9.out HQS.out HF.out;go_wp2_with fail;go_ret;exact⟨bz (by rw[fu HL4.out HTR.out HAT.out (x:=4) HCA.out (by decide)]),HB9.out⟩
        | some g=>
         have HF:=ab hf
         by_cases hk2:g.kind=2
         ·have e3:(g.kind != 2)=false:=by simp[hk2]
          have HTN:=ab (jl HTR.out HAT.out (HDI.out 0 (by rw[hf]; simp only[if_pos hk2])));clear hf hk2;refine(eO e.path q _ (HE.out.below HB8.out) (bQ HVE.out) HQ.out).mono ?_;rintro e9 w9 ⟨rfl,hb9⟩;have HL9:=ab (HL8.out.trans (hb9.mono HL8.out.size));have HB9:=ab (ag HB8.out hb9);have HX9:=ab ((hb9.block wr.heap.size (nF HX8.out)).trans HX8.out);have HK9:=ab (HKM.out.same (HL9.out.block w.heap.size HKM.out.lt))
          clear hb9;have c0:=aa (k:=0) HX9.out;have c1:=aa (k:=1) HX9.out;have c2:=aa (k:=2) HX9.out;have c3:=aa (k:=3) HX9.out;have c4:=aa (k:=4) HX9.out;have c5:=aa (k:=5) HX9.out;simp only[aN]at c0 c1 c2 c3 c4 c5;have hlk:=kw HK9.out HQS.out HF.out;go_wp2_with (at_mapUpdate; go_must (refine eo bS rfl _ _ _ _ rfl eN w.heap.size _ HK9.out rfl (.string e.path) (.int .i64 e.kind) rfl rfl (cF HOK.out.pth) (kx (by have h1:=HTN.out; rw[List.take_add_one,HAT.out]at h1; exact h1)) ?_); intro w10 hm10 hg10)
          have HM10:=ab hm10;have HG10:=ab hg10;clear hm10 hg10 c0 c1 c2 c3 c4 c5;go_wp2_with fail
          go_roundw
          case rel=>
           refine⟨j+1+1,by omega,by go_num,HTN.out, ?_, ?_⟩
           ·rw[List.take_add_one,HAT.out,List.map_append]; exact HM10.out
           ·exact HB9.out.grown HG10.out HB9.out.size (fun k e=>by cases e; exact Nat.le_refl _)
          case measure=>simp[intOf]; omega
         ·have e3:(g.kind != 2)=true:=by simp[hk2]
          have HCA:=ab (HDI.out 13 (by rw[hf]; simp only[if_neg hk2]));clear hf hk2;refine(eO e.path q _ (HE.out.below HB8.out) (bQ HVE.out) HQ.out).mono ?_;rintro e9 w9 ⟨rfl,hb9⟩;have HL9:=ab (HL8.out.trans (hb9.mono HL8.out.size));have HB9:=ab (ag HB8.out hb9);have HX9:=ab ((hb9.block wr.heap.size (nF HX8.out)).trans HX8.out);have HK9:=ab (HKM.out.same (HL9.out.block w.heap.size HKM.out.lt))
          clear hb9;have c0:=aa (k:=0) HX9.out;have c1:=aa (k:=1) HX9.out;have c2:=aa (k:=2) HX9.out;have c3:=aa (k:=3) HX9.out;have c4:=aa (k:=4) HX9.out;have c5:=aa (k:=5) HX9.out;simp only[aN]at c0 c1 c2 c3 c4 c5;have hlk:=kw HK9.out HQS.out HF.out;go_wp2_with fail;go_ret;exact⟨bz (by rw[fu HL4.out HTR.out HAT.out (x:=13) HCA.out (by decide)]),HB9.out⟩
      ·have HCA:=ab (show cQ (L.take (j+1)) e=1 by unfold cQ; rw[HAF.out,decide_eq_false hneg]; simp);have e8:decide (0<=c)=true:=by simp; omega
       have e7:0<=c:=by omega
       go_wp2_with fail;obtain⟨W,hW⟩: ∃W,W=wr.alloc (.cells #[.string e.path, .int .i64 e.kind, .int .i64 e.mode, .int .i64 e.time, .slice a1 e.data.length cap1, .string e.link] 79):=⟨_,rfl⟩;rw[<-hW];have HX:=ab (show W.heap[wr.heap.size]? =some (.cells #[.string e.path, .int .i64 e.kind, .int .i64 e.mode, .int .i64 e.time, .slice a1 e.data.length cap1, .string e.link] 79 (0,0)) by rw[hW]; exact bZ wr _)
       have HWL:=ab (show Below wr.heap.size wr W by rw[hW]; exact(Below.refl _ _).alloc (Nat.le_refl _) _);have HBW:=ab (ag HBR.out HWL.out);clear hW;refine(kH S e _ true _ (HD.out.below HWL.out) HOK.out (HE.out.below HBW.out) HVE.out).mono ?_;rintro e7 w7 ⟨rfl,hb7⟩;have HX7:=ab ((hb7.block wr.heap.size (nF HX.out)).trans HX.out);have HL7:=ab (HWL.out.trans (hb7.mono HWL.out.size))
       have c0:=aa (k:=0) HX7.out;have c1:=aa (k:=1) HX7.out;have c2:=aa (k:=2) HX7.out;have c3:=aa (k:=3) HX7.out;have c4:=aa (k:=4) HX7.out;have c5:=aa (k:=5) HX7.out;simp only[aN]at c0 c1 c2 c3 c4 c5;clear hb7;go_wp2_with fail;refine am [some 11,none,some 2] (by kernel_rfl) (by kernel_rfl) (by kernel_rfl) ?_;simp only[aZ,List.take_succ_cons,List.take_zero,List.drop_succ_cons,List.drop_zero]
       obtain⟨wd,hwd⟩: ∃wd:World,wd=w7.drew:=⟨_,rfl⟩;rw[<-hwd];have HLD:=ab (show Below wr.heap.size wr wd by rw[hwd]; exact HL7.out.trans ((Below.refl w7.heap.size w7).drew.mono HL7.out.size));have HXD:=ab (show wd.heap[wr.heap.size]? =some (.cells #[.string e.path, .int .i64 e.kind, .int .i64 e.mode, .int .i64 e.time, .slice a1 e.data.length cap1, .string e.link] 79 (0,0)) by rw[hwd]; exact HX7.out)
       clear hwd c0 c1 c2 c3 c4 c5;have c0:=aa (k:=0) HXD.out;have c1:=aa (k:=1) HXD.out;have c2:=aa (k:=2) HXD.out;have c3:=aa (k:=3) HXD.out;have c4:=aa (k:=4) HXD.out;have c5:=aa (k:=5) HXD.out;simp only[aN]at c0 c1 c2 c3 c4 c5;have y0:=(HLD.out.cell (aR p0)).trans p0
       repeat (first | (refine aw rfl ?_; simp only[Act.put,aA,aB,aC]) | (refine aJ rfl (fun K hK=> ?_); go_simp; refine hK _ ?_; clear hK K))
       refine aI ?_;refine bw rfl (fun K hK=> ?_);go_wp2_with (go_at_call 118; refine(rk f.path e.path c _ HPF.out HC.out).mono ?_; rintro e8' w8 ⟨rfl,hb8⟩; have HL8:=ab (HLD.out.trans (hb8.mono HLD.out.size)); clear hb8 c0 c1 c2 c3 c4 c5 y0)
       repeat (first | (refine aw rfl ?_; simp only[Act.put,aA,aB,aC]) | (refine aJ rfl (fun K hK=> ?_); go_simp; refine hK _ ?_; clear hK K))
       refine aI ?_;have HB9:=ab (ag HBR.out HL8.out);go_wp2_with fail;go_ret;exact⟨bz (by rw[fu HL4.out HTR.out HAT.out (x:=1) HCA.out (by decide)]),HB9.out⟩
   ·have hk2:k=n:=by omega
    subst hk2;go_wp2_with fail;go_ret;exact⟨bz (by rw[wP HL4.out (by rw[<-HN.out]; exact HTR.out)]),HBR.out⟩
open Go Go.RowKit Go.Maps
def uJ (p:ByteArray×Int):Value×Value:=(.string p.1, .int .i64 p.2)
def iu (S:Nat->Prop) (w:World) (gv:Value) (gs:List (ByteArray×Int)):Prop:=
 (gv= .map none/\gs=[])\/ ∃b,gv= .map (some b)/\S b/\cT Tryz.prog 9 w b (gs.map uJ)
theorem iu.keep {S:Nat->Prop} {w w':World} {gv:Value} {gs:List (ByteArray×Int)} (h:iu S w gv gs) (hs: ∀k,S k->k<w.heap.size->w'.heap[k]? =w.heap[k]?):iu S w' gv gs:=by
 rcases h with h | ⟨b,h1,h0,h2⟩
 ·exact .inl h
 ·exact .inr ⟨b,h1,h0,h2.same (hs b h0 h2.lt)⟩
theorem Cp {S:Nat->Prop} {w:World} {gv:Value} {gs:List (ByteArray×Int)} (h:iu S w gv gs) {n:ByteArray} (hn:n.size<=maxLen):
  (Instr.lookup 47 gv (.string n) false).run Tryz.prog w= .ok (.int .i64 (jP gs n)) w:=by
 have hz:(zeroValue 3).run Tryz.prog w= .ok (.int .i64 0) w:=by kernel_rfl
 obtain⟨l,hl⟩:=cF hn
 rcases h with⟨rfl,rfl⟩ | ⟨b,rfl,_,h2⟩
 ·have:=Maps.look_nil false bS (t:=47) (e:=3) eN hz hl
  simpa [jP]using this
 ·unfold jP
  cases hf:gs.find? (fun p=>decide (p.1=n))with
  | none=>
   have:=h2.is.miss bS eN hz ⟨l,hl⟩ (fun q hq e=>by
    obtain⟨x,hx,rfl⟩:=List.mem_map.1 hq;simp only[uJ,Value.string.injEq]at e;have:=List.find?_eq_none.1 hf x hx;simp[e]at this) false
   simpa using this
  | some p=>
   have h3:=List.mem_of_find?_eq_some hf;have h4:=List.find?_some hf;simp only[decide_eq_true_eq]at h4;have:=h2.is.hit bS eN ⟨l,hl⟩ (val:= .int .i64 p.2) (List.mem_map.2 ⟨p,h3,by rw[<-h4]; rfl⟩) false
   simpa using this
def jC (v:Value) (b:bM):List Value:=[.string b.ref.name, .int .i64 b.ref.gen, .int .i64 b.ref.size,v]
abbrev iO :=Value×bM
def eF (zs:List iO):List Value:=zs.flatMap fun z=>jC z.1 z.2
theorem uh (zs:List iO) (z:iO):eF (zs++[z])=eF zs++jC z.1 z.2:=by simp[eF]
theorem qX {a:Option Addr} {n c:Nat} {b:bM} : ∀u∈jC (.slice a n c) b,u.oneCell'=true:=by
 intro u hu;simp only[jC,List.mem_cons,List.not_mem_nil,or_false]at hu
 rcases hu with rfl | rfl | rfl | rfl<;> rfl
theorem Tryz.appBlobs :eW Tryz.prog 49 53 4 56:=eW.mk' (z:= .agg #[.string ⟨#[]⟩, .int .i64 0, .int .i64 0, .slice none 0 0]) Tryz.underlying49 (by kernel_rfl) rfl (by decide) (by decide)
structure ed (w : World) (base : Nat) (v : Value) (zs : List iO) : Prop where
 row:w.ownsRow base 53 4 v zs.length (eF zs)
 dat: ∀z∈zs,w.ownsRow base 5 1 z.1 z.2.con.length (z.2.con.map au)
def fZ (k:bI) (c:dN) (gv:Value) (im kb:Nat) (v:Value):List Value:=dh k++dA c++[gv, .map (some im),v, .map (some kb)]
structure ep (w : World) (base bb : Nat) (k : bI) (c : dN) (gv : Value) (im kb : Nat) (v : Value) (bs : List bM) : Prop where
 box:w.heap[bb]? =some (.cells (fZ k c gv im kb v).toArray 122 (0,0))
 own: ∃zs:List iO,zs.map Prod.snd=bs/\ed w base v zs
 known:cb w kb (bs.map bM.ref)
structure cZ (base bb kb : Nat) (v v' : Value) (w w' : World) : Prop where
 below:Below base w w'
 same: ∀k,k<w.heap.size->k≠bb->k≠kb->v.ownBlock≠some k->w'.heap[k]? =w.heap[k]?
 place: ∀k,v'.ownBlock=some k->v.ownBlock=some k\/w.heap.size<=k
theorem cZ.refl (base bb kb:Nat) (v:Value) (w:World):cZ base bb kb v v w w:=⟨Below.refl _ _,fun _ _ _ _ _=>rfl,fun _ h=> .inl h⟩
theorem cZ.trans {base bb kb:Nat} {v v1 v2:Value} {A B C:World} (h:cZ base bb kb v v1 A B) (k:cZ base bb kb v1 v2 B C):cZ base bb kb v v2 A C:=by
 have hs:=h.below.size;refine⟨h.below.trans k.below,fun i h1 h2 h2' h3=>(k.same i (by omega) h2 h2' (fun e=> ?_)).trans (h.same i h1 h2 h2' h3),fun i e=> ?_⟩
 ·rcases h.place i e with e2 | e2
  ·exact h3 e2
  ·omega
 ·rcases k.place i e with e2 | e2
  ·exact h.place i e2
  ·exact .inr (by omega)
theorem cZ.ofBelow {base bb kb:Nat} {v:Value} {w w':World} (h:Below w.heap.size w w') (hb:base<=w.heap.size):cZ base bb kb v v w w':=⟨h.mono hb,fun k h1 _ _ _=>h.block k h1,fun _ e=> .inl e⟩
theorem ed.below {w w':World} {base:Nat} {v:Value} {zs:List iO} (h:ed w base v zs) (hb:Below w.heap.size w w'):ed w' base v zs:=⟨bm h.row hb,fun z hz=>bm (h.dat z hz) hb⟩
theorem ep.below {w w':World} {base bb im kb:Nat} {k:bI} {c:dN} {gv v:Value} {bs:List bM} (h:ep w base bb k c gv im kb v bs) (hb:Below w.heap.size w w'):ep w' base bb k c gv im kb v bs:=by
 obtain⟨zs,h1,h2⟩:=h.own;exact⟨(hb.block _ (lt_of_block h.box)).trans h.box,⟨zs,h1,h2.below hb⟩,h.known.same (hb.block _ h.known.map.lt)⟩
theorem ep.push {w w1 w2:World} {base bb im kb:Nat} {k:bI} {c:dN} {gv v v' dv:Value} {bs:List bM} {zs:List iO} {b:bM} (hz:zs.map Prod.snd=bs) (h:ed w base v zs) (hx:w.heap[bb]? =some (.cells (fZ k c gv im kb v).toArray 122 (0,0))) (hs:cb w kb ((bs++[b]).map bM.ref))
  (hb:Below w.heap.size w w1) (hn:w1.ownsRow base 5 1 dv b.con.length (b.con.map au)) (hown:w2.ownsRow base 53 4 v' (zs.length+1) (eF zs++jC dv b)) (hg:w1.grownBy w2 v.ownBlock) (hpl: ∀k,v'.ownBlock=some k->v.ownBlock=some k\/w1.heap.size<=k) (hbe:base<=bb) (hbz:base<=w.heap.size):
  ep (w2.setCell ⟨bb,12,none⟩ v') base bb k c gv im kb v' (bs++[b])/\cZ base bb kb v v' w (w2.setCell ⟨bb,12,none⟩ v'):=by
 have h1:=h.below hb;have hx1:=(hb.block bb (lt_of_block hx)).trans hx;have hlt:=lt_of_block hx1;have hz1:=hb.size;have hne:v.ownBlock≠some bb:=fun e=>by
  obtain⟨cs,hc⟩:=az h1.row e;exact absurd (aO hx1 hc) (by decide)
 have hne':v'.ownBlock≠some bb:=fun e=>by
  rcases hpl bb e with e | e
  ·exact hne e
  ·omega
 have hb2:=(hg.block bb hlt (fun e=>hne e.symm)).trans hx1;have hdat: ∀(u:Value) (ds:List UInt8),w1.ownsRow base 5 1 u ds.length (ds.map au)->(w2.setCell ⟨bb,12,none⟩ v').ownsRow base 5 1 u ds.length (ds.map au):=by
  intro u ds hd;refine dz hd (fun i hi hu=> ?_);obtain⟨cs,hc⟩:=az hd hu;rw[Below.heap_setCell _ _ _ _ (show i≠bb from fun e=>absurd (aO (e▸hc) hx1) (by decide))];refine hg.block i hi (fun e=> ?_);obtain⟨cs2,hc2⟩:=az h1.row e.symm;exact absurd (aO hc hc2) (by decide)
 have hkb:kb<w1.heap.size:=Nat.lt_of_lt_of_le hs.map.lt hz1;have hks:(w2.setCell ⟨bb,12,none⟩ v').heap[kb]? =w.heap[kb]? :=by
  rw[Below.heap_setCell _ _ _ _ (show kb≠bb from fun e=>hs.cells (by rw[e]; exact hx))];refine(hg.block kb hkb (fun e=> ?_)).trans (hb.block kb hs.map.lt);obtain⟨cs,hc⟩:=az h.row e.symm;exact hs.cells hc
 refine⟨⟨?_,⟨zs++[(dv,b)],by simp[hz], ?_,fun z hz=> ?_⟩,hs.same hks⟩,⟨?_,fun i hi e1 e2 e3=> ?_,fun i e=> ?_⟩⟩
 ·have:=cI (k:=12) hb2 v'
  simpa [fZ,dh,dA]using this
 ·rw[List.length_append,List.length_singleton,uh];exact hown.kept (aF _ _ _ _) (.inr (fun e=>hne' e))
 ·rcases List.mem_append.1 hz with hz | hz
  ·exact hdat _ _ (h1.dat z hz)
  ·rw[List.mem_singleton]at hz;subst hz;exact hdat _ _ hn
 ·exact((hb.mono hbz).grown hg (Nat.le_trans hbz hz1) (fun i hi=>(h.row.lt i hi).1)).grown (aF w2 bb 12 v') (Nat.le_trans hbz (Nat.le_trans hz1 hg.size)) (fun i hi=>by cases hi; exact hbe)
 ·rw[Below.heap_setCell _ _ _ _ (show i≠bb from e1)];exact(hg.block i (by omega) (fun e=>e3 e.symm)).trans (hb.block i hi)
 ·rcases hpl i e with e | e
  ·exact .inl e
  ·exact .inr (by omega)
end Go.Proofs.YtpffpjbkbaleiaaGreatDoor
