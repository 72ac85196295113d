/- Texts of this proof, one after the other: Libc, PathA, PathB, ItemA, ItemB, ItemC, ItemD, Last, ItemE, ShaC, ShaD, ShaE, ShaF, HmacA, Built, Opr, HmacB, R3A. -/
import Derived.Test.YtpffpjbkbaleiaaGreatDoorCReturnsA
set_option maxRecDepth 100000
set_option maxHeartbeats 8000000
namespace Go.Proofs.YtpffpjbkbaleiaaGreatDoor
open Go.RowKit
theorem sK (s:ByteArray) (c:UInt8) (w:World):
  Calls Tryz.prog 134 #[.string s, .string ⟨#[c]⟩] w fun e w'=>e= .returned (.bool ((bl s).contains c))/\w=w':=
 (Tryz.strings_Contains_one s c w).mono fun _ _ ⟨he,hw⟩=>⟨by rw[he]; exact congrArg _ (congrArg _ (ln (bl s) c)),hw.symm⟩
theorem vr (s:ByteArray) (w:World) (he:og w) (hs:s.size<=9223372036854775807):
  Calls Tryz.prog 181 #[.string s] w fun e w'=>e= .returned (.bool (Lib.validD (bl s)))/\Below w.heap.size w w':=Tryz.utf8_ValidString s w hs he.tabs
theorem qp (x y:Int) (w:World):
  Calls Tryz.prog 151 #[.int .i64 x, .int .i64 y] w fun e w'=>e= .returned (.int .i64 (Lib.compareInt x y))/\w=w':=
 (Tryz.cmp_Compare_int x y w).mono fun _ _ ⟨he,hw⟩=>⟨he,hw.symm⟩
def Ih (c:UInt8) (s:ByteArray) (w:World) (e:Ending) (w':World):Prop:=
 ∃xs:List ByteArray,xs.map bl=dd c (bl s)/\e= .returned (.slice (some ⟨w.heap.size,0,none⟩) xs.length xs.length)/\w'=w.alloc (.cells (xs.map Value.string).toArray 9)
theorem Ki (s:ByteArray) (c:UInt8) (w:World) (he:og w) (hs:s.size<4294967281):
  Calls Tryz.prog 127 #[.string s, .string ⟨#[c]⟩] w (Ih c s w):=by
 obtain⟨m,hm⟩:=he.maxLen;refine(Tryz.strings_Split s ⟨#[c]⟩ m w hs hm (by simp[ByteArray.size])).mono fun e w' ⟨h1,h2⟩=> ?_
 refine⟨Lib.splitB ⟨#[c]⟩ 0 (Lib.countB s ⟨#[c]⟩) s,Kg c s, ?_,h2⟩;rw[FD]; exact h1
def nC (l:List UInt8):Int:=if 47∈l then((cu l).length:Int)else -1
theorem OQ (c:UInt8) (h:(c.toNat:Int)=47):c=47:=by
 apply gH.1
 have:c.toNat=47:=by omega
 rw[this]; rfl
theorem Bb (s:ByteArray):Lib.lastIndexByte s 47=nC (bl s):=by
 unfold Lib.lastIndexByte;have get: ∀j,(hj:j<(bl s).length)->s.data[j]! =(bl s)[j]:=fun j hj=>by
  have h2:j<s.data.size:=by rw[<-bi]at hj; exact hj
  rw[getElem!_pos s.data j h2];exact(Array.getElem_toList (xs:=s.data) h2).symm
 rw[bi]
 generalize hl:bl s=l at *
 rcases Lib.lastIdx_spec s 47 l.length with⟨h1,h2⟩ | ⟨i,h1,h2,h3,h4⟩
 ·rw[h1];have:47∉l:=by
   intro hm;obtain⟨j,hj,e⟩:=dT hm;refine h2 j hj ?_;rw[get j hj,e]; rfl
  simp[nC,this]
 ·have e:l=l.take i++47::l.drop (i+1):=by
   have:=OQ _ h3;rw[get i h1]at this;rw[<-this]; simp
  have hq:47∉l.drop (i+1):=by
   intro hm;obtain⟨j,hj,e⟩:=dT hm;rw[bA]at hj;refine h4 (i+1+j) (by omega) (by omega) ?_;rw[get _ (by omega)];rw[List.getElem_drop]at e;rw[e]; rfl
  have hp:cu l=l.take i:=by
   have:=lx (l.take i) _ hq;rw[<-e]at this; exact this
  have hm:47∈l:=by rw[e]; simp
  rw[h2,nC,if_pos hm,hp,bm]
  congr 1; omega
theorem yk (s:ByteArray) (w:World) (hs:s.size<4611686018427387904):
  Calls Tryz.prog 120 #[.string s, .string ⟨#[47]⟩] w fun e w'=>e= .returned (.int .i64 (nC (bl s)))/\w=w':=
 (Tryz.strings_LastIndex_one s ⟨#[47]⟩ rfl hs w).mono fun _ _ ⟨he,hw⟩=>⟨by rw[he]; exact congrArg _ (congrArg _ (Bb s)),hw.symm⟩
theorem MK {s:ByteArray} {p q:Nat} (h: ∀j,j<p->j<s.size->32<=(s.get! j).toNat) (h2: ∀j,p<=j->j<q->128<=(s.get! j).toNat): ∀j,j<q->j<s.size->32<=(s.get! j).toNat:=by
 intro j hj hs
 rcases dI j p with h' | h'
 ·exact h j h' hs
 ·have:=h2 j h' hj; omega
theorem rU (s:ByteArray) (j:Nat) (h:j<s.size):s.get! j=(bl s)[j]'(by rw[<-bi]; exact h):=by
 have e:s.get! j=s.data[j]! :=rfl;have h2:j<s.data.size:=h;rw[e,getElem!_pos s.data j h2];simp[bl]
theorem GC {s:ByteArray} (h: ∀j,j<s.size->32<=(s.get! j).toNat):rg (bl s)=true:=by
 unfold rg;rw[cz];intro c hc;obtain⟨j,hj,rfl⟩:=dT hc;have ha:j<s.size:=by rw[bi]; exact hj
 have:=h j ha;rw[rU s j ha]at this
 simpa using this
theorem CX {s:ByteArray} {j:Nat} (hj:j<s.size) (h:(s.get! j).toNat<32):rg (bl s)=false:=by
 unfold rg;rw[List.all_eq_false];rw[rU s j hj]at h;exact⟨(bl s)[j]'(by rw[<-bi]; exact hj),List.getElem_mem _,by rw[aK]; omega⟩
theorem wt (s:ByteArray) (pos:Nat) (h:pos<s.size):
  ((s.get! pos).toNat<128/\Utf8.decode s pos=((s.get! pos).toNat,1))\/(128<=(s.get! pos).toNat/\128<=(Utf8.decode s pos).1):=by
 have e:=get_at s pos h;rw[de]at e
 rcases dI (s.get! pos).toNat 128 with h1 | h1
 ·exact .inl ⟨h1,by rw[decode_ascii s pos h (by rw[<-e]; exact h1),<-e]⟩
 ·exact .inr ⟨h1,(decode_high s pos h (by rw[<-e]; exact h1)).1⟩
theorem EI (s:ByteArray) (w:World) (he:og w) (hs:s.size<=9223372036854775807):
  Calls Tryz.prog 160 #[.string s] w fun e w'=>e= .returned (.bool (xJ (bl s)))/\Below w.heap.size w w':=by
 have HE:=an he;clear he
 go_enter Tryz.func160,Tryz.ntmps160
 go_wp2
 go_loopw [4] (fun _ wr=> ∃pos:Nat,wr=w.iter s pos/\ ∀j,j<pos->j<s.size->32<=(s.get! j).toNat) (fun _ wr=>s.size-wr.iterPos w.heap.size)
 case atStart=>exact⟨0,rfl,fun j hj=>by omega⟩
 case round=>
  obtain⟨pos,rfl,ha⟩:=hrel;have HL:=an ha;clear ha
  by_cases hp:pos<s.size
  ·have hk: ∀ty,(Instr.next (.pointer (some ⟨w.heap.size,0,none⟩)) true ty).run Tryz.prog (w.iter s pos)=_:=fun ty=>run_next_any w s pos ty hp
   go_wp2
   ·go_ret;refine⟨bY ?_,eN⟩;have hf:((Utf8.decode s pos).1:Int)<32:=by assumption
    have hd:=wt s pos hp;have hg:(s.get! pos).toNat<32:=by
     rcases hd with⟨_,h2⟩ | ⟨_,h2⟩
     ·rw[h2]at hf; simp only at hf; omega
     ·omega
    simp[xJ,CX hp hg]
   ·go_roundw
    case rel=>
     refine⟨pos+(Utf8.decode s pos).2,rfl, ?_⟩;have hc:(32:Int)<=(Utf8.decode s pos).1:=by assumption
     rcases wt s pos hp with⟨h1,h2⟩ | ⟨h1,h2⟩
     ·intro j hj hh;rw[h2]at hc hj
      rcases dI j pos with h3 | h3
      ·exact HL.o j h3 hh
      ·rw[show j=pos by simp at hj; omega]; simp at hc; omega
     ·exact MK HL.o (Cj s pos hp h1).2
    case measure=>
     rw[World.iterPos_iter,World.iterPos_iter];have:=Lib.width_pos s pos;omega
  ·have hk: ∀ty,(Instr.next (.pointer (some ⟨w.heap.size,0,none⟩)) true ty).run Tryz.prog (w.iter s pos)=_:=fun ty=>run_next_end w s pos ty hp
   go_wp2_with (go_at_call 181; refine(vr s _ (HE.o.below (eN)) hs).mono ?_; rintro e w' ⟨rfl,hb⟩);go_ret;refine⟨bY ?_,aw (eN) hb⟩;simp only[xJ,GC (fun j hj=>HL.o j (by omega) hj),gP]
theorem qd (s:ByteArray) (w:World) (he:og w) (hs:s.size<=9223372036854775807):
  Calls Tryz.prog 128 #[.string s] w fun e w'=>e= .returned (.bool (iK (bl s)))/\Below w.heap.size w w':=by
 have HE:=an he;clear he
 go_enter Tryz.func128,Tryz.ntmps128
 go_wp2_with (first
  | (go_at_call 134; refine(sK _ _ _).mono ?_; rintro e w' ⟨rfl,rfl⟩)
  | (go_at_call 160; refine(EI _ _ HE.o hs).mono ?_; rintro e w' ⟨rfl,hb⟩))
 all_goals (go_ret; refine⟨bY ?_,by first | exact ay _ _ | exact hb⟩)
 all_goals (rw[dk]; simp_all [iK,eB,bi])
 all_goals first | omega | (intros; omega)
def Nq (s:ByteArray) (w:World) (e:Ending) (w':World):Prop:=
 ∃v xs,e= .returned (.tuple #[v, .int .i64 0])/\xs.map bl=dd 47 (bl s)/\lF (w.heap.size<= ·) w' v xs/\Below w.heap.size w w'
def KJ (w:World) (e:Ending) (w':World):Prop:=e= .returned (.tuple #[.slice none 0 0, .int .i64 1])/\Below w.heap.size w w'
def KK (s:ByteArray) (w:World) (e:Ending) (w':World):Prop:=(dB (bl s)=true/\Nq s w e w')\/(dB (bl s)=false/\KJ w e w')
theorem DA {w:World} {xs:List Value} {e:TypeId} {k:Nat} {x:Value} (hx:xs[k]? =some x):(w.alloc (.cells xs.toArray e)).cell? ⟨w.heap.size,k,none⟩=some x:=by
 have h:=aH w (.cells xs.toArray e);simp only[World.cell?,h];simp[hx]
theorem GD {xs:List ByteArray} {k:Nat} {x:ByteArray} (hx:xs[k]? =some x):(xs.map Value.string)[k]? =some (.string x):=by simp[hx]
theorem Kh {xs:List ByteArray} {s:ByteArray} (hx:xs.map bl=dd 47 (bl s)) (h1:(bl s).length<=512) (h2:xs.length<=16) (h: ∀(j:Nat) x,j<xs.length->xs[j]? =some x->iK (bl x)=true):dB (bl s)=true:=by
 have hl:(dd 47 (bl s)).length=xs.length:=by rw[<-hx]; simp
 have ha:(dd 47 (bl s)).all iK=true:=by
  rw[<-hx,List.all_map,cz];intro x hm;obtain⟨j,hj,rfl⟩:=dT hm;exact h j _ hj (by simp)
 simp[dB,h1,hl,h2,ha]
theorem Ak {xs:List ByteArray} {s:ByteArray} {j:Nat} {x:ByteArray} (hx:xs.map bl=dd 47 (bl s)) (h:xs[j]? =some x) (hc:iK (bl x)=false):dB (bl s)=false:=by
 have ha:(dd 47 (bl s)).all iK=false:=by
  rw[<-hx,List.all_map,List.all_eq_false];exact⟨x,aS h,by simp[hc]⟩
 simp[dB,ha]
theorem Kk {xs:List ByteArray} {s:ByteArray} (hx:xs.map bl=dd 47 (bl s)) (h: ¬xs.length<=16):dB (bl s)=false:=by
 have hl:(dd 47 (bl s)).length=xs.length:=by rw[<-hx]; simp
 simp[dB,hl,h]
theorem FE {s:ByteArray} (h: ¬(bl s).length<=512):dB (bl s)=false:=by simp[dB,h]
theorem sX (c:UInt8) (l:List UInt8): ∀p∈dd c l,p.length<=l.length:=by
 induction l with
 | nil=>simp[dd]
 | cons b l ih=>
  unfold dd
  split
  ·intro p hp; rcases bh.1 hp with rfl | hp
   ·simp
   ·have:=ih p hp; simp; omega
  ·split
   ·rename_i h t e;rw[e]at ih;intro p hp; rcases bh.1 hp with rfl | hp
    ·have:=ih h (by simp); simp; omega
    ·have:=ih p (by simp[hp]); simp; omega
   ·intro p hp; simp at hp; simp[hp]
theorem zS {xs:List ByteArray} {s:ByteArray} {c:UInt8} {j:Nat} {x:ByteArray} (hx:xs.map bl=dd c (bl s)) (h:xs[j]? =some x):x.size<=s.size:=by
 rw[bi,bi];exact sX c (bl s) (bl x) (by rw[<-hx]; exact aW.2 ⟨x,aS h,rfl⟩)
theorem MF {w w':World} {xs:List ByteArray} {e:TypeId} (hl:xs.length<=maxLen) (hb:Below (w.heap.size+1) (w.alloc (.cells (xs.map Value.string).toArray e)) w'):
  lF (w.heap.size<= ·) w' (.slice (some ⟨w.heap.size,0,none⟩) xs.length xs.length) xs:=by
 refine⟨by simp,some ⟨w.heap.size,0,none⟩,xs.length,rfl,au _,hl, .inr ⟨w.heap.size,0,rfl,au _,fun j u hu=> ?_⟩⟩;rw[hb.cell (p:=⟨w.heap.size,0+j,none⟩) (by simp),bX];exact DA hu
theorem qO (s:ByteArray) (w:World) (he:og w):Calls Tryz.prog 82 #[.string s] w (KK s w):=by
 have HE:=an he;clear he
 by_cases h5:s.size<=512
 ·go_enter Tryz.func82,Tryz.ntmps82
  go_wp2_with fail;refine(Ki s 47 w HE.o (by omega)).mono ?_;rintro e w' ⟨xs,hx,rfl,rfl⟩;have hn:xs.length<=513:=by
   have h1:(dd 47 (bl s)).length=xs.length:=by rw[<-hx]; simp
   have h2:=oR 47 (bl s);rw[<-bi]at h2;omega
  have HX:=an hx;clear hx
  by_cases hf:xs.length<=16
  ·go_wp2_with fail
   go_loopw [17] (fun i wr=> ∃k:Nat,k<=xs.length/\i= .int .i64 k/\Below (w.heap.size+1) (w.alloc (.cells (xs.map Value.string).toArray 9)) wr/\ ∀(j:Nat) x,j<k->xs[j]? =some x->iK (bl x)=true) (fun i _=>xs.length-(intOf i).toNat)
   case atStart=>exact⟨0,aX _,rfl,ay _ _,fun j x hj=>by omega⟩
   case round=>
    obtain⟨k,hk,rfl,hb,ha⟩:=hrel;have HA:=an ha;clear ha
    by_cases hm:k<xs.length
    ·obtain⟨x,hx⟩: ∃x,xs[k]? =some x:=⟨xs[k],by simp[hm]⟩;have hg:wr.cell? ⟨w.heap.size,k,none⟩=some (.string x):=(hb.cell (p:=⟨w.heap.size,k,none⟩) (by simp)).trans (DA (GD hx));have hl:x.size<=9223372036854775807:=by have:=zS HX.o hx; omega
     have HK:=an hx;have HB:=an hb;clear hx hb
     cases hc:iK (bl x)
     ·have HC:=an hc;clear hc;go_wp2_with (go_at_call 128; refine(qd x wr (HE.o.below (aw (eN) (by simpa using HB.o))) hl).mono ?_; rintro e w' ⟨rfl,hd⟩; rw[HC.o])
      go_ret2
      refine .inr ⟨Ak HX.o HK.o HC.o,rfl, ?_⟩;exact aw (aw (eN) (by simpa using HB.o)) hd
     ·have HC:=an hc;clear hc;go_wp2_with (go_at_call 128; refine(qd x wr (HE.o.below (aw (eN) (by simpa using HB.o))) hl).mono ?_; rintro e w' ⟨rfl,hd⟩; rw[HC.o])
      go_roundw
      case rel=>
       refine⟨k+1,by omega,by go_num,HB.o.trans (hd.mono (by have:=HB.o.size; simpa using this)),fun j x' hj hh=> ?_⟩
       rcases dI j k with h | h
       ·exact HA.o j x' h hh
       ·obtain rfl:j=k:=by omega
        have:=HK.o.symm.trans hh
        cases this
        exact HC.o
      case measure=>simp[intOf]; omega
    ·have HB:=an hb;clear hb
     go_wp2
     go_ret2
     refine .inl ⟨Kh HX.o (by rw[<-bi]; exact h5) hf (fun j x hj hx=>HA.o j x (by omega) hx),_,xs,rfl,HX.o,MF (by unfold maxLen; omega) HB.o, ?_⟩;exact aw (eN) (by simpa using HB.o)
  ·go_wp2_with fail
   go_ret2
   exact .inr ⟨Kk HX.o hf,rfl,eN⟩
 ·go_enter Tryz.func82,Tryz.ntmps82
  go_wp2_with fail
  go_ret2
  exact .inr ⟨FE (by rw[<-bi]; exact h5),rfl,ay _ _⟩
theorem uu (s:ByteArray) (w:World) (he:og w):
  Calls Tryz.prog 119 #[.string s] w fun e w'=>e= .returned (.bool (dB (bl s)))/\Below w.heap.size w w':=by
 go_enter Tryz.func119,Tryz.ntmps119
 go_wp2_with fail;refine(qO s w he).mono ?_;rintro e w' (⟨hv,v,xs,rfl,-,-,hb⟩ | ⟨hv,rfl,hb⟩)
 ·go_wp2
  go_ret;exact⟨bY (by rw[hv]),hb⟩
 ·go_wp2
  go_ret;exact⟨bY (by rw[hv]),hb⟩
def nh (c:Int):Int:=if c=47 then -1 else c
theorem Mq (c:Int) (w:World) (h0:0<=c) (h1:c<=255):Calls Tryz.prog 150 #[.int .u8 c] w fun e w'=>e= .returned (.int .i64 (nh c))/\w=w':=by
 by_cases h:c=47
 ·subst h
  go_enter Tryz.func150,Tryz.ntmps150
  go_wp2
  go_ret;exact⟨rfl,rfl⟩
 ·have hr:nh c=c:=if_neg h;have HR:=an hr;clear hr;have h2:(c == 47)=false:=by simpa using h
  go_enter Tryz.func150,Tryz.ntmps150
  go_wp2
  go_ret;exact⟨dK HR.o.symm,rfl⟩
theorem Nz (l r:List UInt8) (h:l=[]\/r=[]):fg l r=Lib.compareInt (l.length:Int) r.length:=by
 rcases h with rfl | rfl
 ·cases r
  ·simp[fg,Lib.compareInt]
  ·rw[fg,Lib.compareInt,if_pos (by simp<;> omega)]
 ·cases l
  ·simp[fg,Lib.compareInt]
  ·rw[fg,Lib.compareInt,if_neg (by simp<;> omega),if_pos (by simp<;> omega)]
theorem wl (x y:Int) (k:Int):Lib.compareInt (x-k) (y-k)=Lib.compareInt x y:=by
 unfold Lib.compareInt;have h1:(x-k<y-k)<->(x<y):=by omega
 have h2:(x-k>y-k)<->(x>y):=by omega
 simp only[h1,h2]
theorem vC {l r:List UInt8} {k:Nat} (hk1:k<=l.length) (hk2:k<=r.length) (h:k=l.length\/k=r.length):fg (l.drop k) (r.drop k)=Lib.compareInt (l.length:Int) r.length:=by
 rw[Nz _ _ (by rcases h with rfl | rfl<;> simp)];rw[bA,bA,<-wl (l.length:Int) r.length k]
 congr 1<;> omega
theorem BZ {l r:List UInt8} {k:Nat} (hl:k<l.length) (hr:k<r.length) (h:l[k]=r[k]):fg (l.drop k) (r.drop k)=fg (l.drop (k+1)) (r.drop (k+1)):=by
 rw[cI hl,cI hr,fg,if_pos h]
theorem wj {l r:List UInt8} {k:Nat} (hl:k<l.length) (hr:k<r.length) (h:l[k]≠r[k]):fg (l.drop k) (r.drop k)=Lib.compareInt (il l[k]) (il r[k]):=by
 rw[cI hl,cI hr,fg,if_neg h]
theorem kE (s:ByteArray) (k:Nat) (h:k<s.size):s[k]=(bl s)[k]'(by rw[<-bi]; exact h):=by
 exact(Array.getElem_toList (xs:=s.data) h).symm
theorem tq (c:UInt8):nh c.toNat=il c:=by
 unfold nh il
 by_cases h:c=47
 ·subst h; rfl
 ·rw[if_neg h,if_neg];intro e; apply h; apply gH.1; have:c.toNat=47:=by omega
  rw[this]; rfl
theorem Cd (a b:ByteArray) (w:World) (ha:a.size<=9223372036854775807):
  Calls Tryz.prog 118 #[.string a, .string b] w fun e w'=>e= .returned (.int .i64 (fg (bl a) (bl b)))/\Below w.heap.size w w':=by
 go_enter Tryz.func118,Tryz.ntmps118
 go_wp2_with fail;obtain⟨m,hm⟩: ∃m:Nat,min (a.size:Int) (b.size:Int)=m:=⟨min a.size b.size,by omega⟩;have hl:m<=a.size:=by omega
 have hn:m<=b.size:=by omega
 have hf:m=a.size\/m=b.size:=by omega
 rw[hm];have HM:=an hf;clear hm hf
 go_loopw [12] (fun i wr=> ∃k:Nat,k<=m/\i= .int .i64 k/\Below w.heap.size w wr/\fg (bl a) (bl b)=fg ((bl a).drop k) ((bl b).drop k)) (fun i _=>m-(intOf i).toNat)
 case atStart=>exact⟨0,aX _,rfl,ay _ _,rfl⟩
 case round=>
  obtain⟨k,hk,rfl,he,hc⟩:=hrel;have HC:=an hc;have HB:=an he;clear hc he
  by_cases hj:k<m
  ·have h1:(k:Int)<(a.size:Int):=by omega
   have h2:(k:Int)<(b.size:Int):=by omega
   have h3:k<a.size:=by omega
   have h4:k<b.size:=by omega
   by_cases hq:a[k]=b[k]
   ·have hh:(((a[k]).toNat:Int) != (b[k]).toNat)=false:=by simp[hq]
    have HQ:=an hq;clear hq;go_wp2_with fail
    go_quiet (fail)
    go_wp2_with fail
    go_roundw
    case rel=>
     refine⟨k+1,by omega,by go_num,fO HB.o nq, ?_⟩;rw[HC.o];refine BZ (by rw[<-bi]; exact h3) (by rw[<-bi]; exact h4) ?_;rw[<-kE,<-kE]; exact HQ.o
    case measure=>simp[intOf]; omega
   ·have hh:(((a[k]).toNat:Int) != (b[k]).toNat)=true:=by
     rw[bne_iff_ne]; intro e; apply hq; exact gH.1 (by omega)
    have HQ:=an hq;clear hq;go_wp2_with fail
    go_quiet (fail)
    go_wp2_with fail;have hW: ∃W,W=wr.drewN nq/\Below w.heap.size w W:=⟨_,rfl,fO HB.o nq⟩;obtain⟨W,hd,hb⟩:=hW;rw[<-hd];have hg:=an hb;clear hd hb HB;have ho:=(a[k]).toNat_lt;have hp:=(b[k]).toNat_lt
    go_quiet ((first | (go_at_call 150; refine kT (Mq _ _ (by omega) (by omega))) | (go_at_call 151; refine kT (qp _ _ _))))
    go_wp2_with fail;go_ret;refine⟨dK ?_,fO hg.o _⟩;rw[tq,tq,HC.o,wj (by rw[<-bi]; exact h3) (by rw[<-bi]; exact h4) (by rw[<-kE,<-kE]; exact HQ.o),<-kE,<-kE]
  ·go_wp2_with (go_at_call 151; refine(qp _ _ _).mono ?_; rintro e w' ⟨rfl,rfl⟩);go_ret;refine⟨dK ?_,HB.o⟩;have hM:=HM.o;rw[HC.o,vC (by rw[<-bi]; omega) (by rw[<-bi]; omega) (by rw[<-bi,<-bi]; omega),<-bi,<-bi]
theorem Ff (s:ByteArray) (w:World) (he:og w) (hv:dB (bl s)=true):
  Calls Tryz.prog 72 #[.string s] w fun e w'=>e= .returned (.tuple #[.string ⟨(cu (bl s)).toArray⟩, .bool true])/\Below w.heap.size w w':=by
 have HV:=an hv;have h5:s.size<=512:=by simp only[dB,aJ,aK]at hv; rw[bi]; exact hv.1.1
 have hl:(cu (bl s)).length<=s.size:=by rw[tn,bm,bi]; omega
 clear hv
 go_enter Tryz.func72,Tryz.ntmps72
 go_wp2_with fail;refine(uu s w he).mono ?_;rintro e w1 ⟨rfl,ha⟩;rw[HV.o];have hb:=an ha;clear ha;go_wp2_with fail;refine(yk s w1 (by omega)).mono ?_;rintro e w2 ⟨rfl,rfl⟩;obtain⟨n,hn⟩: ∃n:Nat,n=(cu (bl s)).length:=⟨_,rfl⟩;have hc:max (nC (bl s)) 0=(n:Int):=by
  unfold nC
  split
  ·omega
  ·rename_i h; rw[hn,nX _ h]; rfl
 have hd:n<=s.size:=by omega
 have HN:=an hn;clear hn hl;go_wp2_with fail
 go_ret2
 refine⟨?_,hb.o⟩;have e:s.extract 0 n=⟨(cu (bl s)).toArray⟩:=jP (by rw[pC,iu (cu (bl s)),HN.o,bT,<-tn]);rw[<-e]; rfl
def DT (data:List UInt8) (most:Nat) (s:RS):List UInt8×RS:=rv [] (ki data s.off most) s
def vp (data:List UInt8) (s:RS):Nat×RS:=rv 0 (ol data s.off) s
def smP (data:List UInt8) (s:RS):List UInt8×RS:=rv [] (kA data s.off 32) s
def AO (data:List UInt8) (most:Nat) (s:RS):Nat×RS:=rv 0 (mW data s.off most) s
def ob (n:Nat):Int:=wrap64 (n:Int)
def rB (data:List UInt8) (s:RS):cX×RS:=
 (⟨⟨(smP data s).1.toArray⟩,ob (vp data (smP data s).2).1,ob (vp data (vp data (smP data s).2).2).1⟩,(vp data (vp data (smP data s).2).2).2)
theorem MN (n:Nat):(Lit.int .i64 (ob n)).wf=true:=by
 exact wrap64_wf _
def ld (r:cX):Bool:=decide (r.name.size=32) && decide (0<=r.gen) && decide (r.gen<=1099511627776) && decide (0<=r.size) && decide (r.size<=32768)
theorem tK (r:cX) (w:World) (hr:eC r):Calls Tryz.prog 77 #[fa r] w fun e w'=>e= .returned (.bool (ld r))/\Below w.heap.size w w':=by
 obtain⟨n,g,s⟩:=r;obtain⟨h1,h2,h3⟩:=hr;unfold maxLen at h1;simp only[fa,ld]at *
 go_enter Tryz.func77,Tryz.ntmps77
 go_wp2_with fail
 all_goals (go_ret; refine⟨bY ?_,eN⟩; rw[dk]; simp; omega)
theorem PJ (rb:Nat) (v:Value) (data:List UInt8) (s:RS) (w:World) (hr:sD w rb v data s):
  Calls Tryz.prog 113 #[.pointer (some ⟨rb,0,none⟩)] w fun e w'=> ∃bs s1,smP data s=(bs,s1)/\e= .returned (.string ⟨bs.toArray⟩)/\sD w' rb v data s1/\w.grownBy w' (some rb):=
 (Ov rb v data s w hr).mono fun _ _ ⟨h1,h2,h3⟩=>⟨_,_,rfl,h1,h2,h3⟩
theorem xL (rb:Nat) (v:Value) (data:List UInt8) (s:RS) (w:World) (hr:sD w rb v data s):
  Calls Tryz.prog 61 #[.pointer (some ⟨rb,0,none⟩)] w fun e w'=> ∃n s1,vp data s=(n,s1)/\e= .returned (.int .u64 (n:Int))/\sD w' rb v data s1/\w.grownBy w' (some rb):=
 (MS rb v data s w hr).mono fun _ _ ⟨h1,h2,h3⟩=>⟨_,_,rfl,h1,h2,h3⟩
theorem MM (rb:Nat) (v:Value) (data:List UInt8) (s:RS) (most:Nat) (w:World) (hr:sD w rb v data s) (hm:most<=2000000):
  Calls Tryz.prog 60 #[.pointer (some ⟨rb,0,none⟩), .int .i64 (most:Int)] w fun e w'=> ∃bs s1,DT data most s=(bs,s1)/\e= .returned (.string ⟨bs.toArray⟩)/\sD w' rb v data s1/\w.grownBy w' (some rb):=
 (ML rb v data s most w hr hm).mono fun _ _ ⟨h1,h2,h3⟩=>⟨_,_,rfl,h1,h2,h3⟩
theorem Gq (rb:Nat) (v:Value) (data:List UInt8) (s:RS) (most:Nat) (w:World) (hr:sD w rb v data s) (hm:most<=2000000):
  Calls Tryz.prog 59 #[.pointer (some ⟨rb,0,none⟩), .int .i64 (most:Int)] w fun e w'=> ∃n s1,AO data most s=(n,s1)/\e= .returned (.int .i64 (n:Int))/\sD w' rb v data s1/\w.grownBy w' (some rb):=
 (IG rb v data s most w hr hm).mono fun _ _ ⟨h1,h2,h3⟩=>⟨_,_,rfl,h1,h2,h3⟩
theorem ng {w w':World} {r b:Nat} {o:Obj} (hg:w.grownBy w' (some r)) (h:w.heap[b]? =some o) (hne:b≠r):w'.heap[b]? =some o:=
 (hg.block b ((aP.1 h).1) (by simpa using hne)).trans h
theorem mT {w:World} {b:Nat} {o:Obj} (h:w.heap[b]? =some o) (x:Obj):(w.alloc x).heap[b]? =some o:=by
 rw[cP _ _ _ ((aP.1 h).1)]; exact h
theorem jf {w:World} {b k:Nat} {cs:Array Value} {t:TypeId} (h:w.heap[b]? =some (.cells cs t (0,0))) (x:Value):(w.setCell ⟨b,k,none⟩ x).heap[b]? =some (.cells (cs.setIfInBounds k x) t (0,0)):=by
 simp only[World.setCell,gz,if_true,h,ep]; rfl
theorem Ka {w:World} {b c k:Nat} {o:Obj} (h:w.heap[b]? =some o) (hne:b≠c) (x:Value):(w.setCell ⟨c,k,none⟩ x).heap[b]? =some o:=by
 rw[aF _ _ _ _ hne]; exact h
theorem MB {w w':World} {r:Option Nat} (hg:w.grownBy w' r):w.heap.size<=w'.heap.size:=hg.size
theorem nB {w w':World} {r:Option Nat} {b:Nat} (h:w.grownBy w' r) (hb:w.heap.size<=b) {k:Nat} (x:Value):w.grownBy (w'.setCell ⟨b,k,none⟩ x) r:=
 ⟨h.os,h.tape,h.output,by have:=h.size; simpa [World.setCell]using this,fun i hi hn=>by rw[aF _ _ _ _ (by show i≠b; omega)]; exact h.block i hi hn⟩
def OJ (data:List UInt8) (rb:Nat) (v:Value) (s:RS) (w:World) (e:Ending) (w':World):Prop:=
 ∃r s1,rB data s=(r,s1)/\e= .returned (fa r)/\sD w' rb v data s1/\w.grownBy w' (some rb)/\eC r
theorem Ot (data:List UInt8) (s:RS):(smP data s).1.length<=32:=by
 unfold smP rv kA
 split
 ·split
  ·rename_i x o h
   split at h
   ·simp at h
   ·simp only[dr,cW]at h;obtain⟨rfl,rfl⟩:=h
    simp; omega
  ·simp
 ·simp
theorem GS (data:List UInt8) (s:RS):eC (rB data s).1:=⟨by
 have:=Ot data s
 show ByteArray.size ⟨_⟩<=_
 unfold maxLen;simp[ByteArray.size]; omega,MN _,MN _⟩
theorem uZ (rb:Nat) (v:Value) (data:List UInt8) (s:RS) (w:World) (hr:sD w rb v data s):
  Calls Tryz.prog 62 #[.pointer (some ⟨rb,0,none⟩)] w (OJ data rb v s w):=by
 have HR:=an hr;have hs:=dp.lt hr;clear hr
 go_enter Tryz.func62,Tryz.ntmps62
 go_wp2_with fail;refine(PJ rb v data s _ (dp.below HR.o (eN))).mono ?_;rintro e w1 ⟨bs,s1,hj,rfl,h1,h2⟩;have hn:=an hj;have H1:=an h1;have hz:=MB h2;simp at hz;have HB:=an (ng h2 (aH w _) (by omega));have HG:=an (ci (gw (eN) (some rb)) h2);clear hj h1 h2;go_wp2_with fail;refine(xL rb v data s1 _ (dp.below H1.o (eN))).mono ?_
 rintro e w2 ⟨g,s2,hk,rfl,h1,h2⟩;have ho:=an hk;have H2:=an h1;have HX:=an (ng h2 (aH w1 _) (by omega));have hd:=an (ng h2 (mT HB.o _) (by omega));have hf:=an (ci HG.o (ci (gw (eN) (some rb)) h2));have hq:=MB h2;simp at hq;have k1:=bH (k:=1) HX.o;have f1:=dy (k:=1) HX.o;simp only[ak,am,aj]at k1
 clear hk h1 h2 HB HG H1;go_wp2_with fail;obtain⟨w3,ha⟩: ∃w3,w3=w2.setCell ⟨w1.heap.size,1,none⟩ (.int .i64 (wrap64 (g:Int))):=⟨_,rfl⟩;rw[<-ha];have H3:=an (show sD w3 rb v data s2 by rw[ha]; exact dp.setOther HR.o H2.o (by omega) _);have x3:=jf (k:=1) HX.o (.int .i64 (wrap64 (g:Int)));have y3:=Ka (k:=1) hd.o (show w.heap.size≠w1.heap.size by omega) (.int .i64 (wrap64 (g:Int)))
 rw[<-ha]at x3 y3;simp only[ag,ai,ah]at x3;have hh:=an x3;have he:=an y3;clear x3 y3;have hg:=an (show w.grownBy w3 (some rb) by rw[ha]; exact nB hf.o (by omega) _);have hu:w2.heap.size=w3.heap.size:=by rw[ha]; simp[World.setCell]
 clear ha k1 f1 HX hd hf H2;refine(xL rb v data s2 _ H3.o).mono ?_;rintro e w4 ⟨z,s3,hl,rfl,h1,h2⟩;have hp:=an hl;have H4:=an h1;have hv:=MB h2;have hc:=an (ng h2 hh.o (by omega));have hb:=an (ng h2 he.o (by omega));have hm:=an (ci hg.o h2);have k0:=bH (k:=0) hc.o;have k1:=bH (k:=1) hc.o;have k2:=bH (k:=2) hc.o;have f2:=dy (k:=2) hc.o
 have b0:=bH (k:=0) hb.o;have b1:=bH (k:=1) hb.o;have b2:=bH (k:=2) hb.o;obtain⟨g0,g1,g2,_⟩:=gu hb.o;simp at k0 k1 k2 b0 b1 b2;clear hl h1 h2 hh he hg H3;go_wp2_with fail;have e1:rB data s=(⟨⟨bs.toArray⟩,wrap64 (g:Int),wrap64 (z:Int)⟩,s3):=by simp only[rB,hn.o,ho.o,hp.o,ob]
 refine cN (v:=fa ⟨⟨bs.toArray⟩,wrap64 (g:Int),wrap64 (z:Int)⟩) (by simp[results,Tryz.results62,go_sem,fa,b0,b1,b2]) rfl ⟨_,_,e1,rfl, ?_, ?_, ?_⟩
 ·exact dp.setOther HR.o (dp.setOther HR.o (dp.setOther HR.o (dp.setOther HR.o H4.o (by omega) _) (by omega) _) (by omega) _) (by omega) _
 ·exact nB (nB (nB (nB hm.o (by omega) _) (by omega) _) (by omega) _) (by omega) _
 ·have:=GS data s;rw[e1]at this; exact this
def mY (l:List cX):Int:=l.foldl (fun a r=>wrap64 (a+r.size)) 0
theorem An (l:List cX) (r:cX):mY (l++[r])=wrap64 (mY l+r.size):=by unfold mY; rw[eF]; rfl
theorem dZ {α:Type} {l:List α} {k:Nat} {x:α} (h:l[k]? =some x):l.take (k+1)=l.take k++[x]:=by
 obtain⟨hk,rfl⟩:=aN.1 h;exact List.take_succ_eq_append_getElem hk
theorem oE {S:Nat->Prop} {w w':World} {a:Option Addr} {n cap:Nat} {rs:List cX} (hv:dA S w (.slice a n cap) rs) (hb:Below w.heap.size w w') {k:Nat} {r:cX} (hr:rs[k]? =some r):
  ∃b o,a=some ⟨b,o,none⟩/\eC r/\w'.cell? ⟨b,o+k*3,none⟩=some (.string r.name)/\w'.cell? ⟨b,o+k*3+1,none⟩=some (.int .i64 r.gen)/\w'.cell? ⟨b,o+k*3+2,none⟩=some (.int .i64 r.size):=by
 obtain⟨a',cap',hd,_,_,hx⟩:=cL.shape hv oJ.len
 cases hd
 obtain⟨b,o,c,rfl,_,⟨rfl,hc⟩,_,ha⟩:=hx k r hr;have q0:=ha 0 (by omega);have q1:=ha 1 (by omega);have q2:=ha 2 (by omega);simp only[ji,aj,am,de,<-df]at q0 q1 q2;exact⟨b,o,rfl,hc,(hb.cell (bS q0)).trans q0,(hb.cell (bS q1)).trans q1,(hb.cell (bS q2)).trans q2⟩
theorem uo (S:Nat->Prop) (v:Value) (rs:List cX) (w:World) (hv:dA S w v rs):Calls Tryz.prog 63 #[v] w fun e w'=>e= .returned (.int .i64 (mY rs))/\Below w.heap.size w w':=by
 obtain⟨a,cap,rfl,hc,hm,-⟩:=cL.shape hv oJ.len;unfold maxLen at hm;have HV:=an hv;clear hv
 go_enter Tryz.func63,Tryz.ntmps63
 go_wp2_with fail
 go_loopw [3,5,8] (fun sm p i wr=> ∃k:Nat,k<=rs.length/\i= .int .i64 k/\sm= .int .i64 (mY (rs.take k))/\Below w.heap.size w wr) (fun _ _ i _=>rs.length-(intOf i).toNat)
 case atStart=>exact⟨0,aX _,rfl,rfl,ay _ _⟩
 case round=>
  obtain⟨k,hk,rfl,rfl,hb⟩:=hrel;have HB:=an hb;clear hb
  by_cases ha:k<rs.length
  ·obtain⟨r,hr⟩: ∃r,rs[k]? =some r:=⟨rs[k],by simp[ha]⟩;obtain⟨b,o,rfl,-,q0,q1,q2⟩:=oE HV.o HB.o hr;have HS:=an (show mY (rs.take (k+1))=wrap64 (mY (rs.take k)+r.size) by rw[dZ hr,An]);clear hr;go_wp2_with fail
   go_roundw
   case rel=>exact⟨k+1,by omega,by go_num,by rw[HS.o],HB.o.alloc HB.o.size _⟩
   case measure=>simp[intOf]; omega
  ·go_wp2_with fail;go_ret;exact⟨dK (by rw[bC (by omega)]),HB.o⟩
structure cr where
 name:ByteArray
 kind:Int
 mode:Int
 time:Int
 size:Int
 link:ByteArray
 chunks:List cX
 node:cX
deriving DecidableEq
def fh (cv:Value) (it:cr):List Value:=[.string it.name, .int .i64 it.kind, .int .i64 it.mode, .int .i64 it.time, .int .i64 it.size, .string it.link,cv, .string it.node.name, .int .i64 it.node.gen, .int .i64 it.node.size]
def lT (cv:Value) (it:cr):Value:= .agg #[.string it.name, .int .i64 it.kind, .int .i64 it.mode, .int .i64 it.time, .int .i64 it.size, .string it.link,cv, .string it.node.name, .int .i64 it.node.gen, .int .i64 it.node.size]
def qP (r:cX):Bool:=ld r && decide (1<=r.size)
def ll (it:cr):Bool:=it.chunks.all qP && (decide (it.size=mY it.chunks) && decide (it.size<=1048576))
theorem jp (r:cX) (b:Bool) (w:World) (hr:eC r) (h:ld r=b):Calls Tryz.prog 77 #[fa r] w fun e w'=>e= .returned (.bool b)/\Below w.heap.size w w':=by
 rw[<-h]; exact tK r w hr
theorem KS {α:Type} {p:α->Bool} {l:List α} {k:Nat} {x:α} (h:(l.take k).all p=true) (hx:l[k]? =some x) (hp:p x=true):(l.take (k+1)).all p=true:=by
 rw[dZ hx,List.all_append,h]; simp[hp]
theorem KR {α:Type} {p:α->Bool} {l:List α} {k:Nat} {x:α} (hx:l[k]? =some x) (hp:p x=false):l.all p=false:=by
 rw[List.all_eq_false];exact⟨x,aS hx,by rw[hp]; simp⟩
theorem vq (S:Nat->Prop) (it:cr) (cv:Value) (w:World) (hcv:dA S w cv it.chunks):Calls Tryz.prog 135 #[lT cv it] w fun e w'=>e= .returned (.bool (ll it))/\Below w.heap.size w w':=by
 obtain⟨a,cap,rfl,hc,hm,-⟩:=cL.shape hcv oJ.len;unfold maxLen at hm;unfold lT
 go_enter Tryz.func135,Tryz.ntmps135
 go_wp2_with fail;obtain⟨W,hW⟩: ∃W,W=w.alloc (.cells #[.string it.name, .int .i64 it.kind, .int .i64 it.mode, .int .i64 it.time, .int .i64 it.size, .string it.link, .slice a it.chunks.length cap, .string it.node.name, .int .i64 it.node.gen, .int .i64 it.node.size] 28):=⟨_,rfl⟩;rw[<-hW];have hq:=an (show Below w.heap.size w W by rw[hW]; exact eN);have hy:=an (show W.heap[w.heap.size]? =some (.cells #[.string it.name, .int .i64 it.kind, .int .i64 it.mode, .int .i64 it.time, .int .i64 it.size, .string it.link, .slice a it.chunks.length cap, .string it.node.name, .int .i64 it.node.gen, .int .i64 it.node.size] 28 (0,0)) by rw[hW]; exact aH w _)
 have hx:W.heap.size=w.heap.size+1:=by rw[hW]; simp
 have hu:=an hx;have HV:=an (show dA S W (.slice a it.chunks.length cap) it.chunks from cL.below hcv (by omega) hq.o (fun _ _ _ h=>h));clear hW hcv hx
 go_loopw [4,8] (fun p i wr=> ∃k:Nat,k<=it.chunks.length/\i= .int .i64 k/\(it.chunks.take k).all qP=true/\Below W.heap.size W wr) (fun _ i _=>it.chunks.length-(intOf i).toNat)
 case atStart=>exact⟨0,aX _,rfl,rfl,ay _ _⟩
 case round=>
  obtain⟨k,hk,rfl,hv,hb⟩:=hrel;have HB:=an hb;have HA:=an hv;clear hb hv
  by_cases hA:k<it.chunks.length
  ·obtain⟨r,hr⟩: ∃r,it.chunks[k]? =some r:=⟨it.chunks[k],by simp[hA]⟩;obtain⟨b,o,rfl,hw,q0,q1,q2⟩:=oE HV.o HB.o hr;have HR:=an hr;have HO:=an hw;clear hr hw
   cases hn:ld r
   ·have HF:=an (show ll it=false by unfold ll; rw[KR HR.o (by simp[qP,hn])]; rfl);have hf:=an hn;clear hn;go_wp2_with (go_at_call 77; refine(jp r false _ HO.o hf.o).mono ?_; rintro e w1 ⟨rfl,ha⟩; have hd:=an (aw ((HB.o).alloc HB.o.size _) ha); clear ha);go_ret;exact⟨bY (by rw[HF.o]),hq.o.trans (hd.o.mono (by have:=hu.o; omega))⟩
   ·have hf:=an hn;clear hn
    by_cases hs:r.size<1
    ·have HF:=an (show ll it=false by unfold ll; rw[KR HR.o (by simp[qP,hf.o]; omega)]; rfl);go_wp2_with (go_at_call 77; refine(jp r true _ HO.o hf.o).mono ?_; rintro e w1 ⟨rfl,ha⟩; have d2:w1.cell? ⟨wr.heap.size,2,none⟩=some (.int .i64 r.size):=(ha.cell (p:=⟨wr.heap.size,2,none⟩) (by simp)).trans (bH (aH wr _)); have hd:=an (aw ((HB.o).alloc HB.o.size _) ha); clear ha)
     go_ret;exact⟨bY (by rw[HF.o]),hq.o.trans (hd.o.mono (by have:=hu.o; omega))⟩
    ·go_wp2_with (go_at_call 77; refine(jp r true _ HO.o hf.o).mono ?_; rintro e w1 ⟨rfl,ha⟩; have d2:w1.cell? ⟨wr.heap.size,2,none⟩=some (.int .i64 r.size):=(ha.cell (p:=⟨wr.heap.size,2,none⟩) (by simp)).trans (bH (aH wr _)); have hd:=an (aw ((HB.o).alloc HB.o.size _) ha); clear ha)
     go_roundw
     case rel=>exact⟨k+1,by omega,by go_num,KS HA.o HR.o (by simp[qP,hf.o]; omega),hd.o⟩
     case measure=>simp[intOf]; omega
  ·have hl:it.chunks.all qP=true:=by
    have:=HA.o
    rwa [bC (by omega)]at this
   have hg:=an hl;have hh:=an ((HB.o.block w.heap.size (by have:=hu.o; omega)).trans hy.o);have c4:=bH (k:=4) hh.o;have c6:=bH (k:=6) hh.o;simp only[ak,am,aj]at c4 c6;have hz:=an (show dA S wr (.slice a it.chunks.length cap) it.chunks from cL.below HV.o (by omega) HB.o (fun _ _ _ h=>h))
   clear hl;go_wp2_with fail;refine eH (fun w'=>w'.cell? ⟨w.heap.size,4,none⟩=some (.int .i64 it.size)/\w'.cell? ⟨w.heap.size,6,none⟩=some (.slice a it.chunks.length cap)) (by kernel_rfl) ?_
   iterate 4 (refine cF rfl (by kernel_rfl) (fun _ _ _ h=>h) rfl (by go_simp) (by rintro w' ⟨ho,hp⟩; go_simp; rfl) ?_; simp only[Act.put,ag,ai,ah])
   refine cy 4 rfl (fun K hK=> ?_);go_wp2_with (go_at_call 63; refine(uo S _ it.chunks _ (cL.below hz.o (by omega) ((ay _ _).drew) (fun _ _ _ h=>h))).mono ?_; rintro e w1 ⟨rfl,ha⟩; have hd:=an ha; clear ha);have d4:w1.cell? ⟨w.heap.size,4,none⟩=some (.int .i64 it.size):=(hd.o.cell (p:=⟨w.heap.size,4,none⟩) (bS (a:=⟨w.heap.size,4,none⟩) c4)).trans c4
   have d6:w1.cell? ⟨w.heap.size,6,none⟩=some (.slice a it.chunks.length cap):=(hd.o.cell (p:=⟨w.heap.size,6,none⟩) (bS (a:=⟨w.heap.size,6,none⟩) c6)).trans c6;refine⟨⟨d4,d6⟩, ?_⟩;have hj:=an (show Below w.heap.size w w1 from hq.o.trans ((aw HB.o (((ay _ _).drew).trans hd.o)).mono (by have:=hu.o; omega)))
   by_cases he:it.size=mY it.chunks
   ·have e1:(it.size == mY it.chunks)=true:=by simp[he]
    iterate 7 (refine cF rfl (by kernel_rfl) (fun _ _ _ h=>h) rfl (by go_simp) (by rintro w' ⟨ho,hp⟩; go_simp; rfl) ?_; simp only[Act.put,ag,ai,ah])
    refine cH (by kernel_rfl) ?_;have HE:=an he;clear he;go_wp2_with fail;go_ret;refine⟨bY ?_,hj.o⟩;unfold ll;rw[hg.o]; simp[HE.o]
   ·have e1:(it.size == mY it.chunks)=false:=by simp[he]
    refine bJ 5 rfl (by kernel_rfl) (by kernel_rfl) (by kernel_rfl) (fun _ _ _ h=>h) rfl (by go_simp) (by rintro w' ⟨ho,hp⟩; go_simp; rfl) ?_;simp only[Act.put,ag,ai,ah];refine bJ 6 rfl (by kernel_rfl) (by kernel_rfl) (by kernel_rfl) (fun _ _ _ h=>h) rfl (by go_simp) (by rintro w' ⟨ho,hp⟩; go_simp; rfl) ?_;simp only[Act.put,ag,ai,ah]
    refine sT 7 rfl (by kernel_rfl) (by kernel_rfl) (by kernel_rfl) (fun _ _ _ h=>h) rfl (by go_simp) ?_;simp only[Act.put,ag,ai,ah];refine sT 8 rfl (by kernel_rfl) (by kernel_rfl) (by kernel_rfl) (fun _ _ _ h=>h) rfl (by go_simp) ?_;simp only[Act.put,ag,ai,ah]
    refine sT 9 rfl (by kernel_rfl) (by kernel_rfl) (by kernel_rfl) (fun _ _ _ h=>h) rfl (by go_simp) ?_;simp only[Act.put,ag,ai,ah];refine bJ 10 rfl (by kernel_rfl) (by kernel_rfl) (by kernel_rfl) (fun _ _ _ h=>h) rfl (by go_simp) (by rintro w' ⟨ho,hp⟩; go_simp; rfl) ?_;simp only[Act.put,ag,ai,ah]
    refine bJ 11 rfl (by kernel_rfl) (by kernel_rfl) (by kernel_rfl) (fun _ _ _ h=>h) rfl (by go_simp) (by rintro w' ⟨ho,hp⟩; go_simp; rfl) ?_;simp only[Act.put,ag,ai,ah];refine cH (by kernel_rfl) ?_;have HE:=an he;clear he;go_wp2_with fail;go_ret;refine⟨bY ?_,hj.o⟩;unfold ll;rw[hg.o]; simp[HE.o]
def ef :cX:=⟨⟨#[]⟩,0,0⟩
def tJ (it:cr):Bool:=(dB (bl it.name) && !(bl it.name).contains 47) && (decide (0<=it.mode) && decide (it.mode<=511) && decide (0<=it.time))
def kO (it:cr):Bool:=
 if it.kind=1 then decide (it.link.size=0) && decide (it.node=ef) && ll it
 else if it.kind=2 then decide (it.link.size=0) && decide (it.size=0) && decide (it.chunks.length=0) && ld it.node
 else if it.kind=3 then(decide (it.size=0) && decide (it.chunks.length=0) && decide (it.node=ef)) && (decide (1<=it.link.size) && decide (it.link.size<=512) && !(bl it.link).contains 0)
 else false
def gO (it:cr):Bool:=tJ it && kO it
structure ii (it : cr) : Prop where
 nm:it.name.size<=maxLen
 lk:it.link.size<=maxLen
 nd:eC it.node
theorem mR (s:ByteArray) (b:Bool) (w:World) (he:og w) (h:dB (bl s)=b):Calls Tryz.prog 119 #[.string s] w fun e w'=>e= .returned (.bool b)/\Below w.heap.size w w':=by
 rw[<-h]; exact uu s w he
theorem qq (s:ByteArray) (b:Bool) (w:World) (h:(bl s).contains 47=b):Calls Tryz.prog 134 #[.string s, .string ⟨#[47]⟩] w fun e w'=>e= .returned (.bool b)/\w=w':=by
 rw[<-h]; exact sK s 47 w
theorem yh (s:ByteArray) (w:World):Calls Tryz.prog 136 #[.string s, .int .u8 0] w fun e w'=>e= .returned (.int .i64 (Lib.indexByte (bl s) 0))/\w=w':=
 (Tryz.strings_IndexByte s 0 w).mono fun _ _ ⟨he,hw⟩=>⟨he,hw.symm⟩
theorem yF (S:Nat->Prop) (it:cr) (cv:Value) (w:World) (hcv:dA S w cv it.chunks) (hok:ii it) (henv:og w):Calls Tryz.prog 96 #[lT cv it] w fun e w'=>e= .returned (.bool (gO it))/\Below w.heap.size w w':=by
 obtain⟨a,cap,rfl,hc,hm,-⟩:=cL.shape hcv oJ.len;unfold maxLen at hm;have HV:=an hcv;have HO:=an hok;have HE:=an henv;have hF:=hok.nm;have hG:=hok.lk;unfold maxLen at hF hG;have hH: ∀w,(Op.equalIn 10000 26 (.agg #[.string it.node.name, .int .i64 it.node.gen, .int .i64 it.node.size]) (.agg #[.string ⟨#[]⟩, .int .i64 0, .int .i64 0])).run Tryz.prog w= .ok (decide (it.node=ef)) w:=fun w=>Oz it.node ef w
 have HL:=an (show it.link.toList=[]<->it.link.size=0 by rw[eB,bi]; simp);clear hcv hok henv;unfold lT
 cases hv:dB (bl it.name)
 ·have ho:=an hv;clear hv
  go_enter Tryz.func96,Tryz.ntmps96
  go_wp2_with fail;obtain⟨W,hW⟩: ∃W,W=w.alloc (.cells #[.string it.name, .int .i64 it.kind, .int .i64 it.mode, .int .i64 it.time, .int .i64 it.size, .string it.link, .slice a it.chunks.length cap, .string it.node.name, .int .i64 it.node.gen, .int .i64 it.node.size] 28):=⟨_,rfl⟩;rw[<-hW];have hf:=an (show Below w.heap.size w W by rw[hW]; exact eN);have he:=an (show W.heap[w.heap.size]? =some (.cells #[.string it.name, .int .i64 it.kind, .int .i64 it.mode, .int .i64 it.time, .int .i64 it.size, .string it.link, .slice a it.chunks.length cap, .string it.node.name, .int .i64 it.node.gen, .int .i64 it.node.size] 28 (0,0)) by rw[hW]; exact aH w _)
  clear hW;refine(mR it.name false _ (HE.o.below hf.o) ho.o).mono ?_;rintro e w1 ⟨rfl,hd⟩;have ha:=an (aw hf.o hd);clear hd;go_wp2_with fail;go_ret;exact⟨bY (by simp[gO,tJ,ho.o]),ha.o⟩
 ·have ho:=an hv;clear hv
  cases hw:(bl it.name).contains 47
  ·have hp:=an hw;clear hw
   by_cases hx:0<=it.mode/\it.mode<=511/\0<=it.time
   ·have HH:=an (show gO it=kO it by obtain⟨x1,x2,x3⟩:=hx; unfold gO tJ; rw[ho.o,hp.o]; simp[x1,x2,x3]);obtain⟨hI,hJ,hL⟩:=hx
    go_enter Tryz.func96,Tryz.ntmps96
    go_wp2_with fail;obtain⟨W,hW⟩: ∃W,W=w.alloc (.cells #[.string it.name, .int .i64 it.kind, .int .i64 it.mode, .int .i64 it.time, .int .i64 it.size, .string it.link, .slice a it.chunks.length cap, .string it.node.name, .int .i64 it.node.gen, .int .i64 it.node.size] 28):=⟨_,rfl⟩;rw[<-hW];have hf:=an (show Below w.heap.size w W by rw[hW]; exact eN);have he:=an (show W.heap[w.heap.size]? =some (.cells #[.string it.name, .int .i64 it.kind, .int .i64 it.mode, .int .i64 it.time, .int .i64 it.size, .string it.link, .slice a it.chunks.length cap, .string it.node.name, .int .i64 it.node.gen, .int .i64 it.node.size] 28 (0,0)) by rw[hW]; exact aH w _)
    clear hW;refine(mR it.name true _ (HE.o.below hf.o) ho.o).mono ?_;rintro e w1 ⟨rfl,hd⟩;have hb:=an ((hd.block w.heap.size ((aP.1 he.o).1)).trans he.o);have ha:=an (aw hf.o hd);have hu:w.heap.size<w1.heap.size:=(aP.1 hb.o).1;obtain⟨c0,c1,c2,c3,c4,c5,c6,c7,c8,c9,_⟩:=aT hb.o;clear hd he
    go_wp2_with fail;refine(qq it.name false _ hp.o).mono ?_;rintro e w2 ⟨rfl,rfl⟩
    by_cases hg:it.kind=1
    ·have e1:(it.kind == 1)=true:=by simp[hg]
     have HK:=an (show kO it=(decide (it.link.size=0) && decide (it.node=ef) && ll it) by unfold kO; rw[if_pos hg]);clear hg;have hB:=an (show dA S (w1.alloc (.cells #[.string ⟨#[]⟩, .int .i64 0, .int .i64 0] 26)) (.slice a it.chunks.length cap) it.chunks from cL.below HV.o (by omega) (ha.o.alloc ha.o.size _) (fun _ _ _ h=>h));go_wp2_with fail
     ·have hz:=vq S ⟨it.name,it.kind,it.mode,it.time,it.size,it.link,it.chunks,ef⟩ (.slice a it.chunks.length cap) _ hB.o;simp only[lT,ll]at hz;refine hz.mono ?_;rintro e w3 ⟨rfl,hr⟩;have hy:=an (aw (ha.o.alloc ha.o.size _) hr);have hl:it.link.size=0:=HL.o.1 (by assumption);have hn:it.node=ef:=by assumption
      have hj:=an (aD hl hn);clear hr hl hn;go_wp2_with fail;go_ret;exact⟨bY (by rw[HH.o,HK.o]; simp[hj.o.1,hj.o.2]; rfl),hy.o⟩
     all_goals (
      go_ret;refine⟨bY ?_,ha.o.alloc ha.o.size _⟩;rw[HH.o,HK.o];refine(fd.2 fun hh=> ?_).symm;simp only[aJ,aK]at hh;obtain⟨⟨x1,x2⟩,x3⟩:=hh
      first | exact absurd x2 (by assumption) | exact absurd (HL.o.2 x1) (by assumption))
    ·have e1:(it.kind == 1)=false:=by simp[hg]
     by_cases hk:it.kind=2
     ·have e2:(it.kind == 2)=true:=by simp[hk]
      have HK:=an (show kO it=(decide (it.link.size=0) && decide (it.size=0) && decide (it.chunks.length=0) && ld it.node) by unfold kO; rw[if_neg hg,if_pos hk]);clear hg hk;go_wp2_with fail
      ·refine(tK it.node _ HO.o.nd).mono ?_;rintro e w3 ⟨rfl,hr⟩;have hy:=an (aw (ha.o.alloc ha.o.size _) hr);have hl:it.link.size=0:=HL.o.1 (by assumption);have hs:it.size=0:=by assumption
       have hn:it.chunks=[]:=by assumption
       have hj:=an (aD hl (aD hs hn));clear hr hl hn hs;go_wp2_with fail;go_ret;exact⟨bY (by rw[HH.o,HK.o]; simp[hj.o.1,hj.o.2.1,hj.o.2.2]),hy.o⟩
      all_goals (
       go_ret;refine⟨bY ?_,ha.o.alloc ha.o.size _⟩;rw[HH.o,HK.o];refine(fd.2 fun hh=> ?_).symm;simp only[aJ,aK]at hh;obtain⟨⟨⟨x1,x2⟩,x3⟩,x4⟩:=hh
       first | exact absurd (bt x3) (by assumption) | exact absurd x2 (by assumption) | exact absurd (HL.o.2 x1) (by assumption))
     ·have e2:(it.kind == 2)=false:=by simp[hk]
      by_cases hq:it.kind=3
      ·have e3:(it.kind == 3)=true:=by simp[hq]
       have HK:=an (show kO it=((decide (it.size=0) && decide (it.chunks.length=0) && decide (it.node=ef)) && (decide (1<=it.link.size) && decide (it.link.size<=512) && !(bl it.link).contains 0)) by unfold kO; rw[if_neg hg,if_neg hk,if_pos hq]);clear hg hk hq;go_wp2_with fail
       any_goals (
        go_ret;refine⟨bY ?_,ha.o.alloc ha.o.size _⟩;rw[HH.o,HK.o];refine(fd.2 fun hh=> ?_).symm;simp only[aJ,aK]at hh;obtain⟨⟨⟨x1,x2⟩,x3⟩,⟨x4,x5⟩,x6⟩:=hh
        first
         | exact absurd x1 (by assumption)
         | exact absurd (bt x2) (by assumption)
         | (exfalso; have hn:(!decide (it.node=ef))=true:=(by assumption); simp[x3]at hn)
         | omega)
       refine(yh it.link _).mono ?_;rintro e w3 ⟨rfl,rfl⟩;have hs:it.size=0:=by assumption
       have hC:it.chunks=[]:=by assumption
       have hn:(!decide (it.node=ef))=false:=by assumption
       have hD:1<=(it.link.size:Int):=by assumption
       have hE:(it.link.size:Int)<=512:=by assumption
       have hj:=an (aD hs (aD hC (aD hn (aD hD hE))));go_wp2_with fail;go_ret;refine⟨bY ?_,ha.o.alloc ha.o.size _⟩;obtain⟨y1,y2,y3,y4,y5⟩:=hj.o;have y6:it.node=ef:=by simpa using y3
       rw[HH.o,HK.o,<-ln];have z1:decide (1<=it.link.size)=true:=by simp; omega
       have z2:decide (it.link.size<=512)=true:=by simp; omega
       rw[z1,z2];simp[y1,y2,y6];rw[dk]; simp
      ·have e3:(it.kind == 3)=false:=by simp[hq]
       have HK:=an (show kO it=false by unfold kO; rw[if_neg hg,if_neg hk,if_neg hq]);clear hg hk hq;go_wp2_with fail;go_ret;exact⟨bY (by rw[HH.o,HK.o]),ha.o.alloc ha.o.size _⟩
   ·have HF:=an (show gO it=false by
     have:(decide (0<=it.mode) && decide (it.mode<=511) && decide (0<=it.time))=false:=by
      rw[fd]; simp; omega
     unfold gO tJ; rw[this]; simp)
    go_enter Tryz.func96,Tryz.ntmps96
    go_wp2_with fail;obtain⟨W,hW⟩: ∃W,W=w.alloc (.cells #[.string it.name, .int .i64 it.kind, .int .i64 it.mode, .int .i64 it.time, .int .i64 it.size, .string it.link, .slice a it.chunks.length cap, .string it.node.name, .int .i64 it.node.gen, .int .i64 it.node.size] 28):=⟨_,rfl⟩;rw[<-hW];have hf:=an (show Below w.heap.size w W by rw[hW]; exact eN);have he:=an (show W.heap[w.heap.size]? =some (.cells #[.string it.name, .int .i64 it.kind, .int .i64 it.mode, .int .i64 it.time, .int .i64 it.size, .string it.link, .slice a it.chunks.length cap, .string it.node.name, .int .i64 it.node.gen, .int .i64 it.node.size] 28 (0,0)) by rw[hW]; exact aH w _)
    clear hW;refine(mR it.name true _ (HE.o.below hf.o) ho.o).mono ?_;rintro e w1 ⟨rfl,hd⟩;have hb:=an ((hd.block w.heap.size ((aP.1 he.o).1)).trans he.o);have ha:=an (aw hf.o hd);have hu:w.heap.size<w1.heap.size:=(aP.1 hb.o).1;obtain⟨c0,c1,c2,c3,c4,c5,c6,c7,c8,c9,_⟩:=aT hb.o;clear hd he
    go_wp2_with fail;refine(qq it.name false _ hp.o).mono ?_;rintro e w2 ⟨rfl,rfl⟩;have hA:=an hx;clear hx
    rcases Int.lt_or_le it.mode 0 with h1 | h1
    ·go_wp2_with fail;go_ret;exact⟨bY (by rw[HF.o]),ha.o⟩
    ·rcases Int.lt_or_le 511 it.mode with h2 | h2
     ·go_wp2_with fail;go_ret;exact⟨bY (by rw[HF.o]),ha.o⟩
     ·have h3:it.time<0:=by have:=hA.o; omega
      go_wp2_with fail;go_ret;exact⟨bY (by rw[HF.o]),ha.o⟩
  ·have hp:=an hw;clear hw
   go_enter Tryz.func96,Tryz.ntmps96
   go_wp2_with fail;obtain⟨W,hW⟩: ∃W,W=w.alloc (.cells #[.string it.name, .int .i64 it.kind, .int .i64 it.mode, .int .i64 it.time, .int .i64 it.size, .string it.link, .slice a it.chunks.length cap, .string it.node.name, .int .i64 it.node.gen, .int .i64 it.node.size] 28):=⟨_,rfl⟩;rw[<-hW];have hf:=an (show Below w.heap.size w W by rw[hW]; exact eN);have he:=an (show W.heap[w.heap.size]? =some (.cells #[.string it.name, .int .i64 it.kind, .int .i64 it.mode, .int .i64 it.time, .int .i64 it.size, .string it.link, .slice a it.chunks.length cap, .string it.node.name, .int .i64 it.node.gen, .int .i64 it.node.size] 28 (0,0)) by rw[hW]; exact aH w _)
   clear hW;refine(mR it.name true _ (HE.o.below hf.o) ho.o).mono ?_;rintro e w1 ⟨rfl,hd⟩;have hb:=an ((hd.block w.heap.size ((aP.1 he.o).1)).trans he.o);have ha:=an (aw hf.o hd);have hu:w.heap.size<w1.heap.size:=(aP.1 hb.o).1;obtain⟨c0,c1,c2,c3,c4,c5,c6,c7,c8,c9,_⟩:=aT hb.o;clear hd he
   go_wp2_with fail;refine(qq it.name true _ hp.o).mono ?_;rintro e w2 ⟨rfl,rfl⟩;go_wp2_with fail;go_ret;exact⟨bY (by unfold gO tJ; rw[hp.o]; simp),ha.o⟩
def lr (S:Nat->Prop) (w:World) (c:List Value) (it:cr):Prop:= ∃cv,c=fh cv it/\dA S w cv it.chunks/\ii it
theorem lr.len {S:Nat->Prop} {w:World} (c:List Value) (it:cr) (h:lr S w c it):c.length=10:=by obtain⟨cv,rfl,_⟩:=h; rfl
def eD (S:Nat->Prop) (w:World) (v:Value) (l:List cr):Prop:=cL S w 10 (lr S w) v l
theorem eD.below {S:Nat->Prop} {w w':World} {v:Value} {l:List cr} (h:eD S w v l) (hb:Below w.heap.size w w'):eD S w' v l:=
 cL.below h (by omega) hb (fun c x _ ⟨cv,h1,h2,h3⟩=>⟨cv,h1,cL.below h2 (by omega) hb (fun _ _ _ h=>h),h3⟩)
theorem mL {S:Nat->Prop} {w w':World} {a:Option Addr} {n cap:Nat} {l:List cr} (hv:eD S w (.slice a n cap) l) (hb:Below w.heap.size w w') {k:Nat} {it:cr} (hr:l[k]? =some it):
  ∃b o ca cc,a=some ⟨b,o,none⟩/\ii it/\dA S w' (.slice ca it.chunks.length cc) it.chunks/\b<w.heap.size/\S b/\ ∀j,j<10->w'.cell? ⟨b,o+k*10+j,none⟩=(fh (.slice ca it.chunks.length cc) it)[j]? :=by
 obtain⟨a',cap',hf,_,_,hx⟩:=cL.shape hv lr.len
 cases hf
 obtain⟨b,o,c,rfl,hS,⟨cv,rfl,hd,he⟩,_,ha⟩:=hx k it hr;have q0:=ha 0 (by omega);have hc:b<w.heap.size:=bS (a:=⟨b,o+(k*10+0),none⟩) (v:= .string it.name) q0;obtain⟨ca,cc,rfl,_,_,_⟩:=cL.shape hd oJ.len;refine⟨b,o,ca,cc,rfl,he,cL.below hd (by omega) hb (fun _ _ _ h=>h),hc,hS,fun j hj=> ?_⟩;rw[df];exact(hb.cell (p:=⟨b,o+(k*10+j),none⟩) hc).trans (ha j hj)
def NQ (a b:ByteArray):Bool:=Op.bytesLess a.toList b.toList
def pM (p:Option ByteArray) (n:ByteArray):Bool:=match p with
 | none=>true
 | some q=>NQ q n
def jT :Option ByteArray->List cr->Bool
 | _,[]=>true
 | p,it::r=>gO it && pM p it.name && jT (some it.name) r
def jB (l:List cr):Bool:=decide (l.length<=4096) && jT none l
def qg (l:List cr) (k:Nat):Option ByteArray:=match k with
 | 0=>none
 | k+1=>l[k]?.map cr.name
theorem JB {l:List cr} {k:Nat} {it:cr} (hk:1<=k) (h:l[k-1]? =some it):qg l k=some it.name:=by
 cases k with
 | zero=>omega
 | succ k=>
  simp only[jr]at h;simp[qg,h]
theorem oG {l:List cr} {k:Nat} {it:cr} (h:l[k]? =some it):jT (qg l k) (l.drop k)=(gO it && pM (qg l k) it.name && jT (qg l (k+1)) (l.drop (k+1))):=by
 obtain⟨hk,rfl⟩:=aN.1 h;rw[cI hk]
 show(gO l[k] && pM (qg l k) l[k].name && jT (some l[k].name) _)=_
 simp[qg,hk]
theorem kI (S:Nat->Prop) (it:cr) (cv:Value) (b:Bool) (w:World) (hcv:dA S w cv it.chunks) (hok:ii it) (henv:og w) (h:gO it=b):Calls Tryz.prog 96 #[lT cv it] w fun e w'=>e= .returned (.bool b)/\Below w.heap.size w w':=by
 rw[<-h]; exact yF S it cv w hcv hok henv
theorem yH (S:Nat->Prop) (l:List cr) (v:Value) (w:World) (hv:eD S w v l) (henv:og w):Calls Tryz.prog 47 #[v] w fun e w'=>e= .returned (.bool (jB l))/\Below w.heap.size w w':=by
 obtain⟨a,cap,rfl,hc,hm,-⟩:=cL.shape hv lr.len;unfold maxLen at hm;have HV:=an hv;have HE:=an henv;clear hv henv
 by_cases hA:4096<l.length
 ·have HF:=an (show jB l=false by
   unfold jB;have:decide (l.length<=4096)=false:=by simp; omega
   rw[this]; rfl)
  go_enter Tryz.func47,Tryz.ntmps47
  go_wp2_with fail;go_ret;exact⟨bY (by rw[HF.o]),ay _ _⟩
 ·have HN:=an (show jB l=jT none l by
   unfold jB;have:decide (l.length<=4096)=true:=by simp; omega
   rw[this]; rfl)
  go_enter Tryz.func47,Tryz.ntmps47
  go_wp2_with fail
  go_loopw [3,4,10] (fun x p i wr=> ∃k:Nat,k<=l.length/\i= .int .i64 k/\jT none l=jT (qg l k) (l.drop k)/\Below w.heap.size w wr) (fun _ _ i _=>l.length-(intOf i).toNat)
  case atStart=>exact⟨0,aX _,rfl,rfl,ay _ _⟩
  case round=>
   obtain⟨k,hk,rfl,hx,hb⟩:=hrel;have HB:=an hb;have HA:=an hx;clear hb hx
   by_cases hB:k<l.length
   ·obtain⟨it,hr⟩: ∃it,l[k]? =some it:=⟨l[k],by simp[hB]⟩;obtain⟨b,o,ca,cc,rfl,hy,hz,hG,-,hf⟩:=mL HV.o HB.o hr;have HR:=an hr;have HO:=an hy;have ho:=an hz;have q0:=hf 0 (by omega);have q1:=hf 1 (by omega);have q2:=hf 2 (by omega);have q3:=hf 3 (by omega);have q4:=hf 4 (by omega);have q5:=hf 5 (by omega);have q6:=hf 6 (by omega);have q7:=hf 7 (by omega)
    have q8:=hf 8 (by omega);have q9:=hf 9 (by omega);simp only[fh,aj,am,de]at q0 q1 q2 q3 q4 q5 q6 q7 q8 q9;clear hr hy hz hf;have hI:=HB.o.size
    cases hp:gO it
    ·have hg:=an hp;clear hp;have HF:=an (show jT none l=false by rw[HA.o,oG HR.o,hg.o]; rfl);go_wp2_with fail;refine bP [some 1,none,some 16] (by kernel_rfl) (by kernel_rfl) (by kernel_rfl) ?_;simp only[dQ,aV,aZ,bB,bT]
     repeat (first | (refine cB rfl ?_; simp only[Act.put,ag,ai,ah]) | (refine cR rfl (fun K hK=> ?_); go_simp; refine hK _ ?_; clear hK K))
     refine cQ ?_;have hl:=an (show dA S (wr.alloc (.cells #[.string it.name, .int .i64 it.kind, .int .i64 it.mode, .int .i64 it.time, .int .i64 it.size, .string it.link, .slice ca it.chunks.length cc, .string it.node.name, .int .i64 it.node.gen, .int .i64 it.node.size] 28)).drew (.slice ca it.chunks.length cc) it.chunks from cL.below ho.o (by omega) ((eN).drew) (fun _ _ _ h=>h))
     have hj:=an (show og (wr.alloc (.cells #[.string it.name, .int .i64 it.kind, .int .i64 it.mode, .int .i64 it.time, .int .i64 it.size, .string it.link, .slice ca it.chunks.length cc, .string it.node.name, .int .i64 it.node.gen, .int .i64 it.node.size] 28)).drew from HE.o.below ((HB.o.alloc HB.o.size _).drew));refine ei rfl (fun K hK=> ?_);go_wp2_with (go_at_call 96; refine(kI S it (.slice ca it.chunks.length cc) false _ hl.o HO.o hj.o hg.o).mono ?_; rintro e w1 ⟨rfl,ha⟩)
     have hh:=an (aw ((HB.o.alloc HB.o.size _).drew) ha);have he:=an (((ay _ _).alloc (au _) (.cells #[.string it.name, .int .i64 it.kind, .int .i64 it.mode, .int .i64 it.time, .int .i64 it.size, .string it.link, .slice ca it.chunks.length cc, .string it.node.name, .int .i64 it.node.gen, .int .i64 it.node.size] 28)).drew.trans (ha.mono (by simp)));have n0:w1.cell? ⟨wr.heap.size,0,none⟩=some (.string it.name):=(ha.cell (p:=⟨wr.heap.size,0,none⟩) (by simp)).trans (bH (aH wr _))
     clear ha
     repeat (first | (refine cB rfl ?_; simp only[Act.put,ag,ai,ah]) | (refine cR rfl (fun K hK=> ?_); go_simp; refine hK _ ?_; clear hK K))
     refine cQ ?_;go_wp2_with fail;go_ret;exact⟨bY (by rw[HN.o,HF.o]),hh.o⟩
    ·have hg:=an hp;clear hp
     by_cases hJ:k<=0
     ·have HF:=an (show jT none l=jT (qg l (k+1)) (l.drop (k+1)) by
       obtain rfl:k=0:=by omega
       rw[HA.o,oG HR.o,hg.o]; simp[qg,pM])
      have ek:decide (0<k)=false:=by simp; omega
      go_wp2_with fail;refine bP [some 1,none,some 16] (by kernel_rfl) (by kernel_rfl) (by kernel_rfl) ?_;simp only[dQ,aV,aZ,bB,bT]
      repeat (first | (refine cB rfl ?_; simp only[Act.put,ag,ai,ah]) | (refine cR rfl (fun K hK=> ?_); go_simp; refine hK _ ?_; clear hK K))
      refine cQ ?_;have hl:=an (show dA S (wr.alloc (.cells #[.string it.name, .int .i64 it.kind, .int .i64 it.mode, .int .i64 it.time, .int .i64 it.size, .string it.link, .slice ca it.chunks.length cc, .string it.node.name, .int .i64 it.node.gen, .int .i64 it.node.size] 28)).drew (.slice ca it.chunks.length cc) it.chunks from cL.below ho.o (by omega) ((eN).drew) (fun _ _ _ h=>h))
      have hj:=an (show og (wr.alloc (.cells #[.string it.name, .int .i64 it.kind, .int .i64 it.mode, .int .i64 it.time, .int .i64 it.size, .string it.link, .slice ca it.chunks.length cc, .string it.node.name, .int .i64 it.node.gen, .int .i64 it.node.size] 28)).drew from HE.o.below ((HB.o.alloc HB.o.size _).drew));refine ei rfl (fun K hK=> ?_);go_wp2_with (go_at_call 96; refine(kI S it (.slice ca it.chunks.length cc) true _ hl.o HO.o hj.o hg.o).mono ?_; rintro e w1 ⟨rfl,ha⟩)
      have hh:=an (aw ((HB.o.alloc HB.o.size _).drew) ha);have he:=an (((ay _ _).alloc (au _) (.cells #[.string it.name, .int .i64 it.kind, .int .i64 it.mode, .int .i64 it.time, .int .i64 it.size, .string it.link, .slice ca it.chunks.length cc, .string it.node.name, .int .i64 it.node.gen, .int .i64 it.node.size] 28)).drew.trans (ha.mono (by simp)));have n0:w1.cell? ⟨wr.heap.size,0,none⟩=some (.string it.name):=(ha.cell (p:=⟨wr.heap.size,0,none⟩) (by simp)).trans (bH (aH wr _))
      clear ha
      repeat (first | (refine cB rfl ?_; simp only[Act.put,ag,ai,ah]) | (refine cR rfl (fun K hK=> ?_); go_simp; refine hK _ ?_; clear hK K))
      refine cQ ?_;go_wp2_with fail
      go_roundw
      case rel=>exact⟨k+1,by omega,by go_num,HF.o,hh.o⟩
      case measure=>simp[intOf]; omega
     ·obtain⟨ip,hq⟩: ∃ip,l[k-1]? =some ip:=⟨l[k-1],by simp⟩;obtain⟨b2,o2,ca2,cc2,e2,-,-,-,-,hn⟩:=mL HV.o HB.o hq
      cases e2
      have p0:=hn 0 (by omega);simp only[fh,aj,de]at p0;have hw:=an (show qg l k=some ip.name from JB (by omega) hq);clear hn hq;have hF:(0:Int)<=(k:Int)-1:=by omega
      have hH:(k:Int)-1<(l.length:Int):=by omega
      have ek:decide (0<k)=true:=by simp; omega
      cases hd:NQ ip.name it.name
      ·have e3:Op.bytesLess ip.name.toList it.name.toList=false:=hd;have HF:=an (show jT none l=false by rw[HA.o,oG HR.o,hg.o,hw.o]; simp[pM,hd]);clear hd;go_wp2_with fail;refine bP [some 1,none,some 16] (by kernel_rfl) (by kernel_rfl) (by kernel_rfl) ?_;simp only[dQ,aV,aZ,bB,bT]
       repeat (first | (refine cB rfl ?_; simp only[Act.put,ag,ai,ah]) | (refine cR rfl (fun K hK=> ?_); go_simp; refine hK _ ?_; clear hK K))
       refine cQ ?_;have hl:=an (show dA S (wr.alloc (.cells #[.string it.name, .int .i64 it.kind, .int .i64 it.mode, .int .i64 it.time, .int .i64 it.size, .string it.link, .slice ca it.chunks.length cc, .string it.node.name, .int .i64 it.node.gen, .int .i64 it.node.size] 28)).drew (.slice ca it.chunks.length cc) it.chunks from cL.below ho.o (by omega) ((eN).drew) (fun _ _ _ h=>h))
       have hj:=an (show og (wr.alloc (.cells #[.string it.name, .int .i64 it.kind, .int .i64 it.mode, .int .i64 it.time, .int .i64 it.size, .string it.link, .slice ca it.chunks.length cc, .string it.node.name, .int .i64 it.node.gen, .int .i64 it.node.size] 28)).drew from HE.o.below ((HB.o.alloc HB.o.size _).drew));refine ei rfl (fun K hK=> ?_);go_wp2_with (go_at_call 96; refine(kI S it (.slice ca it.chunks.length cc) true _ hl.o HO.o hj.o hg.o).mono ?_; rintro e w1 ⟨rfl,ha⟩)
       have hh:=an (aw ((HB.o.alloc HB.o.size _).drew) ha);have he:=an (((ay _ _).alloc (au _) (.cells #[.string it.name, .int .i64 it.kind, .int .i64 it.mode, .int .i64 it.time, .int .i64 it.size, .string it.link, .slice ca it.chunks.length cc, .string it.node.name, .int .i64 it.node.gen, .int .i64 it.node.size] 28)).drew.trans (ha.mono (by simp)));have n0:w1.cell? ⟨wr.heap.size,0,none⟩=some (.string it.name):=(ha.cell (p:=⟨wr.heap.size,0,none⟩) (by simp)).trans (bH (aH wr _))
       clear ha;have p1:w1.cell? ⟨b,o+(k-1)*10,none⟩=some (.string ip.name):=(he.o.cell (p:=⟨b,o+(k-1)*10,none⟩) (by show b<wr.heap.size; omega)).trans p0;have hs:IntKind.i64.wrap ((k:Int)-1)=(k:Int)-1:=IntWalk.i64_in _ (by omega);have hu:((k:Int)-1).toNat=k-1:=by omega
       have hC:(1:Int)<=(k:Int):=by omega
       have hD:1<=k:=by omega
       have hE:0<k:=by omega
       repeat (first | (refine cB rfl ?_; simp only[Act.put,ag,ai,ah]) | (refine cR rfl (fun K hK=> ?_); go_simp; refine hK _ ?_; clear hK K))
       refine cQ ?_;clear hs hu;go_wp2_with fail;go_ret;exact⟨bY (by rw[HN.o,HF.o]),hh.o⟩
      ·have e3:Op.bytesLess ip.name.toList it.name.toList=true:=hd;have HF:=an (show jT none l=jT (qg l (k+1)) (l.drop (k+1)) by rw[HA.o,oG HR.o,hg.o,hw.o]; simp[pM,hd]);clear hd;go_wp2_with fail;refine bP [some 1,none,some 16] (by kernel_rfl) (by kernel_rfl) (by kernel_rfl) ?_;simp only[dQ,aV,aZ,bB,bT]
       repeat (first | (refine cB rfl ?_; simp only[Act.put,ag,ai,ah]) | (refine cR rfl (fun K hK=> ?_); go_simp; refine hK _ ?_; clear hK K))
       refine cQ ?_;have hl:=an (show dA S (wr.alloc (.cells #[.string it.name, .int .i64 it.kind, .int .i64 it.mode, .int .i64 it.time, .int .i64 it.size, .string it.link, .slice ca it.chunks.length cc, .string it.node.name, .int .i64 it.node.gen, .int .i64 it.node.size] 28)).drew (.slice ca it.chunks.length cc) it.chunks from cL.below ho.o (by omega) ((eN).drew) (fun _ _ _ h=>h))
       have hj:=an (show og (wr.alloc (.cells #[.string it.name, .int .i64 it.kind, .int .i64 it.mode, .int .i64 it.time, .int .i64 it.size, .string it.link, .slice ca it.chunks.length cc, .string it.node.name, .int .i64 it.node.gen, .int .i64 it.node.size] 28)).drew from HE.o.below ((HB.o.alloc HB.o.size _).drew));refine ei rfl (fun K hK=> ?_);go_wp2_with (go_at_call 96; refine(kI S it (.slice ca it.chunks.length cc) true _ hl.o HO.o hj.o hg.o).mono ?_; rintro e w1 ⟨rfl,ha⟩)
       have hh:=an (aw ((HB.o.alloc HB.o.size _).drew) ha);have he:=an (((ay _ _).alloc (au _) (.cells #[.string it.name, .int .i64 it.kind, .int .i64 it.mode, .int .i64 it.time, .int .i64 it.size, .string it.link, .slice ca it.chunks.length cc, .string it.node.name, .int .i64 it.node.gen, .int .i64 it.node.size] 28)).drew.trans (ha.mono (by simp)));have n0:w1.cell? ⟨wr.heap.size,0,none⟩=some (.string it.name):=(ha.cell (p:=⟨wr.heap.size,0,none⟩) (by simp)).trans (bH (aH wr _))
       clear ha;have p1:w1.cell? ⟨b,o+(k-1)*10,none⟩=some (.string ip.name):=(he.o.cell (p:=⟨b,o+(k-1)*10,none⟩) (by show b<wr.heap.size; omega)).trans p0;have hs:IntKind.i64.wrap ((k:Int)-1)=(k:Int)-1:=IntWalk.i64_in _ (by omega);have hu:((k:Int)-1).toNat=k-1:=by omega
       have hC:(1:Int)<=(k:Int):=by omega
       have hD:1<=k:=by omega
       have hE:0<k:=by omega
       repeat (first | (refine cB rfl ?_; simp only[Act.put,ag,ai,ah]) | (refine cR rfl (fun K hK=> ?_); go_simp; refine hK _ ?_; clear hK K))
       refine cQ ?_;clear hs hu;go_wp2_with fail
       go_roundw
       case rel=>exact⟨k+1,by omega,by go_num,HF.o,hh.o⟩
       case measure=>simp[intOf]; omega
   ·go_wp2_with fail;go_ret;exact⟨bY (by rw[HN.o,HA.o,fZ (by omega)]; simp[jT]),HB.o⟩
end Go.Proofs.YtpffpjbkbaleiaaGreatDoor
namespace Go.Proofs.YtpffpjbkbaleiaaGreatDoor
open Go
section
variable {P : Program} {md : Region.Mode} {Q : Exit → Act → World → Prop}
def yJ (P:Program) (ops:Array Oper) (m:Nat) (Q:Exit->Act->World->Prop):Exit->Act->World->Prop
 | .normal,a,w=>wpOp P ops Q m (fun a' w'=>Q .normal a' w') a w
 | e,a,w=>Q e a w
def CM (md:Region.Mode) (L:List Oper):Bool:=
 Ep md L.toArray (L.length-1) && decide (0<L.length) &&
 ((List.range L.length).all fun i=>match L[i]? with | some x=>x.after.all (fun e=>decide (e.on<i)) && (match x.guard with | none=>true | some (j,_)=>decide (j<i)) | none=>true)
theorem Bh {L:List Oper} {i:Nat} (hi:i<L.length-1):L.dropLast.toArray[i]? =L.toArray[i]? :=by
 simp[hi]
theorem MZ {L:List Oper} {i m:Nat} (hi:i<L.length-1) (hg: ∀(x:Oper) (j:Nat) (b:Bool),L[i]? =some x->x.guard=some (j,b)->j<i) {K:Act->World->Prop} {a:Act} {w:World}
  (h:wpOp P L.dropLast.toArray (yJ P L.toArray m Q) i K a w):wpOp P L.toArray Q i K a w:=by
 unfold wpOp at h ⊢;rw[Bh hi]at h
 cases hx:L.toArray[i]? with
 | none=>rw[hx]at h; exact h
 | some x=>
  rw[hx]at h;simp only at h ⊢;have hw:Region.wanted x (yielded L.dropLast.toArray a.tmps)=Region.wanted x (yielded L.toArray a.tmps):=by
   unfold Region.wanted
   cases ha:x.guard with
   | none=>rfl
   | some p=>
    obtain⟨j,b⟩:=p;have hj:=hg x j b (by simpa using hx) ha;simp only[yielded];rw[Bh (by omega)]
  rw[hw]at h
  split at h
  ·rename_i hh;rw[if_pos hh];exact h
  ·rename_i hh;rw[if_neg hh];exact h
theorem Av {ops:Array Oper} {listed:Array Bool} {a:Act} {w:World} (hr:Region.ready md ops listed=[]) (h:Q .normal a w): ∀fuel,wpAny P md ops Q fuel listed a w
 | 0=>⟨hr,h⟩
 | _+1=>⟨fun _=>h,by rw[hr]; simp⟩
theorem rm {L:List Oper} {i:Nat} {listed:Array Bool} (hi:i<L.length-1):i∈Region.ready md L.dropLast.toArray listed<->i∈Region.ready md L.toArray listed:=by
 rw[io,io,Bh hi]
theorem Gw {listed:Array Bool} {i:Nat} (hi:i<listed.size) (h:listed.getD i true=true):listed.getD i false=true:=by
 simp[hi]at h ⊢; exact h
theorem qG {L:List Oper} {i:Nat} {listed:Array Bool} (h:i∈Region.ready md L.toArray listed):i<L.length:=by
 obtain⟨_,o,ho,_⟩:=io.1 h
 simpa using (aP.1 ho).1
theorem KQ {L:List Oper} {listed:Array Bool} (hs:listed.size=L.length) (hback: ∀(i:Nat) (x:Oper),L[i]? =some x-> ∀e∈x.after,e.on<i) (hr:Region.ready md L.dropLast.toArray listed=[]):
  ∀(n i:Nat),i<n->i<L.length-1->listed.getD i true=true
 | 0,i,hn,_=>by omega
 | n+1,i,hn,hi=>by
  cases hg:listed.getD i true with
  | true=>rfl
  | false=>
   exfalso
   obtain⟨x,hx⟩: ∃x,L[i]? =some x:=⟨L[i]'(by omega),by simp⟩;have:i∈Region.ready md L.dropLast.toArray listed:=by
    rw[rm hi,io];refine⟨hg,x,by simpa using hx,fun e he _=> ?_⟩;have hb:=hback i x hx e he;exact Gw (by omega) (KQ hs hback hr n e.on (by omega) (by omega))
   rw[hr]at this
   cases this
theorem Gi {L:List Oper} (hc:Ep md L.toArray (L.length-1)=true) (hpos:0<L.length) (hback: ∀(i:Nat) (x:Oper),L[i]? =some x-> ∀e∈x.after,e.on<i) (hg: ∀(i:Nat) (x:Oper) (j:Nat) (b:Bool),L[i]? =some x->x.guard=some (j,b)->j<i):
  ∀(fuel:Nat) (listed:Array Bool) (a:Act) (w:World),HeadInv md L.toArray (L.length-1) listed->wpAny P md L.dropLast.toArray (yJ P L.toArray (L.length-1) Q) fuel listed a w->wpAny P md L.toArray Q (fuel+1) listed a w:=by
 have hh: ∀listed:Array Bool,HeadInv md L.toArray (L.length-1) listed->Region.ready md L.dropLast.toArray listed=[]->(L.length-1)∈Region.ready md L.toArray listed:=fun listed inv hr=>by
  have hs:listed.size=L.length:=by simpa using inv.size
  obtain⟨x,hx⟩: ∃x,L[L.length-1]? =some x:=⟨L[L.length-1]'(by omega),by simp⟩;rw[io];refine⟨inv.tail _ (au _) (by simp; omega),x,by simpa using hx,fun e he _=> ?_⟩;have hb:=hback _ x hx e he;exact Gw (by omega) (KQ hs hback hr L.length e.on (by omega) (by omega))
 have hl: ∀listed:Array Bool,HeadInv md L.toArray (L.length-1) listed->Region.ready md L.toArray listed≠[]:=fun listed inv e=>by
  cases hr:Region.ready md L.dropLast.toArray listed with
  | nil=>have:=hh listed inv hr; rw[e]at this; cases this
  | cons i r=>
   have hi:i∈Region.ready md L.dropLast.toArray listed:=by rw[hr]; simp
   have ha:=qG hi;simp only[fJ]at ha;rw[rm ha,e]at hi
   cases hi
 have hd: ∀listed:Array Bool,HeadInv md L.toArray (L.length-1) listed->(L.length-1)∈Region.ready md L.toArray listed->Region.ready md L.dropLast.toArray listed=[]/\Region.ready md L.toArray (listed.setIfInBounds (L.length-1) true)=[]:=fun listed inv hm=>by
  have hs:listed.size=L.length:=by simpa using inv.size
  have hf: ∀i,i<L.length-1->listed.getD i true=true:=fun i hi=>by
   cases hj:listed.getD i true with
   | true=>rfl
   | false=>exact absurd hm (tT hc inv _ i rfl hi hj _ (au _))
  constructor
  ·rw[List.eq_nil_iff_forall_not_mem];intro i hi;have ha:=qG hi;simp only[fJ]at ha;have:=(io.1 hi).1;rw[hf i ha]at this
   cases this
  ·rw[List.eq_nil_iff_forall_not_mem];intro i hi;have ha:=qG hi;have h1:=(io.1 hi).1
   by_cases e:i=L.length-1
   ·rw[e]at h1;simp[hs]at h1
   ·rw[getD_set_ne true (kK e),hf i (by omega)]at h1
    cases h1
 intro fuel
 induction fuel with
 | zero=>
  intro listed a w inv h;refine⟨fun e=>absurd e (hl listed inv),fun i hi=> ?_⟩;have ha:=qG hi
  by_cases e:i=L.length-1
  ·subst e;exact wpOp_mono (fun a' w' h'=>Av (hd listed inv hi).2 h' 0) h.2
  ·have:=(rm (by omega)).2 hi;rw[h.1]at this
   cases this
 | succ fuel ih=>
  intro listed a w inv h;refine⟨fun e=>absurd e (hl listed inv),fun i hi=> ?_⟩;have ha:=qG hi
  by_cases e:i=L.length-1
  ·subst e;exact wpOp_mono (fun a' w' h'=>Av (hd listed inv hi).2 h' (fuel+1)) (h.1 (hd listed inv hi).1)
  ·have hk:i<L.length-1:=by omega
   refine MZ hk (fun x j b hx hj=>hg i x j b hx hj) (wpOp_mono (fun a' w' h'=>ih _ a' w' (inv.set hi hk) h') (h.2 i ((rm hk).2 hi)))
theorem Cz {ops:Array Oper} {m:Nat} :HeadInv md ops m (Array.replicate ops.size false):=by
 refine⟨by simp,fun j oj hj hl=> ?_,fun t _ ht=>by simp[ht]⟩;have:=(aP.1 hj).1;simp[this]at hl
theorem ey {id:Nat} {a:Act} {w:World} {L:List Oper} (S:World->Prop) (hm:P.follows .mixedOrders=true) (hB:CM .any L=true)
  (h:qk P L.dropLast.toArray (yJ P L.toArray (L.length-1) Q) S (L.length-1) (Array.replicate L.length false) a w.drew):(Code.region id L.toArray true).wp P Q a w:=by
 simp only[CM,aJ,aK]at hB;obtain⟨⟨hc,hd⟩,hb⟩:=hB;have ha: ∀(i:Nat) (x:Oper),L[i]? =some x->(∀e∈x.after,e.on<i)/\ ∀j b,x.guard=some (j,b)->j<i:=fun i x hx=>by
  have:=cz.1 hb i (dN.2 (aN.1 hx).1);rw[hx]at this;simp only[aJ]at this;refine⟨fun e he=> ?_,fun j b hg=> ?_⟩
  ·have:=Array.all_eq_true'.1 this.1 e he
   simpa using this
  ·have:=this.2;rw[hg]at this
   simpa using this
 refine wp_region_any hm ?_;have:=Gi hc hd (fun i x hx=>(ha i x hx).1) (fun i x j b hx=>(ha i x hx).2 j b) (L.length-1) _ a w.drew Cz (wpAny_of_held _ _ _ _ (by simpa using h.out));rw[show L.length-1+1=L.length by omega]at this
 simpa using this
theorem eJ {L:List Oper} {m:Nat} {a:Act} {w:World} {dst:Option Tmp} {op:Op} {ty:TypeId} {pos:String} {aft:Array Edge} {g:Option (Nat×Bool)} (hi:L[m]? =some ⟨dst,op,ty,pos,aft,g⟩) (hw:Region.wanted ⟨dst,op,ty,pos,aft,g⟩ (yielded L.toArray a.tmps)=true)
  (h: ∀K:Act->World->Prop,(∀a w,Q .normal a w->K a w)->wpList P #[] (Exit.then K Q) [⟨dst,op,ty,pos, #[],none⟩] a w):yJ P L.toArray m Q .normal a w:=by
 show wpOp P L.toArray Q m _ a w
 have hb:xW P L.toArray (fun a' w'=>Q .normal a' w') Q [⟨dst,op,ty,pos,aft,g⟩] a w:=ei hw (fun K hK=>h K (fun a w hh=>hK a w hh));unfold wpOp;have ha:L.toArray[m]? =some ⟨dst,op,ty,pos,aft,g⟩:=by simpa using hi
 simp only[ha];exact xW.out hb
end
end Go.Proofs.YtpffpjbkbaleiaaGreatDoor
namespace Go.Proofs.YtpffpjbkbaleiaaGreatDoor
open Go.RowKit
theorem Tryz.appBytes :km Tryz.prog 29 5 1 1:=km.mk' (z:= .int .u8 0) dh (by kernel_rfl) rfl (by decide) (by decide)
theorem Tryz.appRefs :km Tryz.prog 24 26 3 32:=km.mk' (z:= .agg #[.string ⟨#[]⟩, .int .i64 0, .int .i64 0]) Tryz.underlying24 (by kernel_rfl) rfl (by decide) (by decide)
theorem Tryz.appItems :km Tryz.prog 22 28 10 120:=km.mk' (z:= .agg #[.string ⟨#[]⟩, .int .i64 0, .int .i64 0, .int .i64 0, .int .i64 0, .string ⟨#[]⟩, .slice none 0 0, .string ⟨#[]⟩, .int .i64 0, .int .i64 0]) Tryz.underlying22 (by kernel_rfl) rfl (by decide) (by decide)
def bG (S:Nat->Prop) (w:World) (v:Value) (bs:List UInt8):Prop:=cE S w 1 v bs.length (bs.map aY)
def Ps (bs:List UInt8) (w:World) (e:Ending) (w':World):Prop:= ∃rb dv,e= .returned (.pointer (some ⟨rb,0,none⟩))/\w.heap.size<=rb/\sD w' rb dv bs ⟨0,0,0⟩/\Below w.heap.size w w'
theorem fo (bs:List UInt8): ∀u∈bs.map aY,u.oneCell'=true:=fun u hu=>by
 obtain⟨b,_,rfl⟩:=aW.1 hu
 rfl
theorem yq (S:Nat->Prop) (bs:List UInt8) (v:Value) (w:World) (hv:bG S w v bs) (hl:bs.length<=32768):Calls Tryz.prog 58 #[v] w (Ps bs w):=by
 obtain⟨_,a,cap,rfl,hn,hm,-⟩:=id hv;unfold maxLen at hm;have HV:=an (show cE S (w.alloc (.cells #[] 5)) 1 (.slice a bs.length cap) bs.length (bs.map aY)from cE.below hv (by omega) (eN));have HO:=an (World.ownsRow_made (base:=w.heap.size) (e:=5) (size:=1) w #[] 0 (au _) (by unfold maxLen; omega) rfl);clear hv
 go_enter Tryz.func58,Tryz.ntmps58
 go_wp2_with (at_builtin; go_must (refine el Tryz.appBytes rfl _ _ rfl w.heap.size _ 0 [] rfl HO.o _ bs.length (bs.map aY) rfl HV.o (fo bs) (by omega) (by simp) ?_); intro v5 w5 ha hb; rw[bX,aL]at ha; have hd:=an ha; obtain⟨a5,c5,rfl,hf,he⟩:=aI ha; have hc:=an (show Below w.heap.size w w5 from cg ((ay w.heap.size w).alloc (au _) _) HO.o hb (au _) (by simp)); clear ha hb)
 go_ret;refine⟨w5.heap.size,_,rfl,hc.o.size,⟨aH w5 _, ?_,aX _,aX _,hl⟩,hc.o.alloc hc.o.size _⟩;have hr:=cE.below (cG hd.o) (by omega) ((ay w5.heap.size w5).alloc (au _) (.cells #[.slice a5 bs.length c5, .int .i64 0, .int .i64 0, .int .i64 0] 165));refine hr.weak (fun k hk e=> ?_);have:=(hd.o.lt k hk.2).2;omega
def jg (data:List UInt8) (s0:RS):Nat->List cX×RS
 | 0=>([],s0)
 | k+1=>((jg data s0 k).1++[(rB data (jg data s0 k).2).1],(rB data (jg data s0 k).2).2)
def ph (data:List UInt8) (nm:List UInt8) (kd md td:Nat) (s:RS):Option (cr×RS):=
 if ob kd=1 then some (⟨⟨nm.toArray⟩,ob kd,ob md,ob td,mY (jg data (AO data 963 s).2 (AO data 963 s).1).1,⟨#[]⟩,(jg data (AO data 963 s).2 (AO data 963 s).1).1,ef⟩,(jg data (AO data 963 s).2 (AO data 963 s).1).2)
 else if ob kd=2 then some (⟨⟨nm.toArray⟩,ob kd,ob md,ob td,0,⟨#[]⟩,[],(rB data s).1⟩,(rB data s).2)
 else if ob kd=3 then some (⟨⟨nm.toArray⟩,ob kd,ob md,ob td,0,⟨(DT data 512 s).1.toArray⟩,[],ef⟩,(DT data 512 s).2)
 else none
def mZ (data:List UInt8) (s:RS):Option (cr×RS):=
 ph data (DT data 64 s).1 (vp data (DT data 64 s).2).1 (vp data (vp data (DT data 64 s).2).2).1 (vp data (vp data (vp data (DT data 64 s).2).2).2).1 (vp data (vp data (vp data (DT data 64 s).2).2).2).2
theorem wP {data:List UInt8} {s s2 s3 s4 s5:RS} {nm:List UInt8} {kd md td:Nat} (h1:DT data 64 s=(nm,s2)) (h2:vp data s2=(kd,s3)) (h3:vp data s3=(md,s4)) (h4:vp data s4=(td,s5)):mZ data s=ph data nm kd md td s5:=by
 have e1:(DT data 64 s).1=nm:=by rw[h1]
 have e2:(DT data 64 s).2=s2:=by rw[h1]
 have e3:(vp data s2).1=kd:=by rw[h2]
 have e4:(vp data s2).2=s3:=by rw[h2]
 have e5:(vp data s3).1=md:=by rw[h3]
 have e6:(vp data s3).2=s4:=by rw[h3]
 have e7:(vp data s4).1=td:=by rw[h4]
 have e8:(vp data s4).2=s5:=by rw[h4]
 unfold mZ;rw[e2,e4,e6,e1,e3,e5,e7,e8]
theorem wN {data:List UInt8} {s s1 s2:RS} {nm:List UInt8} {kd md td n:Nat} {ch:List cX} (hk:ob kd=1) (h1:AO data 963 s=(n,s1)) (h2:jg data s1 n=(ch,s2)):ph data nm kd md td s=some (⟨⟨nm.toArray⟩,ob kd,ob md,ob td,mY ch,⟨#[]⟩,ch,ef⟩,s2):=by
 have e1:(AO data 963 s).1=n:=by rw[h1]
 have e2:(AO data 963 s).2=s1:=by rw[h1]
 have e3:(jg data s1 n).1=ch:=by rw[h2]
 have e4:(jg data s1 n).2=s2:=by rw[h2]
 unfold ph;rw[if_pos hk,e1,e2,e3,e4]
theorem zt {data:List UInt8} {s s1:RS} {nm:List UInt8} {kd md td:Nat} {r:cX} (hk:ob kd=2) (h1:rB data s=(r,s1)):ph data nm kd md td s=some (⟨⟨nm.toArray⟩,ob kd,ob md,ob td,0,⟨#[]⟩,[],r⟩,s1):=by
 have e1:(rB data s).1=r:=by rw[h1]
 have e2:(rB data s).2=s1:=by rw[h1]
 have ha: ¬ob kd=1:=by rw[hk]; omega
 unfold ph;rw[if_neg ha,if_pos hk,e1,e2]
theorem wO {data:List UInt8} {s s1:RS} {nm lk:List UInt8} {kd md td:Nat} (hk:ob kd=3) (h1:DT data 512 s=(lk,s1)):ph data nm kd md td s=some (⟨⟨nm.toArray⟩,ob kd,ob md,ob td,0,⟨lk.toArray⟩,[],ef⟩,s1):=by
 have e1:(DT data 512 s).1=lk:=by rw[h1]
 have e2:(DT data 512 s).2=s1:=by rw[h1]
 have ha: ¬ob kd=1:=by rw[hk]; omega
 have hb: ¬ob kd=2:=by rw[hk]; omega
 unfold ph;rw[if_neg ha,if_neg hb,if_pos hk,e1,e2]
theorem EK {data:List UInt8} {s:RS} {nm:List UInt8} {kd md td:Nat} (hk1: ¬ob kd=1) (hk2: ¬ob kd=2) (hk3: ¬ob kd=3):ph data nm kd md td s=none:=by
 unfold ph;rw[if_neg hk1,if_neg hk2,if_neg hk3]
def jh (data:List UInt8) (s0:RS):Nat->Option (List cr×RS)
 | 0=>some ([],s0)
 | k+1=>(jh data s0 k).bind fun p=>(mZ data p.2).map fun q=>(p.1++[q.1],q.2)
def iR (data:List UInt8):Option (List cr):=
 if 32768<data.length then none else
 (jh data (AO data 4096 ⟨0,0,0⟩).2 (AO data 4096 ⟨0,0,0⟩).1).bind fun p=>if tV data p.2=0/\jB p.1=true then some p.1 else none
theorem mK (data:List UInt8) (s0:RS) (k:Nat):jh data s0 (k+1)=(jh data s0 k).bind fun p=>(mZ data p.2).map fun q=>(p.1++[q.1],q.2):=rfl
theorem CF {data:List UInt8} {s0:RS} {k:Nat} (h:jh data s0 k=none): ∀n,k<=n->jh data s0 n=none:=by
 intro n hn
 induction n with
 | zero=>
  obtain rfl:k=0:=by omega
  exact h
 | succ n ih=>
  by_cases e:k=n+1
  ·rw[<-e]; exact h
  ·rw[mK,ih (by omega),Option.bind_none]
theorem Io {α β γ:Type} {x:Option α} {f:α->Option β} {g:α->β->γ} {a:α} {b:β} (h:x=some a) (h1:f a=some b):(x.bind fun p=>(f p).map fun q=>g p q)=some (g a b):=by subst h; rw[Option.bind_some,h1]; rfl
theorem Ip {α β γ:Type} {x:Option α} {f:α->Option β} {g:α->β->γ} {a:α} (h:x=some a) (h1:f a=none):(x.bind fun p=>(f p).map fun q=>g p q)=none:=by subst h; rw[Option.bind_some,h1]; rfl
theorem mJ {data:List UInt8} {s0 s s1:RS} {k:Nat} {l:List cr} {it:cr} (h:jh data s0 k=some (l,s)) (h1:mZ data s=some (it,s1)):jh data s0 (k+1)=some (l++[it],s1):=by
 rw[mK]; exact Io (f:=fun p:List cr×RS=>mZ data p.2) (g:=fun p q=>(p.1++[q.1],q.2)) h h1
theorem uP {data:List UInt8} {s0 s:RS} {k:Nat} {l:List cr} (h:jh data s0 k=some (l,s)) (h1:mZ data s=none):jh data s0 (k+1)=none:=by
 rw[mK]; exact Ip (f:=fun p:List cr×RS=>mZ data p.2) (g:=fun p q=>(p.1++[q.1],q.2)) h h1
theorem vY (data:List UInt8) (s0:RS): ∀k,(jg data s0 k).1.length=k
 | 0=>rfl
 | k+1=>by rw[jg]; simp[vY data s0 k]
theorem yT (data:List UInt8) (s0:RS): ∀k,∀r∈(jg data s0 k).1,eC r
 | 0=>by simp[jg]
 | k+1=>fun r hr=>by
  rw[jg]at hr;simp only[aU,aQ]at hr
  rcases hr with hr | rfl
  ·exact yT data s0 k r hr
  ·exact GS _ _
theorem AP (data:List UInt8) (most:Nat) (s:RS):(AO data most s).1<=most:=by
 unfold AO rv
 split
 ·split
  ·rename_i x o h;exact(ub h).1
  ·exact aX _
 ·exact aX _
theorem Ib (data:List UInt8) (most:Nat) (s:RS):(DT data most s).1.length<=most:=by
 unfold DT rv
 split
 ·split
  ·rename_i x o h;unfold ki at h
   split at h
   ·simp at h
   ·rename_i n o' hn;unfold kA at h
    split at h
    ·simp at h
    ·simp only[dr,cW]at h;obtain⟨rfl,rfl⟩:=h;have:=(ub hn).1
     simp; omega
  ·exact aX _
 ·exact aX _
structure kr (rb ib : Nat) (wr wc : World) (dv : Value) (data : List UInt8) (s : RS) (cs : Array Value) : Prop where
 rd:sD wc rb dv data s
 rd0: ∃s0,sD wr rb dv data s0
 box:wc.heap[ib]? =some (.cells cs 28 (0,0))
 grown:wr.grownBy wc (some rb)
 ge:wr.heap.size<=ib
theorem kr.lt {rb ib:Nat} {wr wc:World} {dv:Value} {data:List UInt8} {s:RS} {cs:Array Value} (h:kr rb ib wr wc dv data s cs):rb<wr.heap.size:=by
 obtain⟨s0,h0⟩:=h.rd0;exact dp.lt h0
theorem kr.call {rb ib:Nat} {wr wc w':World} {dv:Value} {data:List UInt8} {s s':RS} {cs:Array Value} (h:kr rb ib wr wc dv data s cs) (h1:sD w' rb dv data s') (h2:wc.grownBy w' (some rb)):kr rb ib wr w' dv data s' cs:=
 ⟨h1,h.rd0,ng h2 h.box (by have:=h.lt; have:=h.ge; omega),ci h.grown h2,h.ge⟩
theorem kr.set {rb ib:Nat} {wr wc:World} {dv:Value} {data:List UInt8} {s:RS} {cs:Array Value} (h:kr rb ib wr wc dv data s cs) (k:Nat) (x:Value):kr rb ib wr (wc.setCell ⟨ib,k,none⟩ x) dv data s (cs.setIfInBounds k x):=by
 obtain⟨s0,h0⟩:=h.rd0;exact⟨dp.setOther h0 h.rd h.ge x,h.rd0,jf h.box x,nB h.grown h.ge x,h.ge⟩
theorem kr.below {rb ib:Nat} {wr wc w':World} {dv:Value} {data:List UInt8} {s:RS} {cs:Array Value} (h:kr rb ib wr wc dv data s cs) (hb:Below wc.heap.size wc w'):kr rb ib wr w' dv data s cs:=
 ⟨dp.below h.rd hb,h.rd0,(hb.block ib ((aP.1 h.box).1)).trans h.box,ci h.grown (gw hb _),h.ge⟩
theorem kr.start {rb:Nat} {wr w2:World} {dv:Value} {data:List UInt8} {s s2:RS} (h0:sD wr rb dv data s) (h1:sD w2 rb dv data s2) (h2:wr.grownBy w2 (some rb)) (cs:Array Value):
  kr rb w2.heap.size wr (w2.alloc (.cells cs 28)) dv data s2 cs:=
 ⟨dp.below h1 (eN),⟨s,h0⟩,aH w2 _,ci h2 (gw (eN) _),h2.size⟩
theorem kr.cell {rb ib:Nat} {wr wc:World} {dv:Value} {data:List UInt8} {s:RS} {cs:Array Value} (h:kr rb ib wr wc dv data s cs) (k:Nat):wc.cell? ⟨ib,k,none⟩=cs[k]? :=bH h.box
theorem kr.free {rb ib:Nat} {wr wc:World} {dv:Value} {data:List UInt8} {s:RS} {cs:Array Value} (h:kr rb ib wr wc dv data s cs) (k:Nat):wc.frozen? ⟨ib,k,none⟩=false:=dy h.box
theorem dp.keep {w1 wc w':World} {rb:Nat} {v:Value} {data:List UInt8} {off last off0 last0:Nat} {err err0:Int} (h0:dp w1 rb v data off0 last0 err0) (h:dp wc rb v data off last err) (hs: ∀k,k<w1.heap.size->w'.heap[k]? =wc.heap[k]?):dp w' rb v data off last err:=by
 have h1:=h0.lt;have hd:=h0.row.mono (T:=fun k=>k≠rb/\k<w1.heap.size) (fun k hk hS=>⟨hS,hk⟩) (by omega);obtain⟨_,a0,cap0,he,_,_,ha⟩:=hd;obtain⟨hl,a,cap,hv,hn,hm,h2⟩:=h.row;refine⟨(hs rb h1).trans h.box,⟨hl,a,cap,hv,hn,hm, ?_⟩,h.le,h.ls,h.small⟩
 rcases h2 with h2 | ⟨bk,o,rfl,hk,hc⟩
 ·exact .inl h2
 ·rcases ha with ha | ⟨bk0,o0,rfl,hb,_⟩
  ·exact .inl ha
  ·rw[he]at hv
   cases hv
   refine .inr ⟨bk,o,rfl,hk,fun j u hj=> ?_⟩;rw[<-hc j u hj];exact cA (hs bk hb.2)
theorem kr.app {rb ib:Nat} {wr wc w':World} {dv:Value} {data:List UInt8} {s:RS} {cs:Array Value} {r:Option Nat} (h:kr rb ib wr wc dv data s cs) (h2:wc.grownBy w' r) (hr: ∀k,r=some k->ib<k):kr rb ib wr w' dv data s cs:=by
 obtain⟨s0,h0⟩:=h.rd0;have hg:=h.grown.size;have ha:=h.ge;refine⟨dp.keep h0 h.rd (fun k hk=>h2.block k (by omega) (fun e=>by have:=hr k e.symm; omega)),h.rd0, ?_, ?_,h.ge⟩
 ·exact(h2.block ib ((aP.1 h.box).1) (fun e=>by have:=hr ib e.symm; omega)).trans h.box
 ·refine⟨h2.os.trans h.grown.os,h2.tape.trans h.grown.tape,h2.output.trans h.grown.output,aB hg h2.size,fun k hk hn=> ?_⟩;rw[h2.block k (by omega) (fun e=>by have:=hr k e.symm; omega)];exact h.grown.block k hk hn
theorem uE {data:List UInt8} {s0 s s1:RS} {k:Nat} {l:List cX} {r:cX} (h:jg data s0 k=(l,s)) (h1:rB data s=(r,s1)):jg data s0 (k+1)=(l++[r],s1):=by
 have e1:(jg data s0 k).1=l:=by rw[h]
 have e2:(jg data s0 k).2=s:=by rw[h]
 have e3:(rB data s).1=r:=by rw[h1]
 have e4:(rB data s).2=s1:=by rw[h1]
 rw[jg,e1,e2,e3,e4]
theorem qH {r:cX} : ∀u∈ji r,u.oneCell'=true:=by
 intro u hu;simp only[ji,bh,dt,or_false]at hu
 rcases hu with rfl | rfl | rfl<;> rfl
theorem zZ : ∀ {rs:List cX},(∀r∈rs,eC r)->eQ oJ (rs.flatMap ji) rs
 | [],_=>rfl
 | r::rs,h=>⟨ji r,rs.flatMap ji,rfl,⟨rfl,h r (by simp)⟩,zZ (fun x hx=>h x (by simp[hx]))⟩
theorem pT {w:World} {base:Nat} {v:Value} {rs:List cX} (h:w.ownsRow base 26 3 v rs.length (rs.flatMap ji)) (hok: ∀r∈rs,eC r):dA (fun k=>base<=k/\v.ownBlock=some k) w v rs:=
 ⟨rs.flatMap ji,cG h,zZ hok⟩
structure vL (w1 : World) (rb : Nat) (wr : World) (dv v : Value) (data : List UInt8) (s : RS) (l : List cr) : Prop where
 rd:sD wr rb dv data s
 rd1: ∃s0,sD w1 rb dv data s0
 row: ∃cells,wr.ownsRow w1.heap.size 28 10 v l.length cells/\eQ (lr (fun k=>w1.heap.size<=k/\v.ownBlock≠some k) wr) cells l
 grown:w1.grownBy wr (some rb)
theorem dA.same {S T:Nat->Prop} {w w':World} {v:Value} {rs:List cX} (h:dA S w v rs) (hs: ∀k,k<w.heap.size->S k->T k/\w'.heap[k]? =w.heap[k]?):dA T w' v rs:=by
 obtain⟨cells,hr,ha⟩:=h;have h2:=hr.mono (T:=fun k=>k<w.heap.size/\S k) (fun k hk hS=>⟨hk,hS⟩) (by omega);have h3:=h2.same (w':=w') (fun k hk=>(hs k hk.1 hk.2).2);exact⟨cells,h3.weak (fun k hk=>(hs k hk.1 hk.2).1),ha⟩
theorem lr.same {S T:Nat->Prop} {w w':World} {c:List Value} {it:cr} (h:lr S w c it) (hs: ∀k,k<w.heap.size->S k->T k/\w'.heap[k]? =w.heap[k]?):lr T w' c it:=by
 obtain⟨cv,h1,h2,h3⟩:=h;exact⟨cv,h1,h2.same hs,h3⟩
theorem kH {a:Option Addr} {n c:Nat} {it:cr} : ∀u∈fh (.slice a n c) it,u.oneCell'=true:=by
 intro u hu;simp only[fh,bh,dt,or_false]at hu
 rcases hu with rfl | rfl | rfl | rfl | rfl | rfl | rfl | rfl | rfl | rfl<;> rfl
theorem vL.added {rb ib:Nat} {w1 wr wc w':World} {dv v v':Value} {data:List UInt8} {s s':RS} {l:List cr} {it:cr} {cv:Value} {cells:List Value} (h:vL w1 rb wr dv v data s l) (hm:kr rb ib wr wc dv data s' (fh cv it).toArray)
  (hcv:dA (wr.heap.size<= ·) wc cv it.chunks) (hok:ii it) (hrow:eQ (lr (fun k=>w1.heap.size<=k/\v.ownBlock≠some k) wr) cells l) (hown:wr.ownsRow w1.heap.size 28 10 v l.length cells)
  (h1:w'.ownsRow w1.heap.size 28 10 v' (l.length+1) (cells++fh cv it)) (h2:wc.grownBy w' v.ownBlock) (h3: ∀k,v'.ownBlock=some k->v.ownBlock=some k\/wc.heap.size<=k):vL w1 rb w' dv v' data s' (l++[it]):=by
 have he:=hm.lt;have hc:=hm.grown.size;have hb:=h.grown.size;obtain⟨s0,h0⟩:=h.rd1;have hd:=dp.lt h0;have ha: ∀k,v.ownBlock=some k->w1.heap.size<=k/\k<wr.heap.size:=fun k hk=>hown.lt k hk
 refine⟨?_,h.rd1,⟨cells++fh cv it,by simpa using h1, ?_⟩, ?_⟩
 ·exact dp.keep h0 hm.rd (fun k hk=>h2.block k (by omega) (fun e=>by have:=ha k e.symm; omega))
 ·refine eQ.snoc (hrow.mono (fun c x _ hx=>hx.same (fun k hk hS=>⟨⟨hS.1,fun e=> ?_⟩, ?_⟩))) ⟨cv,rfl,hcv.same (fun k hk hS=>⟨⟨by omega,fun e=> ?_⟩, ?_⟩),hok⟩
  ·rcases h3 k e with e | e
   ·have:=ha k e; omega
   ·omega
  ·exact h2.block k hk (fun e=>by have:=ha k e.symm; omega)
  ·rcases h3 k e with e | e
   ·exact hS.2 e
   ·omega
  ·rw[h2.block k (by omega) (fun e=>hS.2 e.symm)];exact hm.grown.block k hk (by simp; omega)
 ·refine⟨h2.os.trans (hm.grown.os.trans h.grown.os),h2.tape.trans (hm.grown.tape.trans h.grown.tape),h2.output.trans (hm.grown.output.trans h.grown.output),aB hb (aB hc h2.size),fun k hk hn=> ?_⟩;rw[h2.block k (by omega) (fun e=>by have:=ha k e.symm; omega),hm.grown.block k (by omega) hn];exact h.grown.block k hk hn
def BE (data:List UInt8) (w:World) (e:Ending) (w':World):Prop:=Below w.heap.size w w'/\match iR data with
 | none=>e= .returned (.tuple #[.slice none 0 0, .int .i64 3])
 | some l=> ∃v,e= .returned (.tuple #[v, .int .i64 0])/\eD (w.heap.size<= ·) w' v l
theorem wQ {data:List UInt8} (h:32768<data.length):iR data=none:=by unfold iR; rw[if_pos h]
theorem zw {data:List UInt8} (h: ¬32768<data.length) {n:Nat} {s1:RS} (h1:AO data 4096 ⟨0,0,0⟩=(n,s1)):iR data=(jh data s1 n).bind fun p=>if tV data p.2=0/\jB p.1=true then some p.1 else none:=by
 unfold iR; rw[if_neg h,h1]
theorem uR {data:List UInt8} (h: ¬32768<data.length) {n:Nat} {s1:RS} (h1:AO data 4096 ⟨0,0,0⟩=(n,s1)) (h2:jh data s1 n=none):iR data=none:=by
 rw[zw h h1,h2]; rfl
theorem qy {data:List UInt8} (h: ¬32768<data.length) {n:Nat} {s1 s2:RS} {l:List cr} (h1:AO data 4096 ⟨0,0,0⟩=(n,s1)) (h2:jh data s1 n=some (l,s2)):iR data=if tV data s2=0/\jB l=true then some l else none:=by
 rw[zw h h1,h2]; rfl
theorem jw {w w':World} {base:Nat} {e:TypeId} {sz:Nat} {v:Value} {n:Nat} {xs:List Value} (h:w.ownsRow base e sz v n xs) (hb:Below w.heap.size w w'):w'.ownsRow base e sz v n xs:=
 h.kept (gw hb none) (by cases v.ownBlock<;> simp)
open Go Go.RowKit
def dC (v:V8) (buf:List UInt8) (n:Nat):List Value:=v.list.map fc++(buf.map aY++[.int .i64 (n:Int)])
def om (w:World) (sb:Nat) (ty:TypeId) (rest:List Value) (data:List UInt8):Prop:=
 ∃buf:List UInt8,buf.length=64/\buf.take (data.length%64)=data.drop (64*(data.length/64))/\w.heap[sb]? =some (.cells (dC (jQ data (data.length/64)) buf data.length++rest).toArray ty (0,0))
theorem bG.call {w w':World} {sb:Nat} {v:Value} {bs:List UInt8} (h:bG (· ≠sb) w v bs) (hg:w.grownBy w' (some sb)):bG (· ≠sb) w' v bs:=by
 have h2:=cE.mono (T:=fun k=>k≠sb/\k<w.heap.size) h (fun k hk hS=>⟨hS,hk⟩) (by omega);exact(cE.same h2 (fun k hk=>hg.block k hk.2 (fun e=>hk.1 (bK e)))).weak (fun k hk=>hk.1)
theorem ss {S:Nat->Prop} {w:World} {a:Option Addr} {n cap:Nat} {bs:List UInt8} (h:bG S w (.slice a n cap) bs) {k:Nat} (hk:k<=bs.length):
  ∃a' cap',(∀w',(Instr.slice 29 (.slice a n cap) (some (.int .i64 (k:Int))) none none).run Tryz.prog w'= .ok (.slice a' (bs.drop k).length cap') w')/\bG S w (.slice a' (bs.drop k).length cap') (bs.drop k):=by
 obtain⟨hl,a0,cap0,hv,hn,hm,h0⟩:=h;simp only[cS]at hv;obtain⟨rfl,rfl,rfl⟩:=hv;have hz: ∀w',(sizeOf (Tryz.prog.elem 29)).run Tryz.prog w'= .ok 1 w':=fun _=>by kernel_rfl
 refine⟨if cap=k then a else a.map (fun p=>p.add k),cap-k,fun w'=> ?_, ?_⟩
 ·rw[run_slice_l _ _ _ _ _ dh _ _ (by omega) (by omega),hz];simp only[Result.andThen,sliced,eE,kf,bA]
 ·refine⟨by simp,_,_,rfl,by rw[bA]; omega,by omega, ?_⟩
  rcases h0 with h0 | ⟨b,o,rfl,hS,hc⟩
  ·exact .inl (by rw[bA]; omega)
  ·by_cases ha:(bs.drop k).length=0
   ·exact .inl ha
   ·rw[bA]at ha;refine .inr ⟨b,o+k, ?_,hS,fun j x hj=> ?_⟩
    ·rw[if_neg (by omega),ep,jK]
    ·rw[df];exact hc (k+j) x (by rw[<-hj,List.map_drop,fz])
theorem DG {S:Nat->Prop} {w:World} {a:Option Addr} {n cap:Nat} {bs:List UInt8} (h:bG S w (.slice a n cap) bs) {k:Nat} (hk:k<=bs.length) (h0:0<k):
  (∀w',(Instr.slice 29 (.slice a n cap) none (some (.int .i64 (k:Int))) none).run Tryz.prog w'= .ok (.slice a k cap) w')/\bG S w (.slice a (bs.take k).length cap) (bs.take k)/\ ∃b o,a=some ⟨b,o,none⟩:=by
 obtain⟨hl,a0,cap0,hv,hn,hm,h1⟩:=h;simp only[cS]at hv;obtain⟨rfl,rfl,rfl⟩:=hv;have hz: ∀w',(sizeOf (Tryz.prog.elem 29)).run Tryz.prog w'= .ok 1 w':=fun _=>by kernel_rfl
 rcases h1 with h1 | ⟨b,o,rfl,hS,hc⟩
 ·omega
 ·refine⟨fun w'=> ?_,⟨by simp,_,_,rfl,by rw[bm]; omega,hm, .inr ⟨b,o,rfl,hS,fun j x hj=> ?_⟩⟩,b,o,rfl⟩
  ·rw[run_slice_h _ _ _ _ _ dh _ _ (by omega) (by omega),hz];simp only[Result.andThen,sliced,eE,iZ,Nat.sub_zero]
   by_cases ha:cap=0
   ·omega
   ·rw[if_neg ha,ep,jK,de]
  ·refine hc j x ?_;rw[List.map_take,em]at hj
   split at hj
   ·exact hj
   ·cases hj
theorem kJ {ops:Array Oper} {rest:List Oper} {o:Oper} {a:Act} {Q:Exit->Act->World->Prop} {w:World} (hgd:o.guard=none) (d s:Operand)
  (ho:o.op= .call {callee:= .builtin .copy,args:= #[d,s],argTypes:= #[29,29]}) (g off dLen dCap:Nat) (sp:Option Addr) (sLen sCap:Nat) (hd:a.eval d= .slice (some ⟨g,off,none⟩) dLen dCap) (hs:a.eval s= .slice sp sLen sCap)
  (cur:List Value) (t:TypeId) (hg:w.heap[g]? =some (.cells cur.toArray t (0,0))) (S:Nat->Prop) (bs:List UInt8) (hb:bG S w (.slice sp sLen sCap) bs) (k:Nat) (hk:k=Nat.min bs.length dLen) (hfit:off+dLen<=cur.length)
  (h: ∀w',w'.heap[g]? =some (.cells (splice cur off ((bs.take k).map aY)).toArray t (0,0))->w.grownBy w' (some g)->wpList Tryz.prog ops Q rest (a.put o.dst (.int .i64 (k:Int))) w'):wpList Tryz.prog ops Q (o::rest) a w:=by
 obtain⟨hl,a0,cap0,hv,hn,hm,h1⟩:=hb;simp only[cS]at hv;obtain⟨rfl,rfl,rfl⟩:=hv
 by_cases he:k=0
 ·subst he;refine wpList_copy_nothing hgd d s _ _ ho 5 dh (by kernel_rfl) _ _ _ _ _ _ hd hs (by rw[<-hk]) ?_;refine h w ?_ (pG w _);rw[hg,aZ,eL];simp[splice]
 ·have hh:k<=bs.length:=by rw[hk]; exact Nat.min_le_left _ _
  have hp:k<=dLen:=by rw[hk]; exact Nat.min_le_right _ _
  rcases h1 with h1 | ⟨b,o2,rfl,hS,hc⟩
  ·omega
  ·have ha:((bs.take k).map aY).length=k:=by rw[aE,bm]; omega
   refine wpList_copy_own hgd d s _ _ ho 5 dh (by kernel_rfl) g off dLen dCap ⟨b,o2,none⟩ bs.length sCap hd hs cur.toArray t hg ((bs.take k).map aY) (by rw[ha,hk]) (fun j x hj=> ?_) (by rw[ha,bU]; omega) (fun v hv=>by obtain⟨x,_,rfl⟩:=aW.1 hv; rfl) ?_
   ·rw[jK];refine hc j x ?_;rw[List.map_take,em]at hj
    split at hj
    ·exact hj
    ·cases hj
   ·rw[ha];refine h _ ?_ ?_
    ·rw[dW w g _ _ t _ hg];simp only[splice,ha]
    ·exact⟨rfl,rfl,rfl,by simp[World.setRow],fun i _ hf=>setRow_other w g i _ (fun e=>hf (by rw[e]))⟩
theorem mA (v:V8) {buf:List UInt8} (h:buf.length=64) (n:Nat):(dC v buf n).length=73:=by unfold dC V8.list; simp[h]
theorem Ag (v:V8) {buf:List UInt8} (h:buf.length=64) (n:Nat) (rest:List Value):(dC v buf n++rest).toArray[72]? =some (.int .i64 (n:Int)):=by
 rw[ak,bO (by rw[mA v h]; decide)];unfold dC;rw[bI (by simp[V8.list]),bI (by simp[V8.list,h])];simp[V8.list,h]
theorem Kc (v:V8) {buf:List UInt8} (h:buf.length=64) (n n':Nat) (rest:List Value):(dC v buf n++rest).set 72 (.int .i64 (n':Int))=dC v buf n'++rest:=by
 rw[List.set_append_left _ _ (by rw[mA v h]; decide)]
 congr 1
 unfold dC;rw[fp _ _ (by simp[V8.list]),fp _ _ (by simp[V8.list,h])]
 congr 2
 simp[V8.list,h]
theorem ke (v:V8) (buf:List UInt8) (n:Nat) (rest:List Value):dC v buf n++rest=v.list.map fc++(buf.map aY++([.int .i64 (n:Int)]++rest)):=by unfold dC; simp
theorem sr (v:V8) {buf:List UInt8} (h:buf.length=64) (n:Nat) (rest:List Value) {off:Nat} {xs:List UInt8} (ho:off+xs.length<=64):splice (dC v buf n++rest) (8+off) (xs.map aY)=dC v (splice buf off xs) n++rest:=by
 have e: ∀(A B C:List Value),A.length=8->B.length=64->splice (A++(B++C)) (8+off) (xs.map aY)=A++(splice B off (xs.map aY)++C):=by
  intro A B C hA hB;unfold splice;have hx:(xs.map aY).length=xs.length:=by simp
  rw[hx,List.take_append,iV,hA,show 8+off-8=off by omega,show 8+off+xs.length-8=off+xs.length by omega,bC (by omega),dM (by omega),aL,ft (by omega),fq (by omega)];simp
 rw[ke,e _ _ _ (by simp[V8.list]) (by simpa using h),ke]
 congr 2
 unfold splice;simp
theorem pJ {buf xs:List UInt8} (h:buf.length=64) {off:Nat} (ho:off+xs.length<=64):(splice buf off xs).length=64:=by rw[length_splice _ _ _ (by omega),h]
structure BG (sb : Nat) (ty : TypeId) (rest : List Value) (D buf : List UInt8) (w wr : World) (j : Nat) : Prop where
 box:wr.heap[sb]? =some (.cells (dC (jQ D j) buf D.length++rest).toArray ty (0,0))
 len:buf.length=64
 grown:w.grownBy wr (some sb)
theorem lY.grown {w wr:World} {sb:Nat} (h:lY w) (hne:sb≠5) (hg:w.grownBy wr (some sb)) (hlt:5<w.heap.size):lY wr:=by
 intro j x hj;rw[<-h j x hj];exact cA (hg.block _ hlt (fun e=>hne (bK e).symm))
theorem On (v:V8) {buf:List UInt8} (n:Nat) (rest:List Value) {j:Nat} {x:UInt8} (hj:buf[j]? =some x):(dC v buf n++rest).toArray[8+j]? =some (aY x):=by
 have ha:=(aN.1 hj).1;rw[ak,ke,bI (by simp[V8.list]),bO (by simp[V8.list]; omega)];rw[show 8+j-(List.map fc v.list).length=j by simp[V8.list],bn,hj]; rfl
theorem zd {data xs:List UInt8} {q:Nat} (h:64*q<=data.length):(data++xs).drop (64*q)=data.drop (64*q)++xs:=fq h
theorem DI {buf xs:List UInt8} {u:Nat} (hb:buf.length=64) (hx:u+xs.length=64):splice buf u xs=buf.take u++xs:=by
 unfold splice;rw[hx,dM (by omega),cj]
def NM :Value->Nat
 | .slice _ n _=>n
 | _=>0
def Ga (sb:Nat) (ty:TypeId) (rest:List Value) (D:List UInt8) (w:World) (x:Value) (wr:World):Prop:=
 ∃(j rl cap:Nat) (a:Option Addr) (buf:List UInt8),rl=(D.drop (64*j)).length/\64*j<=D.length/\x= .slice a rl cap/\bG (· ≠sb) wr (.slice a rl cap) (D.drop (64*j))/\BG sb ty rest D buf w wr j
theorem BG.done {sb:Nat} {ty:TypeId} {rest:List Value} {D buf:List UInt8} {w wr w':World} {j:Nat} (h:BG sb ty rest D buf w wr j) (hj:64*j<=D.length) (hl:(D.drop (64*j)).length<64)
  (hb:w'.heap[sb]? =some (.cells (splice (dC (jQ D j) buf D.length++rest) 8 (((D.drop (64*j)).take (D.drop (64*j)).length).map aY)).toArray ty (0,0))) (hg:wr.grownBy w' (some sb)):om w' sb ty rest D/\w.grownBy w' (some sb):=by
 have e:D.length/64=j:=by rw[bA]at hl; omega
 have e2:D.length%64=(D.drop (64*j)).length:=by rw[bA]at hl ⊢; omega
 refine⟨⟨splice buf 0 (D.drop (64*j)),pJ h.len (by omega), ?_, ?_⟩,ci h.grown hg⟩
 ·rw[e2,e];unfold splice;rw[aZ,aL,List.take_left]
 ·rw[hb,dg,e,sr _ h.len D.length rest (off:=0) (by omega)]
theorem lL (sb:Nat) (ty:TypeId) (rest:List Value) (data xs:List UInt8) (xv:Value) (w:World) (h:om w sb ty rest data) (hx:bG (· ≠sb) w xv xs) (hlen:data.length+xs.length<1152921504606846976) (hK:lY w) (hKlt:5<w.heap.size) (hne:sb≠5):
  Calls Tryz.prog 168 #[.pointer (some ⟨sb,0,none⟩),xv] w fun e w'=>e= .returned (.tuple #[])/\om w' sb ty rest (data++xs)/\w.grownBy w' (some sb):=by
 obtain⟨buf,hD,Hs,hR⟩:=h;obtain⟨_,a,cap,rfl,h4,HC,-⟩:=id hx;have HX:=an hx;have hU:=an hR;have Hk:=an Hs;have HK:=an hK;have ha:=an hD;obtain⟨n,hn⟩: ∃n,n=data.length:=⟨_,rfl⟩;obtain⟨m,hm⟩: ∃m,m=xs.length:=⟨_,rfl⟩;rw[<-hn]at hU hlen;rw[<-hm]at hlen h4;have c72:=(bu w _ 72 _ _ _ hU.o).trans (Ag _ hD n rest)
 have f72:=dH w _ 72 _ _ hU.o;have HN:=an (aD hn hm);clear hx hR Hs hK hD;rw[<-hm];clear hn hm
 go_enter Tryz.func168,Tryz.ntmps168
 go_upto_region 2 with(fail)
 obtain⟨W1,hV⟩: ∃W1,W1=w.setCell ⟨sb,72,none⟩ (.int .i64 ((n:Int)+(m:Int))):=⟨_,rfl⟩;rw[<-hV];have hZ:=an (show W1.heap[sb]? =some (.cells (dC (jQ data (n/64)) buf (n+m)++rest).toArray ty (0,0)) by
  rw[hV,gN w _ _ _ _ _ hU.o,ag,<-Kc _ ha.o n (n+m) rest];rw[Int.natCast_add])
 have hJ:=an (show w.grownBy W1 (some sb) by rw[hV]; exact cJ w sb 72 _);have Hl:=an (HX.o.call hJ.o);clear hV c72 f72
 by_cases hu:n%64=0
 ·have Hd:(n:Int)%64=0:=by omega
  have h0:=an (show Ga sb ty rest (data++xs) w (.slice a m cap) W1 from by
   have e1:64*(n/64)=data.length:=by have:=HN.o.1; omega
   refine⟨n/64,m,cap,a,buf, ?_,by rw[ar]; omega,rfl, ?_, ?_⟩
   ·rw[e1,List.drop_left]; exact HN.o.2
   ·rw[e1,List.drop_left];have:=Hl.o;rw[<-HN.o.2]at this;exact this
   ·refine⟨?_,ha.o,hJ.o⟩;rw[sG xs (by omega),ar,<-HN.o.1,<-HN.o.2];exact hZ.o)
  go_wp2_with fail;clear Hd hu
  go_loopw [1] (fun x wr=>Ga sb ty rest (data++xs) w x wr) (fun x _=>NM x)
  case atStart=>exact h0.o
  case round=>
   obtain⟨j,rl,cap2,a2,bf,hw,hj,rfl,hE,hl⟩:=hrel;have hb:=an hw;have hA:=an hE
   have hc:=an hl;have Hc:rl<1152921504606846976:=by
    have:=HN.o;rw[hw,bA,ar]; omega
   obtain⟨_,_,_,hp,hf,hF,-⟩:=id hE
   simp only[cS]at hp;obtain⟨rfl,-,rfl⟩:=hp;rw[<-hw]at hf;clear hw hE hl
   by_cases hP:64<=rl
   ·obtain⟨s1,s2,b,o,rfl⟩:=DG hA.o (k:=64) (by rw[<-hb.o]; exact hP) (by decide);obtain⟨a3,cap3,s3,s4⟩:=ss hA.o (k:=64) (by rw[<-hb.o]; exact hP);have S1: ∀w',(Instr.slice 29 (.slice (some ⟨b,o,none⟩) rl cap2) none (some (.int .i64 64)) none).run Tryz.prog w'= .ok (.slice (some ⟨b,o,none⟩) 64 cap2) w':=s1;obtain⟨r3,hv⟩: ∃r3,r3=((List.drop (64*j) (data++xs)).drop 64).length:=⟨_,rfl⟩
    have S3: ∀w',(Instr.slice 29 (.slice (some ⟨b,o,none⟩) rl cap2) (some (.int .i64 64)) none none).run Tryz.prog w'= .ok (.slice a3 r3 cap3) w':=by rw[hv]; exact s3
    rw[<-hv]at s4;have hO:=an hv;have S2:=an s2;have S4:=an s4;clear s1 s2 s3 s4 hv;go_wp2_with fail;refine(qF sb (jQ (data++xs) j) (bf.map aY++([.int .i64 ((data++xs).length:Int)]++rest)) ty b o cap2 ((List.drop (64*j) (data++xs)).take 64) wr (by rw[<-ke]; exact hc.o.box) (sH _ _) (by rw[bm,<-hb.o]; omega) (by omega) hF ?_ (HK.o.grown hne hc.o.grown hKlt) (by have:=hc.o.grown.size; omega)).mono ?_
    ·intro i x hi;obtain⟨_,_,_,hT,_,_,h9⟩:=S2.o;simp only[cS]at hT;rw[<-hT.1]at h9
     rcases h9 with h9 | ⟨b9,o9,e9,_,h9⟩
     ·rw[bm,<-hb.o]at h9; omega
     ·simp only[br,jk]at e9;rw[e9.1,e9.2.1];exact h9 i _ (by rw[bn,hi]; rfl)
    ·rintro e w2 ⟨rfl,hQ,hG⟩;have h2:=an (show BG sb ty rest (data++xs) bf w w2 (j+1)from⟨by rw[ke]; exact hQ,hc.o.len,ci hc.o.grown hG⟩);have h3:=an (S4.o.call hG);clear hQ hG;go_wp2_with fail
     go_roundw
     case rel=>
      refine⟨j+1,r3,cap3,a3,bf, ?_, ?_,rfl, ?_,h2.o⟩
      ·rw[hO.o,fI,show 64*j+64=64*(j+1) by omega]
      ·have:=hb.o;rw[bA]at this; omega
      ·have:=h3.o;rw[fI,show 64*j+64=64*(j+1) by omega]at this;exact this
     case measure=>
      have h1:=hO.o;rw[bA,<-hb.o]at h1
      show r3<rl
      omega
   ·have ho:rl=Nat.min (List.drop (64*j) (data++xs)).length 64:=by rw[<-hb.o]; exact(fm (by omega)).symm
    have hg:8+64<=(dC (jQ (data++xs) j) bf (data++xs).length++rest).length:=by rw[ar,mA _ hc.o.len]; omega
    have hC:=an ho;have hd:=an hg;clear ho hg;go_wp2_with (refine kJ rfl _ _ rfl sb 8 64 64 a2 rl cap2 rfl rfl (dC (jQ (data++xs) j) bf (data++xs).length++rest) ty hc.o.box (· ≠sb) (List.drop (64*j) (data++xs)) hA.o rl hC.o hd.o ?_; intro w3 he hh; have hz:=an he; have hr:=an hh; clear he hh)
    go_end0
    refine⟨rfl, ?_⟩;refine hc.o.done hj (by rw[<-hb.o]; omega) ?_ hr.o;rw[<-hb.o]; exact hz.o
 ·obtain⟨u,Ht⟩: ∃u,u=n%64:=⟨_,rfl⟩;have Hd:(n:Int)%64=(u:Int):=by omega
  have hS:(0:Int)<(u:Int):=by omega
  have He:(u:Int)<=64:=by omega
  obtain⟨k,hk⟩: ∃k,k=Nat.min xs.length (64-u):=⟨_,rfl⟩;have hH:k<=xs.length:=by rw[hk]; exact Nat.min_le_left _ _
  have hy:k<=64-u:=by rw[hk]; exact Nat.min_le_right _ _
  have Hr:k=xs.length\/k=64-u:=by
   rw[hk]
   rcases Nat.le_total xs.length (64-u)with e | e
   ·exact .inl (fm e)
   ·exact .inr (Nat.min_eq_right e)
  have HU:=an (aD Ht hu);have Hj:=an hk;have Hi:=an Hr;have hN:=an (aD hH hy);have hW:=Hl.o;rw[<-HN.o.2]at hW;obtain⟨a4,cap4,s4,y4⟩:=ss hW hH;obtain⟨m4,Hb⟩: ∃m4,m4=(xs.drop k).length:=⟨_,rfl⟩;rw[<-Hb]at s4 y4;have Hx:=an Hb;have Y4:=an y4;have Hm:=an hW;have hd:=an (show 8+u+(64-u)<=(dC (jQ data (n/64)) buf (n+m)++rest).length by rw[ar,mA _ ha.o]; omega)
  clear hu Ht hk Hr hH hy hW Hb y4;have Hf:wrap64 ((u:Int)+(k:Int))=(u:Int)+(k:Int):=by unfold wrap64; have:=hN.o.2; omega
  by_cases HA:u+k<64
  ·have HB:(u:Int)+(k:Int)<64:=by omega
   go_wp2_with (refine kJ rfl _ _ rfl sb (8+u) (64-u) (64-u) a m cap rfl rfl (dC (jQ data (n/64)) buf (n+m)++rest) ty hZ.o (· ≠sb) xs Hm.o k Hj.o hd.o ?_; intro w3 he hh; have hz:=an he; have hr:=an hh; clear he hh);refine cN (gk rfl _ _ _) rfl ?_;have hk:k=xs.length:=by rcases Hi.o with e | e<;> omega
   have hs:=HN.o.1;have hI:=HN.o.2;have hL:=HU.o.1;have hq:64*(n/64)<=data.length:=by omega
   refine⟨rfl,⟨splice buf u xs,pJ ha.o (by omega), ?_, ?_⟩,ci hJ.o hr.o⟩
   ·rw[ar,<-hs,<-hI,show(n+m)/64=n/64 by omega,show(n+m)%64=u+xs.length by omega,zd hq];have:=Hk.o;rw[<-hs,<-hL]at this;rw[<-this];unfold splice;rw[<-bp,List.take_left' (by rw[ar,bm]; have:=ha.o; omega)]
   ·rw[hz.o,hk,dg,sr _ ha.o _ rest (by omega),ar,<-hs,<-hI,show(n+m)/64=n/64 by omega,sG xs hq]
  ·have Hy:64<=(u:Int)+(k:Int):=by omega
   have hk:k=64-u:=by have:=hN.o.2; rcases Hi.o with e | e<;> omega
   have Hu:u+k=64:=by have:=hN.o.2; omega
   have hM:=an (aD hk Hu);clear hk Hu;go_wp2_with (refine kJ rfl _ _ rfl sb (8+u) (64-u) (64-u) a m cap rfl rfl (dC (jQ data (n/64)) buf (n+m)++rest) ty hZ.o (· ≠sb) xs Hm.o k Hj.o hd.o ?_; intro w3 he hh; have hz:=an he; have hr:=an hh; clear he hh);obtain⟨B,hB⟩: ∃B,B=splice buf u (xs.take k):=⟨_,rfl⟩;have Ha:=hN.o.1
   have hX:(xs.take k).length=k:=by rw[bm]; omega
   have hL:=HU.o.1;have hs:=HN.o.1;have hI:=HN.o.2;have hq:64*(n/64)<=data.length:=by omega
   have Hp:B.length=64:=by rw[hB]; exact pJ ha.o (by rw[hX]; have:=hM.o.2; omega)
   have Hn:w3.heap[sb]? =some (.cells (dC (jQ data (n/64)) B (n+m)++rest).toArray ty (0,0)):=by rw[hz.o,sr _ ha.o _ rest (by rw[hX]; have:=hM.o.2; omega),<-hB]
   have Ho:B=((data++xs).drop (64*(n/64))).take 64:=by
    have ht:=Hk.o;rw[<-hs,<-hL]at ht;rw[hB,DI ha.o (by rw[hX]; exact hM.o.2),zd hq,<-ht,List.take_append,bm,ha.o,fm (by omega),<-hM.o.1,bC (l:=List.take u buf) (by rw[bm]; omega)]
   have Hh:=an Hp;have Hv:=an Ho;have Hg:=an Hn;clear Ha hX hL hs hI hq Hp Hn Ho hB;refine(qF sb (jQ data (n/64)) (B.map aY++([.int .i64 ((n+m:Nat):Int)]++rest)) ty sb 8 64 B w3 (by rw[<-ke]; exact Hg.o) (sH _ _) Hh.o (au _) (by unfold maxLen; omega) ?_ (HK.o.grown hne (ci hJ.o hr.o) hKlt) (by have:=hJ.o.size; have:=hr.o.size; omega)).mono ?_
   ·intro i x hi;rw[bu w3 _ _ _ _ _ Hg.o,On _ _ rest hi]; rfl
   ·rintro e w4 ⟨rfl,Hq,h8⟩;have hs:=HN.o.1;have hI:=HN.o.2;have hL:=HU.o.1;have hq:64*(n/64)<=data.length:=by omega
    have Hz:=hM.o.2;have Ha:=hN.o.1;have Hw:=an (ci hJ.o (ci hr.o h8));have hY:=(Y4.o.call hr.o).call h8;have h7:(data++xs).drop (64*(n/64+1))=xs.drop k:=by
     rw[show 64*(n/64+1)=data.length+k by omega,<-fI,List.drop_left]
    have h0:=an (show Ga sb ty rest (data++xs) w (.slice a4 m4 cap4) w4 from by
     refine⟨n/64+1,m4,cap4,a4,B, ?_,by rw[ar]; omega,rfl, ?_, ?_⟩
     ·rw[h7]; exact Hx.o
     ·rw[h7]; exact hY
     ·refine⟨?_,Hh.o,Hw.o⟩;rw[ke,jQ,<-Hv.o,sG xs hq,ar,<-hs,<-hI];exact Hq)
    clear Hq h8 hs hI hL hq Hz Ha hY h7;go_wp2_with fail;clear Hf HA Hy hS He Hd
    go_loopw [1] (fun x wr=>Ga sb ty rest (data++xs) w x wr) (fun x _=>NM x)
    case atStart=>exact h0.o
    case round=>
     obtain⟨j,rl,cap2,a2,bf,hw,hj,rfl,hE,hl⟩:=hrel;have hb:=an hw;have hA:=an hE
     have hc:=an hl;have Hc:rl<1152921504606846976:=by
      have:=HN.o;rw[hw,bA,ar]; omega
     obtain⟨_,_,_,hp,hf,hF,-⟩:=id hE
     simp only[cS]at hp;obtain⟨rfl,-,rfl⟩:=hp;rw[<-hw]at hf;clear hw hE hl
     by_cases hP:64<=rl
     ·obtain⟨s1,s2,b,o,rfl⟩:=DG hA.o (k:=64) (by rw[<-hb.o]; exact hP) (by decide);obtain⟨a3,cap3,s3,s4⟩:=ss hA.o (k:=64) (by rw[<-hb.o]; exact hP);have S1: ∀w',(Instr.slice 29 (.slice (some ⟨b,o,none⟩) rl cap2) none (some (.int .i64 64)) none).run Tryz.prog w'= .ok (.slice (some ⟨b,o,none⟩) 64 cap2) w':=s1;obtain⟨r3,hv⟩: ∃r3,r3=((List.drop (64*j) (data++xs)).drop 64).length:=⟨_,rfl⟩
      have S3: ∀w',(Instr.slice 29 (.slice (some ⟨b,o,none⟩) rl cap2) (some (.int .i64 64)) none none).run Tryz.prog w'= .ok (.slice a3 r3 cap3) w':=by rw[hv]; exact s3
      rw[<-hv]at s4;have hO:=an hv;have S2:=an s2;have S4:=an s4;clear s1 s2 s3 s4 hv;go_wp2_with fail;refine(qF sb (jQ (data++xs) j) (bf.map aY++([.int .i64 ((data++xs).length:Int)]++rest)) ty b o cap2 ((List.drop (64*j) (data++xs)).take 64) wr (by rw[<-ke]; exact hc.o.box) (sH _ _) (by rw[bm,<-hb.o]; omega) (by omega) hF ?_ (HK.o.grown hne hc.o.grown hKlt) (by have:=hc.o.grown.size; omega)).mono ?_
      ·intro i x hi;obtain⟨_,_,_,hT,_,_,h9⟩:=S2.o;simp only[cS]at hT;rw[<-hT.1]at h9
       rcases h9 with h9 | ⟨b9,o9,e9,_,h9⟩
       ·rw[bm,<-hb.o]at h9; omega
       ·simp only[br,jk]at e9;rw[e9.1,e9.2.1];exact h9 i _ (by rw[bn,hi]; rfl)
      ·rintro e w2 ⟨rfl,hQ,hG⟩;have h2:=an (show BG sb ty rest (data++xs) bf w w2 (j+1)from⟨by rw[ke]; exact hQ,hc.o.len,ci hc.o.grown hG⟩);have h3:=an (S4.o.call hG);clear hQ hG;go_wp2_with fail
       go_roundw
       case rel=>
        refine⟨j+1,r3,cap3,a3,bf, ?_, ?_,rfl, ?_,h2.o⟩
        ·rw[hO.o,fI,show 64*j+64=64*(j+1) by omega]
        ·have:=hb.o;rw[bA]at this; omega
        ·have:=h3.o;rw[fI,show 64*j+64=64*(j+1) by omega]at this;exact this
       case measure=>
        have h1:=hO.o;rw[bA,<-hb.o]at h1
        show r3<rl
        omega
     ·have ho:rl=Nat.min (List.drop (64*j) (data++xs)).length 64:=by rw[<-hb.o]; exact(fm (by omega)).symm
      have hg:8+64<=(dC (jQ (data++xs) j) bf (data++xs).length++rest).length:=by rw[ar,mA _ hc.o.len]; omega
      have hC:=an ho;have hd:=an hg;clear ho hg;go_wp2_with (refine kJ rfl _ _ rfl sb 8 64 64 a2 rl cap2 rfl rfl (dC (jQ (data++xs) j) bf (data++xs).length++rest) ty hc.o.box (· ≠sb) (List.drop (64*j) (data++xs)) hA.o rl hC.o hd.o ?_; intro w3 he hh; have hz:=an he; have hr:=an hh; clear he hh)
      go_end0
      refine⟨rfl, ?_⟩;refine hc.o.done hj (by rw[<-hb.o]; omega) ?_ hr.o;rw[<-hb.o]; exact hz.o
theorem Lf {S:Nat->Prop} {w:World} {v:Value} {bs:List UInt8} (hd:bG S w v bs):(convert 29 9 v).run Tryz.prog w= .ok (.string ⟨bs.toArray⟩) w:=by
 obtain⟨_,a,cap,rfl,hn,hm,h0⟩:=hd
 rcases h0 with h0 | ⟨b,o,rfl,_,hc⟩
 ·obtain rfl:=bt h0
  show(convert 29 9 (.slice a 0 cap)).run Tryz.prog w=_
  cases a<;> kernel_rfl
 ·have h:=run_convert_bytes_arg (P:=Tryz.prog) w 29 5 dh Tryz.underlying5 b o bs.length cap (bs.map fun b=>(b.toNat:Int)) (by simp) (fun i hi=>by
   rw[hc i (aY bs[i]) (by simp[hi])];simp[aY,List.getD,hi]) 9 dR
  rw[xH]at h;exact h
def oI (w:World):Prop:= ∀j x,pX.list[j]? =some x->w.cell? ⟨2,j,none⟩=some (fc x)
def Gz :List Value:=[.int .u32 1779033703, .int .u32 3144134277, .int .u32 1013904242, .int .u32 2773480762, .int .u32 1359893119, .int .u32 2600822924, .int .u32 528734635, .int .u32 1541459225]
theorem oI.range {w:World} (h:oI w):w.rangeAt 2 0 Gz:=by
 intro j x hj;rw[bX];have h2:Gz=pX.list.map fc:=by kernel_rfl
 rw[h2,bn]at hj
 cases hq:pX.list[j]? with
 | none=>rw[hq]at hj; cases hj
 | some y=>
  rw[hq]at hj;rw[h j y hq];exact hj
theorem xD (w:World) (hI:oI w):Calls Tryz.prog 167 #[] w fun e w'=>e= .returned (.pointer (some ⟨w.heap.size,0,none⟩))/\om w' w.heap.size 218 [] []/\Below w.heap.size w w'/\w.heap.size<w'.heap.size:=by
 have HR:=an hI.range;clear hI
 go_enter Tryz.func167,Tryz.ntmps167
 go_wp2_with (first | (refine dO rfl 216 _ rfl 2 0 rfl Gz _ HR.o fC rfl (by kernel_rfl) ?_) | (refine wpList_build rfl 218 _ rfl (by kernel_rfl) ?_));go_ret;refine⟨rfl,⟨List.replicate 64 0,by simp,by simp, ?_⟩,eN,by simp⟩;rw[aH,show(Tryz.prog.built 218 [(0,Value.agg Gz.toArray)]).getD #[]=(dC (jQ [] (([]:List UInt8).length/64)) (List.replicate 64 0) ([]:List UInt8).length++[]).toArray by kernel_rfl]
theorem qR {ops:Array Oper} {rest:List Oper} {o:Oper} {a:Act} {Q:Exit->Act->World->Prop} (hgd:o.guard=none) (s x:Operand)
  (ho:o.op= .call {callee:= .builtin .append,args:= #[s,x],argTypes:= #[29,29]}) (base:Nat) (v:Value) (n m:Nat) (xs:List Value) (hs:a.eval s=v) (w0:World) (news:List Value) (e2:TypeId)
  (hx:a.eval x= .slice (some ⟨w0.heap.size,0,none⟩) m m) (hl:news.length=m) (h1: ∀u∈news,u.oneCell'=true) (hown:w0.ownsRow base 5 1 v n xs) (hn:n+m<1099511627775) (hbase:base<=w0.heap.size)
  (h: ∀v' w',w'.ownsRow base 5 1 v' (n+m) (xs++news)->w0.grownBy w' v.ownBlock->wpList Tryz.prog ops Q rest (a.put o.dst v') w'):wpList Tryz.prog ops Q (o::rest) a (w0.alloc (.cells news.toArray e2)):=by
 obtain⟨ht,⟨i,z,hc,hd,he,hf,hh⟩,hb,hq⟩:=Tryz.appBytes;have ha: ∀(j:Nat) u,news[j]? =some u->(w0.alloc (.cells news.toArray e2)).cell? ((⟨w0.heap.size,0,none⟩:Addr).add j)=some u:=by
  intro j u hj;rw[jK,bX,bu _ _ _ _ _ _ (aH w0 (.cells news.toArray e2))]
  simpa using hj
 have hm:news.length=m*1:=by rw[hl,kf]
 obtain⟨v',w',hr,h2,hg,_⟩:=run_append_own (P:=Tryz.prog) (w0.alloc (.cells news.toArray e2)) base _ o.type _ i z 1 1 ht hc hd he hf hh hb v n xs (hown.alloc _) ⟨w0.heap.size,0,none⟩ m m news hm ha h1 (by unfold maxLen; omega) (by omega) (by simp; omega);refine gm hgd fun K hK=> ?_
 unfold Oper.wp execOp;simp only[ho,resolve,invoke,builtin,Sem.run_bind,Sem.run_pure,iD,iX,cw,eL,hs,hx,hr];refine hK _ _ (h v' w' h2 ⟨hg.os,hg.tape,hg.output,by have:=hg.size; simp at this; omega,fun k hk hp=> ?_⟩);rw[hg.block k (by simp; omega) hp];exact cP _ _ _ hk
theorem MA (v:V8) {buf:List UInt8} (h:buf.length=64) (n:Nat):(dC v buf n).toArray.size=73:=by rw[bU,mA v h]
theorem Oo (v:V8) (buf:List UInt8) (n:Nat): ∀x∈dC v buf n,x.oneCell'=true:=by
 intro x hx;unfold dC at hx
 rcases aU.1 hx with hx | hx
 ·obtain⟨y,_,rfl⟩:=aW.1 hx; rfl
 ·rcases aU.1 hx with hx | hx
  ·obtain⟨y,_,rfl⟩:=aW.1 hx; rfl
  ·rw[aQ.1 hx]; rfl
theorem Kb {w:World} {sb:Nat} {v:V8} {buf:List UInt8} {n:Nat} {rest:List Value} {ty:TypeId} (h:w.heap[sb]? =some (.cells (dC v buf n++rest).toArray ty (0,0))):w.rangeAt sb 0 (dC v buf n):=by
 intro j x hj;rw[bu w _ _ _ _ _ h,bX,ak,bO (aN.1 hj).1];exact hj
theorem BK : ∀l:List Nat,(l.flatMap AH).length=4*l.length
 | []=>rfl
 | x::l=>by rw[bq,ar,BK l,Gj,aG]; omega
theorem PK (v:V8) {k:Nat} (h:k<8):v.list.take (k+1)=v.list.take k++[v.list.getD k 0]:=by
 have hc:k=0\/k=1\/k=2\/k=3\/k=4\/k=5\/k=6\/k=7:=by omega
 rcases hc with rfl | rfl | rfl | rfl | rfl | rfl | rfl | rfl<;> rfl
theorem jt {w w':World} (h:w.grownBy w' none):Below w.heap.size w w':=⟨h.os,h.tape,h.output,h.size,fun k hk=>h.block k hk (by simp)⟩
def vm (z:Nat):List UInt8:=128::List.replicate z 0
theorem Jy (z:Nat):vm (z+1)=vm z++[0]:=by unfold vm; rw[List.replicate_succ',aM]
theorem xn (z:Nat):(vm z).length=z+1:=by simp[vm]
structure vN (w W1 wr : World) (v : Value) (pad : List UInt8) : Prop where
 row:wr.ownsRow (w.heap.size+1) 5 1 v pad.length (pad.map aY)
 below:Below W1.heap.size W1 wr
theorem vN.app {w W1 wr w':World} {v v':Value} {pad:List UInt8} {x:UInt8} {n:Nat} {cs:List Value} (h:vN w W1 wr v pad) (hs:W1.heap.size=w.heap.size+1) (h1:w'.ownsRow (w.heap.size+1) 5 1 v' (n+1) cs) (h2:wr.grownBy w' v.ownBlock) (hn:n=pad.length:=by simp[xn]) (hc:cs=pad.map aY++[aY x]:=by rfl):vN w W1 w' v' (pad++[x]):=by
 subst hn hc;refine⟨by simpa using h1,cg h.below h.row h2 (by omega) (by have:=h.below.size; omega)⟩
theorem Nv (c:Nat) {k s:Nat} (h:k<8) (hs:s=56-8*k):(nJ c).getD k 0=UInt8.ofNat (c/2^s):=by
 subst hs;have hc:k=0\/k=1\/k=2\/k=3\/k=4\/k=5\/k=6\/k=7:=by omega
 rcases hc with rfl | rfl | rfl | rfl | rfl | rfl | rfl | rfl
 case inr.inr.inr.inr.inr.inr.inr=>simp[nJ]
 all_goals rfl
theorem KU (c:Nat) {k:Nat} (h:k<8):(nJ c)[k]? =some ((nJ c).getD k 0):=by
 have:k<(nJ c).length:=h;simp[List.getD_eq_getElem?_getD,this]
theorem oX (y:Nat) (v:Int) (h:v=(y:Int)):Value.int .u8 (v%256)=aY (UInt8.ofNat y):=by
 subst h;unfold aY;rw[UInt8.toNat_ofNat'];simp
theorem xE (sb:Nat) (ty:TypeId) (rest:List Value) (data:List UInt8) (w:World) (h:om w sb ty rest data) (hlen:data.length<576460752303423488) (hK:lY w) (hKlt:5<w.heap.size):
  Calls Tryz.prog 169 #[.pointer (some ⟨sb,0,none⟩)] w fun e w'=>e= .returned (.string ⟨(pV data).toArray⟩)/\Below w.heap.size w w':=by
 obtain⟨buf,ho,Hu,hp⟩:=h;have Hg:=an hp;have HG:=an Hu;have HK:=an hK;have hm:=an ho;have HX:=az hp;obtain⟨n,hn⟩: ∃n,n=data.length:=⟨_,rfl⟩;have c72:=(bu w _ 72 _ _ _ Hg.o).trans (Ag _ ho data.length rest);rw[<-hn]at c72 hlen;have HN:=an hn;clear hp Hu hK ho hn;have Hm:=an (MA (jQ data (data.length/64)) hm.o data.length)
 have hP:=an (dU (Oo (jQ data (data.length/64)) buf data.length));have hO:=an (show(Tryz.prog.info? 218).map (·.size)=some (dC (jQ data (data.length/64)) buf data.length).length by rw[mA _ hm.o]; kernel_rfl);have hs:=an (show(Tryz.prog.info? 218).map (·.size)=some (dC (jQ data (data.length/64)) buf data.length).toArray.size by rw[Hm.o]; kernel_rfl)
 have HE:=an (Kb Hg.o)
 go_enter Tryz.func169,Tryz.ntmps169
 go_wp2_with (first | (refine dO rfl 218 _ rfl sb 0 rfl (dC (jQ data (data.length/64)) buf data.length) _ HE.o Tryz.underlying218 rfl hO.o ?_) | (refine du rfl 218 _ _ rfl w.heap.size _ rfl rfl _ _ (aH w _) hs.o (Hm.o.symm) hP.o ?_));obtain⟨W1,hu⟩: ∃W1,W1=(w.alloc (.cells Tryz.zeroCells218 218)).setRow w.heap.size (dC (jQ data (data.length/64)) buf data.length).toArray:=⟨_,rfl⟩
 rw[<-hu];have hq:W1.heap.size=w.heap.size+1:=by rw[hu]; simp
 have hE:=an (show Below w.heap.size w W1 by rw[hu]; exact er (eN) (au _) _);have HB:=an (show om W1 w.heap.size 218 [] data from⟨buf,hm.o,HG.o,by rw[hu,cj]; exact dW _ _ _ _ _ _ (aH w _)⟩);clear hu;rw[<-hq];obtain⟨W2,hH⟩: ∃W2,W2=W1.alloc (.cells #[.int .u8 128] 5):=⟨_,rfl⟩;have Hi:=an (show vN w W1 W2 (.slice (some ⟨W1.heap.size,0,none⟩) 1 1) (vm 0)from⟨by
  rw[hH];exact di (e:=5) (size:=1) (base:=w.heap.size+1) W1 #[.int .u8 128] 1 (by omega) (by decide) (by simp),by rw[hH]; exact eN⟩)
 rw[<-hH];clear hH;have hd:=an hq;clear hq;have yb:iI n<64:=by unfold iI; omega
 go_loopw [4] (fun x wr=> ∃z:Nat,z<=iI n/\vN w W1 wr x (vm z)) (fun x _=>64-NM x)
 case atStart=>exact⟨0,by omega,Hi.o⟩
 case round=>
  obtain⟨z,hz,hc⟩:=hrel;obtain⟨ao,co,rfl,h1,h2⟩:=aI hc.row;have hl:(vm z).length=z+1:=xn z;have hZ:=hc;rw[hl]at hZ;have hS:=an hZ;clear hZ;rw[hl]at h1 ⊢;have hT:=an (show wr.ownsRow (w.heap.size+1) 5 1 (.slice ao (z+1) co) (z+1) ((vm z).map aY) by have:=hc.row; rw[hl]at this; exact this);have H5:=hc.below.size;clear hc Hi
  have c72r:=(hS.o.below.cell (p:=⟨sb,72,none⟩) (by have:=hd.o; show sb<_; omega)).trans ((hE.o.cell (p:=⟨sb,72,none⟩) HX).trans c72)
  by_cases Hv:z<iI n
  ·have H7: ¬((n:Int)+((z:Int)+1))%64=56:=by unfold iI at Hv; omega
   have HZ:=an (show ∀u∈[(Value.int .u8 0)],u.oneCell'=true by simp[Value.oneCell']);have h8:z+1+1<1099511627775:=by omega
   have Ha:w.heap.size+1<=wr.heap.size:=by have:=hd.o; omega
   go_wp2_with (at_builtin; (refine qR rfl _ _ rfl (w.heap.size+1) (.slice ao (z+1) co) (z+1) 1 ((vm z).map aY) rfl wr [.int .u8 0] _ rfl rfl HZ.o hT.o h8 Ha ?_); intro v' wc hb ha; have hR:=an (hS.o.app (x:=0) hd.o hb ha hl.symm rfl); obtain⟨ae,ce,rfl,-,-⟩:=aI hb; clear hb ha)
   go_roundw
   case rel=>exact⟨z+1,by omega,by rw[Jy]; exact hR.o⟩
   case measure=>simp[NM]; omega
  ·have hX:z=iI n:=by omega
   have HR:((n:Int)+((z:Int)+1))%64=56:=by rw[hX]; unfold iI; omega
   have HI:=an hX
   go_upto_region 6 with(fail)
   rename ((_ != _)=false)=>hcond
   clear hcond HR hX Hv;obtain⟨pz,h0⟩: ∃pz,pz=vm z:=⟨_,rfl⟩;have Hk:=an h0;have HC:=an (show vN w W1 wr (.slice ao (z+1) co) (pz++(nJ (n*8)).take 0) by rw[aZ,cj,h0]; exact hS.o);clear h0;go_wp2_with fail
   go_loopw [4,6] (fun x s wr=> ∃k:Nat,k<=8/\s= .int .i64 (56-8*(k:Int))/\vN w W1 wr x (pz++(nJ (n*8)).take k)) (fun _ s _=>(intOf s+8).toNat)
   case atStart=>exact⟨0,by omega,rfl,HC.o⟩
   case round=>
    obtain⟨k,hk,rfl,hc⟩:=hrel;obtain⟨aq,cq,rfl,HJ,H3⟩:=aI hc.row;obtain⟨pl,hC⟩: ∃pl,pl=(pz++(nJ (n*8)).take k).length:=⟨_,rfl⟩;rw[<-hC]at hc HJ ⊢;have hF:=an hc;have hg:=an (show wr.ownsRow (w.heap.size+1) 5 1 (.slice aq pl cq) pl ((pz++(nJ (n*8)).take k).map aY) by have:=hc.row; rw[<-hC]at this; exact this);have Hj:=an hC
    have HW:pl<=72:=by rw[hC,ar,Hk.o,xn]; have:=List.length_take_le k (nJ (n*8)); have:(nJ (n*8)).length=8:=rfl; omega
    have hW:=hc.below.size;have HQ:=hd.o▸hW;clear hc hC
    by_cases hA:k<8
    ·obtain⟨sN,h3⟩: ∃sN:Nat,56-8*(k:Int)=(sN:Int):=⟨56-8*k,by omega⟩;rw[h3];have HY:(sN:Int)<=56:=by omega
     have HT:min sN 64=sN:=by omega
     obtain⟨x,hx⟩: ∃x,x=(nJ (n*8)).getD k 0:=⟨_,rfl⟩;have HV:=an (show Value.int .u8 ((n:Int)*8/2^sN%256)=aY x by rw[hx,Nv _ hA (by omega:sN=56-8*k)]; exact oX _ _ rfl);have hU:=an (show(nJ (n*8)).take (k+1)=(nJ (n*8)).take k++[x] by rw[hx,bZ,KU _ hA]; rfl);have HF:=an h3;have H1: -8<=(sN:Int)-8:=by omega
     clear hx h3;have HZ:=an (show ∀u∈[(Value.int .u8 ((n:Int)*8/2^sN%256))],u.oneCell'=true by simp[Value.oneCell']);have h8:pl+1<1099511627775:=by omega
     have Ha:w.heap.size+1<=wr.heap.size:=by have:=hd.o; omega
     go_wp2_with (at_builtin; go_loud (refine qR rfl _ _ rfl (w.heap.size+1) (.slice aq pl cq) pl 1 ((pz++(nJ (n*8)).take k).map aY) rfl wr [.int .u8 ((n:Int)*8/2^sN%256)] _ rfl rfl HZ.o hg.o h8 Ha ?_); intro v' wc hb ha; go_loud (have hR:=an (hF.o.app (x:=x) hd.o hb ha Hj.o (by rw[HV.o]))); obtain⟨ae,ce,rfl,-,-⟩:=aI hb; clear hb ha)
     go_roundw
     case rel=>exact⟨k+1,by omega,by have:=HF.o; congr 1; omega,by rw[hU.o,<-bp]; exact hR.o⟩
     case measure=>simp[intOf]; omega
    ·obtain rfl:k=8:=by omega
     have hJ:pz++(nJ (n*8)).take 8=pn data.length:=by
      rw[Hk.o,HI.o,<-HN.o,bC (show(nJ (n*8)).length<=8 from au _)];unfold pn vm;rw[eu (by omega)]
     have Hs:bG (· ≠w.heap.size) wr (.slice aq pl cq) (pn data.length):=by
      have h9:=cG hg.o;rw[hJ]at h9;have hG:pl=(pn data.length).length:=by rw[<-hJ]; exact Hj.o
      rw[hG]at h9 ⊢;exact h9.weak (fun j hj=>by show j≠w.heap.size; have:=hj.1; omega)
     have Hx:=an Hs
     have H2:=an hJ;clear Hs hJ;have HU:(pn data.length).length<=80:=by rw[xm]; unfold iI; omega
     go_wp2_with fail;refine(lL w.heap.size 218 [] data (pn data.length) (.slice aq pl cq) wr ?_ Hx.o (by have:=HN.o; omega) ?_ (by have:=hd.o; omega) (by omega)).mono ?_
     ·obtain⟨b1,b2,b3,b4⟩:=HB.o;exact⟨b1,b2,b3,(hF.o.below.block _ (az b4)).trans b4⟩
     ·intro j x hj;rw[<-HK.o j x hj];exact cA ((hF.o.below.block _ (by have:=hd.o; show 5<_; omega)).trans (hE.o.block _ hKlt))
     ·rintro e w3 ⟨rfl,h4,hY⟩;obtain⟨buf2,HO,HP,hV⟩:=h4;obtain⟨vv,h7⟩: ∃vv,vv=jQ (data++pn data.length) ((data++pn data.length).length/64):=⟨_,rfl⟩;rw[<-h7,ke]at hV;have He:=an hV;have HH:=an h7;have ya:=hY.size;have hr:=an (show Below w.heap.size w w3 from((hE.o.trans (hF.o.below.mono hE.o.size)).grown hY (by have:=hd.o; omega) (fun k hk=>by cases hk; exact au _)))
      have Hb:w.heap.size+1<=w3.heap.size:=by have:=hd.o; omega
      clear HO HP hV h7 hY;obtain⟨H8,⟨i9,z9,Hn,Ho,Hp,Hq,HM⟩,-,-⟩:=Tryz.appBytes;have hv:i9.bytes*32<=281474976710656:=by rw[Hq]; decide
      have H9:=an (aD Hn (aD Ho (aD Hp hv)));clear Hn Ho Hp Hq HM hv
      go_upto_region 12 with(refine wpList_make_own _ rfl _ _ 29 rfl (w.heap.size+1) 5 i9 z9 1 dh H9.o.1 H9.o.2.1 H9.o.2.2.1 .i64 .i64 32 32 rfl rfl rfl H9.o.2.2.2 (by decide) Hb ?_; intro w4 hh Ht; have Hy:=an hh; have hN:=an Ht; clear hh Ht)
      have hM:=an (hr.o.trans ((jt hN.o).mono hr.o.size));have Hw:=an ((hN.o.block _ (az He.o) (by simp)).trans He.o);have HD:=an (vg Hw.o);have Hc:w.heap.size+1<=w4.heap.size:=by have:=hN.o.size; omega
      have Hz:=an (show w4.ownsRow (w.heap.size+1) 5 1 (.slice (some ⟨w3.heap.size,0,none⟩) 0 32) (((vv.list.take 0).flatMap AH).length) (((vv.list.take 0).flatMap AH).map aY)from Hy.o);go_wp2_with (refine dO rfl 216 _ rfl w.heap.size 0 rfl [.int .u32 (vv.a:Int), .int .u32 (vv.b:Int), .int .u32 (vv.c:Int), .int .u32 (vv.d:Int), .int .u32 (vv.e:Int), .int .u32 (vv.f:Int), .int .u32 (vv.g:Int), .int .u32 (vv.h:Int)] _ HD.o fC rfl (by kernel_rfl) ?_)
      go_loopw [7,48] (fun x i wr=> ∃k:Nat,k<=8/\i= .int .i64 (k:Int)/\wr.ownsRow (w.heap.size+1) 5 1 x (((vv.list.take k).flatMap AH).length) (((vv.list.take k).flatMap AH).map aY)/\Below w.heap.size w wr/\w.heap.size+1<=wr.heap.size) (fun _ i _=>8-(intOf i).toNat)
      case atStart=>exact⟨0,by omega,rfl,Hz.o,hM.o,Hc⟩
      case round=>
       obtain⟨k,hk,rfl,he,hw,Hd⟩:=hrel;obtain⟨asx,csx,rfl,HL,H4⟩:=aI he;obtain⟨sl,hf⟩: ∃sl,sl=((vv.list.take k).flatMap AH).length:=⟨_,rfl⟩;rw[<-hf]at he HL ⊢;have Hl:=an hf;have hQ:=an he;have Hf:=an hw;have H0:sl<=32:=by rw[hf,BK,bm]; omega
       clear hf he hw
       by_cases hA:k<8
       ·have hI: ∀w,(Instr.index 216 (.agg #[.int .u32 (vv.a:Int), .int .u32 (vv.b:Int), .int .u32 (vv.c:Int), .int .u32 (vv.d:Int), .int .u32 (vv.e:Int), .int .u32 (vv.f:Int), .int .u32 (vv.g:Int), .int .u32 (vv.h:Int)]) (.int .i64 (k:Int))).run Tryz.prog w= .ok (.int .u32 ((vv.list.getD k 0:Nat):Int)) w:=LB vv hA;obtain⟨y,hy⟩: ∃y,y=vv.list.getD k 0:=⟨_,rfl⟩
        rw[<-hy]at hI;have hU:=an (show(vv.list.take (k+1)).flatMap AH=(vv.list.take k).flatMap AH++AH y by rw[hy,PK vv hA,bW]; simp);have HZ:=an (show ∀u∈[(Value.int .u8 ((y:Int)/16777216%256)), .int .u8 ((y:Int)/65536%256), .int .u8 ((y:Int)/256%256), .int .u8 ((y:Int)%256)],u.oneCell'=true by simp[Value.oneCell']);have HV:=an (show [(Value.int .u8 ((y:Int)/16777216%256)), .int .u8 ((y:Int)/65536%256), .int .u8 ((y:Int)/256%256), .int .u8 ((y:Int)%256)]=(AH y).map aY by
         rw[oX (y/2^24) _ (by simp),oX (y/2^16) _ (by simp),oX (y/2^8) _ (by simp),oX y _ rfl]; rfl)
        have HS:(k:Int)<8:=by omega
        have hD:sl+4<1099511627775:=by omega
        clear hy;go_wp2_with (at_builtin; go_loud (refine qR rfl _ _ rfl (w.heap.size+1) (.slice asx sl csx) sl 4 (((vv.list.take k).flatMap AH).map aY) rfl wr [.int .u8 ((y:Int)/16777216%256), .int .u8 ((y:Int)/65536%256), .int .u8 ((y:Int)/256%256), .int .u8 ((y:Int)%256)] _ rfl rfl HZ.o hQ.o hD Hd ?_); intro v' wc hb ha; have HA:=an hb; have Hh:=an ha; obtain⟨ae,ce,rfl,-,-⟩:=aI hb; clear hb ha)
        go_roundw
        case rel=>
         refine⟨k+1,by omega,by simp, ?_,cg Hf.o hQ.o Hh.o (by omega) (by omega),by have:=Hh.o.size; omega⟩;rw[hU.o,ar,Gj,aO,<-HV.o,<-Hl.o];exact HA.o
        case measure=>simp[intOf]; omega
       ·obtain rfl:k=8:=by omega
        have hB:(vv.list.take 8).flatMap AH=pV data:=by
         unfold pV V8.out;rw[<-HH.o]; rfl
        have Hr:bG (fun _=>True) wr (.slice asx sl csx) (pV data):=by
         have h9:=cG hQ.o;have hG:=Hl.o;rw[hB]at h9 hG;rw[hG]at h9 ⊢;exact h9.weak (fun _ _=>trivial)
        have H6:=Lf Hr;have hL:=an Hf.o;clear Hr hB;go_wp2_with fail;go_ret;exact⟨rfl,hL.o⟩
theorem NL {bs:List UInt8} (hl:bs.length=64) {k:Nat} (hk:k<64) {b:UInt8} (hb:bs[k]? =some b) (w:World):(Instr.index 213 (.agg (bs.map aY).toArray) (.int .i64 (k:Int))).run Tryz.prog w= .ok (.int .u8 (b.toNat:Int)) w:=by
 have hz:(sizeOf 5).run Tryz.prog w= .ok 1 w:=by kernel_rfl
 obtain⟨h1,rfl⟩:=aN.1 hb;simp[Instr.index,asIntOf,run_underlying Tryz.underlying213,part,hz,hl,hk]
 rfl
theorem uD {w:World} {fb o:Nat} {bs:List UInt8} {ty:TypeId} (h:w.heap[fb]? =some (.cells (bs.map aY).toArray ty (0,0))) (ho:o=0:=by rfl):w.rangeAt fb o (bs.map aY):=by
 subst ho;intro j x hj;rw[bu w _ _ _ _ _ h,bX,ak];exact hj
def gt (bs:List UInt8) (p:UInt8):List UInt8:=bs.map fun x=>x^^^p
structure rF (w : World) (bs : List UInt8) (p : UInt8) (k : Nat) (wr : World) : Prop where
 box:wr.heap[w.heap.size]? =some (.cells ((gt bs p).take k++List.replicate (64-k) 0 |>.map aY).toArray 213 (0,0))
 below:Below w.heap.size w wr
theorem FU (a b:UInt8):bits BinOp.xor IntKind.u8 (a.toNat:Int) (b.toNat:Int)=(((a^^^b).toNat:Nat):Int):=by
 rw[u8_xor_nat _ _ a.toNat_lt b.toNat_lt,UInt8.toNat_xor]
theorem rF.put {w wr:World} {bs:List UInt8} {p b:UInt8} {k:Nat} (h:rF w bs p k wr) (hl:bs.length=64) (hk:k<64) (hb:bs[k]? =some b):rF w bs p (k+1) (wr.setCell ⟨w.heap.size,k,none⟩ (aY (b^^^p))):=by
 refine⟨?_,h.below.trans ⟨rfl,rfl,rfl,by simp[World.setCell],fun j hj=>heap_setCell_other wr _ j _ (by show j≠w.heap.size; omega)⟩⟩;rw[gN wr _ _ _ _ _ h.box]
 congr 2
 have e1:(gt bs p).take (k+1)=(gt bs p).take k++[b^^^p]:=by
  rw[bZ]
  congr 1
  unfold gt;rw[bn,hb]; rfl
 have e2:((gt bs p).take k).length=k:=by unfold gt; rw[bm,aE,hl]; omega
 rw[e1,show 64-k=(64-(k+1))+1 by omega,gU,ag,aO,fp _ _ (by rw[aE,e2]; omega),aE,e2,eM];simp
theorem rF.here {w wr:World} {bs:List UInt8} {p:UInt8} {k:Nat} (h:rF w bs p k wr) (hl:bs.length=64) (hk:k<64):wr.cell? ⟨w.heap.size,k,none⟩=some (.int .u8 0):=by
 have e2:((gt bs p).take k).length=k:=by unfold gt; rw[bm,aE,hl]; omega
 rw[bu wr _ _ _ _ _ h.box,ak,aO,bI (by rw[aE,e2]; omega),aE,e2,eM,show 64-k=(64-(k+1))+1 by omega]
 rfl
theorem rF.drew {w wr:World} {bs:List UInt8} {p:UInt8} {k:Nat} (h:rF w bs p k wr):rF w bs p k wr.drew:=⟨h.box,h.below.trans (ay _ _).drew⟩
theorem ns (fb:Nat) (bs:List UInt8) (p:UInt8) (w:World) (hf:w.heap[fb]? =some (.cells (bs.map aY).toArray 213 (0,0))) (hl:bs.length=64):
  Calls Tryz.prog 166 #[.int .u8 (p.toNat:Int), .pointer (some ⟨fb,0,none⟩)] w fun e w'=>e= .returned (.agg ((gt bs p).map aY).toArray)/\Below w.heap.size w w':=by
 have HF:=an hf;have hp:=az hf;clear hf
 go_enter Tryz.func166,Tryz.ntmps166
 go_upto_region 1 with(fail)
 change Code.wp _ _ _ _ (w.alloc (.cells (List.replicate 64 (Value.int .u8 0)).toArray 213))
 obtain⟨W1,hd⟩: ∃W1,W1=w.alloc (.cells (List.replicate 64 (Value.int .u8 0)).toArray 213):=⟨_,rfl⟩;have hj:=an (show rF w bs p 0 W1 from⟨by rw[hd]; exact aH w _,by rw[hd]; exact eN⟩);have HR:=an (uD ((hj.o.below.block fb hp).trans HF.o));have HL:=an hl;have HI:=an (show(Tryz.prog.info? 213).map (·.size)=some (bs.map aY).length by rw[aE,hl]; kernel_rfl)
 rw[<-hd];clear hd;go_wp2_with (refine dO rfl 213 _ rfl fb 0 rfl (bs.map aY) _ HR.o Tryz.underlying213 rfl HI.o ?_)
 go_loopw [7] (fun i wr=> ∃k:Nat,k<=64/\i= .int .i64 (k:Int)/\rF w bs p k wr) (fun i _=>64-(intOf i).toNat)
 case atStart=>exact⟨0,by omega,rfl,hj.o⟩
 case round=>
  obtain⟨k,hk,rfl,hx⟩:=hrel;have HX:=an hx;have hz:=hx.below.size;clear hx hl
  by_cases hc:k<64
  ·obtain⟨b,hb⟩: ∃b,bs[k]? =some b:=⟨bs[k]'(by rw[HL.o]; exact hc),bM _⟩;have hI:=NL HL.o hc hb;have ch:=HX.o.here HL.o hc;have cf:=dH wr _ k _ _ HX.o.box;have ho:(k:Int)<64:=by omega
   have HB:=an hb;clear hb;go_wp2_with fail
   go_roundw
   case rel=>
    rw[FU];exact⟨k+1,by omega,by simp,HX.o.put HL.o hc HB.o⟩
   case measure=>simp[intOf]; omega
  ·obtain rfl:k=64:=by omega
   have he:wr.heap[w.heap.size]? =some (.cells ((gt bs p).map aY).toArray 213 (0,0)):=by
    rw[HX.o.box,eM,List.replicate_zero,cj,bC (by unfold gt; rw[aE,HL.o]; exact au _)]
   have ha:(gt bs p).length=64:=by unfold gt; rw[aE,HL.o]
   have hg:=an he;have hn:=an (uD he);have hm:=an (show(Tryz.prog.info? 213).map (·.size)=some ((gt bs p).map aY).length by rw[aE,ha]; kernel_rfl);have hh:=an (show(Tryz.prog.info? 213).map (·.size)=some ((gt bs p).map aY).toArray.size by rw[bU,aE,ha]; kernel_rfl);have H1:=an (dU (fo (gt bs p)))
   clear he;go_wp2_with (first | (refine dO rfl 213 _ rfl w.heap.size 0 rfl ((gt bs p).map aY) _ hn.o Tryz.underlying213 rfl hm.o ?_) | (refine du rfl 213 _ _ rfl w.heap.size _ rfl rfl _ _ hg.o hh.o rfl H1.o ?_));refine cN (results_cell_row rfl _ _ w.heap.size _ _ _ _ rfl (dW wr _ _ _ _ _ hg.o) Tryz.underlying213 rfl hh.o) rfl ?_;exact⟨rfl,er HX.o.below (au _) _⟩
def KE (w:World):Prop:=w.cell? ⟨0,0,none⟩=some (.int .u8 54)/\w.cell? ⟨0,1,none⟩=some (.int .u8 92)
theorem BQ (w:World) (e:TypeId) (s:ByteArray):Below w.heap.size w (Lib.bytesWorld w e s):=
 ⟨rfl,rfl,rfl,by rw[Lib.bytesWorld_size]; omega,fun k hk=>Lib.bytesWorld_at_old w e s k hk⟩
theorem AK (w:World) (s:ByteArray) (hs:s.size<=maxLen):bG (fun k=>k=w.heap.size) (Lib.bytesWorld w 5 s) (.slice (some ⟨w.heap.size,0,none⟩) s.size (grownCap w s.size 0 5)) (bl s):=by
 have e:s.size=(bl s).length:=bi s;unfold bG cE;rw[<-e];refine⟨by rw[aE,e,kf],_,_,rfl,grownCap_ge _ _ _ _,grownCap_le_maxLen _ _ _ _ hs, .inr ⟨w.heap.size,0,rfl,rfl,fun j u hj=> ?_⟩⟩;have ha:=(aN.1 hj).1;rw[aE,<-e]at ha;rw[bX,Lib.bytesWorld_cell w _ s j ha,<-hj,bn]
 have hb:j<s.data.toList.length:=by simpa using ha
 show _=Option.map aY (s.data.toList[j]?)
 rw[bM hb,cK,bM hb]
 rfl
theorem tS (s:ByteArray) (w:World) (hs:s.size<=maxLen): ∃W cp,(convert 9 29 (.string s)).run Tryz.prog w= .ok (.slice (some ⟨w.heap.size,0,none⟩) s.size cp) W/\bG (fun k=>k=w.heap.size) W (.slice (some ⟨w.heap.size,0,none⟩) s.size cp) (bl s)/\Below w.heap.size w W/\W.heap.size=w.heap.size+1:=
 ⟨_,_,Lib.run_convert_string_bytes (P:=Tryz.prog) w 9 29 5 s dR dh Tryz.underlying5,AK w s hs,BQ w _ s,Lib.bytesWorld_size w _ s⟩
def nf (xs:List ByteArray):List UInt8:=xs.flatMap bl
theorem om.below {w w':World} {sb:Nat} {ty:TypeId} {rest:List Value} {data:List UInt8} (h:om w sb ty rest data) (hb:Below w.heap.size w w'):om w' sb ty rest data:=by
 obtain⟨b,h1,h2,h3⟩:=h;exact⟨b,h1,h2,dV hb h3⟩
theorem lY.below {w w':World} (h:lY w) (hb:Below w.heap.size w w') (hlt:5<w.heap.size):lY w':=by
 intro j x hj;rw[<-h j x hj];exact cA (hb.block _ hlt)
theorem wR {xs:List ByteArray} {k:Nat} {s:ByteArray} (h:xs[k]? =some s):nf (xs.take (k+1))=nf (xs.take k)++bl s:=by
 unfold nf;rw[bZ,h,bW]; simp
theorem LG {xs:List ByteArray} (k:Nat):(nf (xs.take k)).length<=(nf xs).length:=by
 unfold nf
 conv=>rhs; rw[<-dx k xs,bW,ar]
 omega
theorem DF (S:Nat->Prop) (xs:List ByteArray) (v:Value) (w:World) (hv:lF S w v xs) (hx: ∀s∈xs,s.size<=maxLen) (hn:xs.length<=1000) (hl:(nf xs).length<576460752303423488) (hI:oI w) (hK:lY w) (hKlt:5<w.heap.size):
  Calls Tryz.prog 165 #[v] w fun e w'=>e= .returned (.string ⟨(pV (nf xs)).toArray⟩)/\Below w.heap.size w w':=by
 obtain⟨hQ,a,cap,rfl,hE,hM,h0⟩:=hv;have HK:=an hK;have HX:=an hx;have H0:=an h0;have HL:=an hl;clear hx h0 hK hl
 go_enter Tryz.func165,Tryz.ntmps165
 go_wp2_with fail;refine(xD _ hI).mono ?_;rintro e w1 ⟨rfl,hu,ho,hJ⟩;have hC:=an hu;have hA:=an ho;clear hu ho hI;go_wp2_with fail;obtain⟨n,hh⟩: ∃n,n=xs.length:=⟨_,rfl⟩;have HN:=an hh;rw[<-hh]at hn ⊢;clear hh
 go_loopw [9] (fun i wr=> ∃k:Nat,k<=n/\i= .int .i64 (k:Int)/\om wr w.heap.size 218 [] (nf (xs.take k))/\Below w.heap.size w wr/\w.heap.size<wr.heap.size) (fun i _=>n-(intOf i).toNat)
 case atStart=>exact⟨0,by omega,rfl,hC.o,hA.o,hJ⟩
 case round=>
  obtain⟨k,hk,rfl,hs,hb,hz⟩:=hrel;have HS:=an hs;have HB:=an hb;clear hs hb
  by_cases hP:k<n
  ·have hF:k<xs.length:=by have:=HN.o; omega
   obtain⟨s,hs⟩: ∃s,xs[k]? =some s:=⟨_,bM hF⟩;have hy:=H0.o
   rcases hy with h0 | ⟨b,o,rfl,hS,hc⟩
   ·omega
   ·have c0:=hc k (.string s) (by rw[bn,hs]; rfl);have hg:=block_lt_of_cell c0;have c1:=(HB.o.cell (p:=⟨b,o+k,none⟩) hg).trans c0;have hO:(k:Int)<(n:Int):=by omega
    have hG:s.size<=maxLen:=HX.o s (aS hs);obtain⟨W2,cp,hN,hr,hq,hH⟩:=tS s wr hG;have hB:=an hr
    have hd:=an hq;have hm:=an hs;clear hr hq hs c0 hc;go_wp2_with fail;refine(lL w.heap.size 218 [] (nf (xs.take k)) (bl s) _ W2 (HS.o.below hd.o) (hB.o.weak (fun j hj=>by show j≠w.heap.size; omega)) (by have h1:=wR hm.o; have h2:=LG (xs:=xs) (k+1); rw[h1,ar]at h2; have:=HL.o; omega) (HK.o.below (aw HB.o hd.o) hKlt) (by have:=hd.o.size; omega) (by omega)).mono ?_
    rintro e w3 ⟨rfl,hw,hf⟩;have hD:=an hw;have he:=an (show Below w.heap.size w w3 from(aw HB.o hd.o).grown hf (by omega) (fun j hj=>by cases hj; exact au _));have hL:w.heap.size<w3.heap.size:=by have:=hf.size; omega
    clear hw hf;go_wp2_with fail
    go_roundw
    case rel=>exact⟨k+1,by omega,by simp,by rw[wR hm.o]; exact hD.o,he.o,hL⟩
    case measure=>simp[intOf]; omega
  ·obtain rfl:k=n:=by omega
   have ha:nf (xs.take k)=nf xs:=by rw[HN.o,dg]
   go_wp2_with fail;refine(xE w.heap.size 218 [] (nf (xs.take k)) wr HS.o (by rw[ha]; exact HL.o) (HK.o.below HB.o hKlt) (by omega)).mono ?_;rintro e w3 ⟨rfl,hp⟩;have he:=an (aw HB.o hp);clear hp;rw[ha];go_wp2_with fail;go_ret;exact⟨rfl,he.o⟩
theorem Cs (off:Nat): ∀(xs:List Value) (k:Nat) (cs:Array Value),off+k+xs.length<=cs.size->
  ((xs.zipIdx k).foldl (fun cs p=>cs.setIfInBounds (off+p.2) p.1) cs).toList=cs.toList.take (off+k)++(xs++cs.toList.drop (off+k+xs.length))
 | [],k,cs,_=>by simp
 | x::xs,k,cs,h=>by
  rw[aG]at h;rw[List.zipIdx_cons,eO,Cs off xs (k+1) _ (by simp; omega),Array.toList_setIfInBounds];have h1:off+k<cs.toList.length:=by simp; omega
  have h2:((cs.toList.set (off+k) x).take (off+(k+1)))=cs.toList.take (off+k)++[x]:=by
   rw[show off+(k+1)=off+k+1 by omega,bZ,List.take_set_of_le (au _),cZ h1]; rfl
  have h3:(cs.toList.set (off+k) x).drop (off+(k+1)+xs.length)=cs.toList.drop (off+k+(xs.length+1)):=by
   rw[List.drop_set_of_lt (by omega),show off+(k+1)+xs.length=off+k+(xs.length+1) by omega]
  rw[h2,h3,aG]; simp
theorem pf {place:Nat->Option (Nat×Nat)} {cells:Array Value} {i off size:Nat} {a:Array Value} {rest:List (Nat×Value)} (hp:place i=some (off,size)) (ha:a.size=size) (hf:off+size<=cells.size):
  Instr.fill place cells ((i, .agg a)::rest)=Instr.fill place (splice cells.toList off a.toList).toArray rest:=by
 subst ha;have hc:(Value.agg a).cells=a:=rfl;rw[Instr.fill,hp];simp only[hc];rw[if_neg (by simp; omega)]
 congr 1
 apply Array.ext'
 have h:=Cs off a.toList 0 cells (by simpa using hf);have e:(a.zipIdx.foldl (fun cs (p:Value×Nat)=>cs.setIfInBounds (off+p.2) p.1) cells)=((a.toList.zipIdx 0).foldl (fun cs (p:Value×Nat)=>cs.setIfInBounds (off+p.2) p.1) cells):=by
  rw[<-Array.foldl_toList,Array.toList_zipIdx]
 show(a.zipIdx.foldl (fun cs (p:Value×Nat)=>cs.setIfInBounds (off+p.2) p.1) cells).toList=_
 rw[e,h];simp[splice]
end Go.Proofs.YtpffpjbkbaleiaaGreatDoor
namespace Go.Proofs.YtpffpjbkbaleiaaGreatDoor
open Go
theorem Gy {P:Program} {ops:Array Oper} {Q:Exit->Act->World->Prop} {S:World->Prop} {dst:Option Tmp} {op:Op} {ty:TypeId} {pos:String} {aft:Array Edge} {g:Option (Nat×Bool)} {fuel:Nat} {listed:Array Bool} {a:Act} {w:World} (i:Nat) (hi:ops[i]? =some ⟨dst,op,ty,pos,aft,g⟩)
  (hw:Region.wanted ⟨dst,op,ty,pos,aft,g⟩ (yielded ops a.tmps)=true)
  (h: ∀K:Act->World->Prop,(∀a w,S w/\qk P ops Q S fuel (listed.setIfInBounds i true) a w->K a w)->wpList P #[] (Exit.then K Q) [⟨dst,op,ty,pos, #[],none⟩] a w):
  wpOp P ops Q i (fun a' w'=>S w'/\wpAnyH P .any ops Q S fuel (listed.setIfInBounds i true) a' w') a w:=by
 have hb:xW P ops (fun a' w'=>S w'/\wpAnyH P .any ops Q S fuel (listed.setIfInBounds i true) a' w') Q [⟨dst,op,ty,pos,aft,g⟩] a w:=
  ei hw (fun K hK=>h K (fun a w hh=>hK a w ⟨hh.1,hh.2.out⟩))
 unfold wpOp;simp only[hi];exact xW.out hb
open Go Go.RowKit
theorem vt {ops:Array Oper} {rest:List Oper} {o:Oper} {a:Act} {Q:Exit->Act->World->Prop} {w:World} (hgd:o.guard=none) (d s:Operand)
  (ho:o.op= .call {callee:= .builtin .copy,args:= #[d,s],argTypes:= #[29,9]}) (g off dLen dCap:Nat) (k:ByteArray) (hd:a.eval d= .slice (some ⟨g,off,none⟩) dLen dCap) (hs:a.eval s= .string k)
  (cur:List Value) (t:TypeId) (hg:w.heap[g]? =some (.cells cur.toArray t (0,0))) (hle:k.size<=dLen) (hfit:off+k.size<=cur.length)
  (h:wpList Tryz.prog ops Q rest (a.put o.dst (.int .i64 (k.size:Int))) (w.setRow g (splice cur off ((bl k).map aY)).toArray)):wpList Tryz.prog ops Q (o::rest) a w:=by
 refine gm hgd fun K hK=> ?_
 have ha:=Lib.run_copy_row_string (P:=Tryz.prog) w 29 9 o.type 5 g off dLen dCap k cur.toArray t dh (by kernel_rfl) hg hle (by simpa using hfit);unfold Oper.wp;simp[execOp,ho,resolve,invoke,builtin,hd,hs,ha,Result.andThen];refine hK _ _ ?_;have e:splice cur off ((bl k).map aY)=cur.take off++(Lib.byteCells k.data.toList++cur.drop (off+k.size)):=by
  unfold splice;rw[aE,<-bi]; rfl
 rw[e]at h
 simpa [goInt]using h
theorem FC {α:Type} (n:Nat) (x:α) (ys:List α):splice (List.replicate n x) 0 ys=ys++List.replicate (n-ys.length) x:=by
 unfold splice;rw[aZ,aL,List.drop_replicate,bX]
theorem EO {k:List UInt8} (h:k.length<=64):iP k=k++List.replicate (64-k.length) 0:=by unfold iP; rw[if_neg (by omega)]
theorem oI.below {w0 w w':World} (h:oI w) (hb:Below w0.heap.size w w') (hlt:2<w0.heap.size):oI w':=by
 intro j x hj;rw[<-h j x hj];exact cA (hb.block _ hlt)
theorem mr {w:World} {sb:Nat} {cs:List Value} {ty:TypeId} (h:w.heap[sb]? =some (.cells cs.toArray ty (0,0))):w.rangeAt sb 0 cs:=by
 intro j x hj;rw[bu w _ _ _ _ _ h,bX,ak];exact hj
theorem iH {ops:Array Oper} {rest:List Oper} {o:Oper} {a:Act} {w:World} {Q:Exit->Act->World->Prop} (hg:o.guard=none) (t:TypeId) (parts:Array (Nat×Operand)) (ho:o.op= .build t parts) (vs:List (Nat×Value))
  (hv:(parts.map fun(i,x)=>(i,a.eval x)).toList=vs) (c:Array Value) (hb:Tryz.prog.built t vs=some c) (h:wpList Tryz.prog ops Q rest (a.put o.dst (.agg c)) w):wpList Tryz.prog ops Q (o::rest) a w:=by
 subst hv;exact wpList_build hg t parts ho (by rw[hb]; rfl) (by rw[hb]; exact h)
def Pn :List Value:=List.replicate 8 (.int .u32 0)++(List.replicate 64 (.int .u8 0)++([.int .i64 0]++List.replicate 64 (.int .u8 0)))
theorem pA :Pn.length=137:=by kernel_rfl
theorem Bq {α:Type} {z a b:List α} (h:z.length=a.length+b.length):splice (splice z 0 a) a.length b=a++b:=by
 unfold splice;rw[aZ,aL,bX,List.take_left,iV,dM (by omega),aL,fI,dM (by omega),cj]
theorem uB (a b:List Value) (ha:a.length=73) (hb:b.length=64):Tryz.prog.built 223 [(0, .agg a.toArray),(1, .agg b.toArray)]=some (a++b).toArray:=by
 have h: ∀parts,Tryz.prog.built 223 parts=Instr.fill (fun i=>(#[(0,73),(73,64)]:Array (Nat×Nat))[i]?) Pn.toArray parts:=fun parts=>by kernel_rfl
 rw[h,pf (off:=0) (size:=73) rfl (by simpa using ha) (by rw[bU,pA]; decide),pf (off:=73) (size:=64) rfl (by simpa using hb) (by rw[bU,length_splice _ _ _ (by simp[pA,ha]),List.toList_toArray,pA]; decide)];simp only[Instr.fill];rw[<-ha,Bq (by rw[pA,ha,hb])]
theorem yQ (c:List Value) (hc:c.length=137):Tryz.prog.built 225 [(0, .agg c.toArray)]=some c.toArray:=by
 have h: ∀parts,Tryz.prog.built 225 parts=Instr.fill (fun i=>(#[(0,137)]:Array (Nat×Nat))[i]?) Pn.toArray parts:=fun parts=>by kernel_rfl
 rw[h,pf (off:=0) (size:=137) rfl (by simpa using hc) (by rw[bU,pA]; decide)];simp only[Instr.fill];unfold splice;rw[aZ,aL,bX,hc,dM (by rw[pA]; decide),cj]
def uw (w:World) (mb:Nat) (key data:List UInt8):Prop:=om w mb 225 ((gt (iP key) 92).map aY) (gt (iP key) 54++data)
theorem CA (key:ByteArray) (w:World) (hk:key.size<=64) (hI:oI w) (hK:lY w) (hP:KE w) (hKlt:5<w.heap.size) (hplt:0<w.heap.size) (hilt:2<w.heap.size):
  Calls Tryz.prog 146 #[.string key] w fun e w'=> ∃mb,e= .returned (.pointer (some ⟨mb,0,none⟩))/\w.heap.size<=mb/\uw w' mb (bl key) []/\Below w.heap.size w w':=by
 have HK:=an hK;have HI:=an hI;have HP:=an hP;clear hK hI hP
 go_enter Tryz.func146,Tryz.ntmps146
 go_upto_region 4 with(fail)
 change Code.wp _ _ _ _ (w.alloc (.cells (List.replicate 64 (Value.int .u8 0)).toArray 213))
 obtain⟨W1,hL⟩: ∃W1,W1=w.alloc (.cells (List.replicate 64 (Value.int .u8 0)).toArray 213):=⟨_,rfl⟩;rw[<-hL];have Hm:=an (show W1.heap[w.heap.size]? =some (.cells (List.replicate 64 (Value.int .u8 0)).toArray 213 (0,0)) by rw[hL]; exact aH w _);have Hq:=an (show Below w.heap.size w W1 by rw[hL]; exact eN);have Hi:W1.heap.size=w.heap.size+1:=by rw[hL]; simp
 clear hL;have Hr:=an (show 0+key.size<=(List.replicate 64 (Value.int .u8 0)).length by simp; omega)
 go_upto_region 5 with(refine vt rfl _ _ rfl w.heap.size 0 64 64 key rfl rfl _ _ Hm.o hk Hr.o ?_)
 obtain⟨W2,hM⟩: ∃W2,W2=W1.setRow w.heap.size (splice (List.replicate 64 (Value.int .u8 0)) 0 ((bl key).map aY)).toArray:=⟨_,rfl⟩;rw[<-hM];have Hu:=an (show W2.heap[w.heap.size]? =some (.cells ((iP (bl key)).map aY).toArray 213 (0,0)) by
  rw[hM,dW W1 _ _ _ _ _ Hm.o,EO (by rw[<-bi]; exact hk)];rw[FC,aE,aO,List.map_replicate]; rfl)
 have Hj:=an (show Below w.heap.size w W2 by rw[hM]; exact er Hq.o (au _) _);have Hp:w.heap.size+1=W2.heap.size:=by rw[hM,size_setRow,Hi]
 clear hM Hi;have Hs:=an (show W2.cell? ⟨0,1,none⟩=some (.int .u8 92)from(Hj.o.cell (p:=⟨0,1,none⟩) hplt).trans HP.o.2);go_wp2_with fail;refine eH (fun w'=>w'.cell? ⟨0,1,none⟩=some (.int .u8 92)) (by kernel_rfl) ?_;have hS:=Hs.o;obtain⟨V,hV⟩: ∃V:World,V=W2.drew:=⟨_,rfl⟩;rw[<-hV];have h1:=an (show Below w.heap.size w V by rw[hV]; exact Hj.o.trans ((ay _ _).drew))
 have Hv:=an (show V.heap[w.heap.size]? =some (.cells ((iP (bl key)).map aY).toArray 213 (0,0)) by rw[hV]; exact Hu.o);have hJ:V.cell? ⟨0,1,none⟩=some (.int .u8 92):=by rw[hV]; exact hS
 have Hw:w.heap.size+1=V.heap.size:=by rw[hV]; exact Hp
 clear hV hS Hp;refine bJ 3 rfl (by kernel_rfl) (by kernel_rfl) (by kernel_rfl) (fun _ _ _ h=>h) rfl hJ (by intro w' Hh; go_simp; rfl) ?_;simp only[Act.put,ag,ai,ah];refine bJ 4 rfl (by kernel_rfl) (by kernel_rfl) (by kernel_rfl) (fun _ _ _ h=>h) rfl hJ (by intro w' Hh; go_simp; rfl) ?_;simp only[Act.put,ag,ai,ah]
 refine bJ 5 rfl (by kernel_rfl) (by kernel_rfl) (by kernel_rfl) (fun _ _ _ h=>h) rfl hJ (by intro w' Hh; go_simp; rfl) ?_;simp only[Act.put,ag,ai,ah];refine cy 0 rfl (fun K hK=> ?_);go_wp2_with fail;refine(xD V (HI.o.below h1.o hilt)).mono ?_;rintro e w1 ⟨rfl,Ho,hN,Hi⟩;have Ht:=an Ho;have hE:=an hN
 have hd:=an (aw h1.o hN);have hH:w1.cell? ⟨0,1,none⟩=some (.int .u8 92):=(hN.cell (p:=⟨0,1,none⟩) (by have:=h1.o.size; show 0<_; omega)).trans hJ;have ho:=an ((hN.block w.heap.size (by omega)).trans Hv.o);clear Ho hN hJ;go_wp2_with fail;refine⟨hH, ?_⟩;refine bJ 1 rfl (by kernel_rfl) (by kernel_rfl) (by kernel_rfl) (fun _ _ _ h=>h) rfl hH (by intro w' Hh; go_simp; rfl) ?_
 simp only[Act.put,ag,ai,ah];obtain⟨sbf,hB,Hf,hC⟩:=Ht.o;rw[cj]at hC;have h2:=an hC;have hX:=mA (jQ [] (([]:List UInt8).length/64)) hB ([]:List UInt8).length;have Hk:=an hB;obtain⟨sc,Hg⟩: ∃sc,sc=dC (jQ [] (([]:List UInt8).length/64)) sbf ([]:List UInt8).length:=⟨_,rfl⟩
 rw[<-Hg]at h2 hX;have Hl:=an Hg;have hW:=an hX;have hF:=an (show(Tryz.prog.info? 218).map (·.size)=some sc.length by rw[hX]; kernel_rfl);clear hB Hf hC hX Hg;refine qk.of (wpAnyH_all (rs:=[2,6]) (by kernel_rfl) (by simp) fun jj Hn=> ?_);simp only[bh,dt,or_false]at Hn
 rcases Hn with rfl | rfl
 ·refine Gy 2 rfl rfl (fun K hK=> ?_);have Ha:=an (mr h2.o);go_wp2_with (refine dO rfl 218 _ rfl V.heap.size 0 rfl sc _ Ha.o Tryz.underlying218 rfl hF.o ?_);refine⟨hH, ?_⟩;refine cy 6 rfl (fun K hK=> ?_);go_wp2_with fail;refine(ns w.heap.size (iP (bl key)) 92 w1 ho.o (jn _)).mono ?_;rintro e w2 ⟨rfl,hm⟩;have hv:=an hm;have hw:=an (aw hd.o hm)
  have he:w2.cell? ⟨0,1,none⟩=some (.int .u8 92):=(hm.cell (p:=⟨0,1,none⟩) (by have:=hd.o.size; show 0<_; omega)).trans hH;clear hm;go_wp2_with fail;refine⟨he, ?_⟩;obtain⟨oc,hr⟩: ∃oc,oc=(gt (iP (bl key)) 92).map aY:=⟨_,rfl⟩;have hc:oc.length=64:=by rw[hr]; unfold gt; rw[aE,aE,jn]
  rw[<-hr];have h9:=an hr;obtain⟨mc,hq⟩: ∃mc,mc=sc++oc:=⟨_,rfl⟩;have hA:=uB sc oc hW.o hc;rw[<-hq]at hA;have hb:mc.length=137:=by rw[hq,ar,hW.o,hc]
  have hQ:=yQ mc hb;have h7:=an hq;clear hr hq hc hb;refine cy 7 rfl (fun K hK=> ?_);go_wp2_with (refine iH rfl 223 _ rfl [(0, .agg sc.toArray),(1, .agg oc.toArray)] (by kernel_rfl) mc.toArray hA ?_);refine⟨he, ?_⟩;simp only[Act.put,ag,ai,ah];refine cy 8 rfl (fun K hK=> ?_);go_wp2_with (refine iH rfl 225 _ rfl [(0, .agg mc.toArray)] (by kernel_rfl) mc.toArray hQ ?_)
  refine⟨he, ?_⟩;simp only[Act.put,ag,ai,ah];clear hA hQ;refine cy 9 rfl (fun K hK=> ?_);go_wp2_with fail;obtain⟨w3,hs⟩: ∃w3,w3=w2.alloc (.cells mc.toArray 225):=⟨_,rfl⟩;rw[<-hs];have h3:=an (show w3.heap[w2.heap.size]? =some (.cells mc.toArray 225 (0,0)) by rw[hs]; exact aH _ _);have hp:Below w2.heap.size w2 w3:=by rw[hs]; exact eN
  have hD:=an (aw hw.o hp);have hy:w3.cell? ⟨0,1,none⟩=some (.int .u8 92):=(hp.cell (p:=⟨0,1,none⟩) (by have:=hw.o.size; show 0<_; omega)).trans he;have Hc:=an (((hp.block w.heap.size (by have:=hw.o.size; have:=hd.o.size; have:=hv.o.size; omega)).trans (dV hv.o ho.o)));clear hs hp he;refine⟨hy, ?_⟩;refine cy 10 rfl (fun K hK=> ?_);go_wp2_with fail
  refine⟨hy, ?_⟩;refine cH (by kernel_rfl) ?_;clear hy;have Hd:w3.cell? ⟨0,0,none⟩=some (.int .u8 54):=(hD.o.cell (p:=⟨0,0,none⟩) hplt).trans HP.o.1;go_wp2_with fail;refine(ns w.heap.size (iP (bl key)) 54 w3 Hc.o (jn _)).mono ?_;rintro e w4 ⟨rfl,hz⟩;have hZ:=an (aw hD.o hz);have hG:=an (dV hz h3.o);have ha:(gt (iP (bl key)) 54).length=64:=by unfold gt; rw[aE,jn]
  have hx:=an (show(Tryz.prog.info? 213).map (·.size)=some ((gt (iP (bl key)) 54).map aY).toArray.size by rw[bU,aE,ha]; kernel_rfl);have hY:=an (dU (fo (gt (iP (bl key)) 54)));have hg:=an (show(List.replicate 64 (Value.int .u8 0)).toArray.size=((gt (iP (bl key)) 54).map aY).toArray.size by rw[bU,bU,aE,ha]; simp)
  have hf:=an (show(w4.alloc (.cells (List.replicate 64 (Value.int .u8 0)).toArray 213)).heap[w4.heap.size]? =some (.cells (List.replicate 64 (Value.int .u8 0)).toArray 213 (0,0))from aH w4 _);clear hz Hd;go_wp2_with (refine du rfl 213 _ _ rfl w4.heap.size _ rfl rfl _ _ hf.o hx.o hg.o hY.o ?_);simp only[Act.put];refine bP [some 5,none] (by kernel_rfl) (by kernel_rfl) (by kernel_rfl) ?_
  simp only[dQ,aV,aZ,bB,bT];obtain⟨w5,hu⟩: ∃w5:World,w5=((w4.alloc (.cells (List.replicate 64 (Value.int .u8 0)).toArray 213)).setRow w4.heap.size ((gt (iP (bl key)) 54).map aY).toArray).drew:=⟨_,rfl⟩;have h8:=an (show w5.heap[w4.heap.size]? =some (.cells ((gt (iP (bl key)) 54).map aY).toArray 213 (0,0)) by rw[hu]; exact dW _ _ _ _ _ _ hf.o)
  have hO:Below w4.heap.size w4 w5:=by rw[hu]; exact(er (eN) (au _) _).drew
  have h4:=an (dV hO hG.o);have hn:=an (aw hZ.o hO);have hh:w4.heap.size≠w2.heap.size:=by have:=az hG.o; omega
  change Bx _ _ _ _ _ _
  repeat (first | (refine cB rfl ?_; simp only[Act.put,ag,ai,ah]) | (refine cR rfl (fun K hK=> ?_); go_simp; refine hK _ ?_; clear hK K))
  refine cQ ?_;refine ei rfl (fun K hK=> ?_);go_wp2_with fail
  change Calls _ _ _ (((w4.alloc (.cells (List.replicate 64 (Value.int .u8 0)).toArray 213)).setRow w4.heap.size ((gt (iP (bl key)) 54).map aY).toArray).drew) _
  rw[<-hu];clear hu;have hR:bG (· ≠w2.heap.size) w5 (.slice (some ⟨w4.heap.size,0,none⟩) 64 64) (gt (iP (bl key)) 54):=⟨by simp,_,_,by rw[ha],by omega,by unfold maxLen; omega, .inr ⟨_,_,rfl,hh,fun j x hj=>by rw[bu w5 _ _ _ _ _ h8.o,bX,ak]; exact hj⟩⟩;have hl:om w5 w2.heap.size 225 oc []:=⟨sbf,Hk.o,by simp,by rw[<-Hl.o,<-h7.o]; exact h4.o⟩
  have He:w.heap.size+1<=w2.heap.size:=by have:=hv.o.size; have:=hE.o.size; omega
  refine(lL w2.heap.size 225 oc [] (gt (iP (bl key)) 54) _ w5 hl hR (by rw[ha]; decide) (HK.o.below hn.o hKlt) (by have:=hn.o.size; omega) (by omega)).mono ?_;rintro e w6 ⟨rfl,hU,hT⟩;have Hb:=an hU;have h0:=an (hn.o.grown hT hn.o.size (fun k hk=>by cases hk; omega));clear hU hT hR hl;go_wp2_with fail;go_ret;refine⟨_,rfl,by omega, ?_,h0.o⟩;unfold uw
  rw[<-h9.o,cj];exact Hb.o
 ·refine Gy 6 rfl rfl (fun K hK=> ?_);go_wp2_with fail;refine(ns w.heap.size (iP (bl key)) 92 w1 ho.o (jn _)).mono ?_;rintro e w2 ⟨rfl,hm⟩;have hv:=an hm;have hw:=an (aw hd.o hm);have he:w2.cell? ⟨0,1,none⟩=some (.int .u8 92):=(hm.cell (p:=⟨0,1,none⟩) (by have:=hd.o.size; show 0<_; omega)).trans hH;have Ha:=an (mr (dV hm h2.o))
  clear hm;go_wp2_with fail;refine⟨he, ?_⟩;refine cy 2 rfl (fun K hK=> ?_);go_wp2_with (refine dO rfl 218 _ rfl V.heap.size 0 rfl sc _ Ha.o Tryz.underlying218 rfl hF.o ?_);refine⟨he, ?_⟩;obtain⟨oc,hr⟩: ∃oc,oc=(gt (iP (bl key)) 92).map aY:=⟨_,rfl⟩;have hc:oc.length=64:=by rw[hr]; unfold gt; rw[aE,aE,jn]
  rw[<-hr];have h9:=an hr;obtain⟨mc,hq⟩: ∃mc,mc=sc++oc:=⟨_,rfl⟩;have hA:=uB sc oc hW.o hc;rw[<-hq]at hA;have hb:mc.length=137:=by rw[hq,ar,hW.o,hc]
  have hQ:=yQ mc hb;have h7:=an hq;clear hr hq hc hb;refine cy 7 rfl (fun K hK=> ?_);go_wp2_with (refine iH rfl 223 _ rfl [(0, .agg sc.toArray),(1, .agg oc.toArray)] (by kernel_rfl) mc.toArray hA ?_);refine⟨he, ?_⟩;simp only[Act.put,ag,ai,ah];refine cy 8 rfl (fun K hK=> ?_);go_wp2_with (refine iH rfl 225 _ rfl [(0, .agg mc.toArray)] (by kernel_rfl) mc.toArray hQ ?_)
  refine⟨he, ?_⟩;simp only[Act.put,ag,ai,ah];clear hA hQ;refine cy 9 rfl (fun K hK=> ?_);go_wp2_with fail;obtain⟨w3,hs⟩: ∃w3,w3=w2.alloc (.cells mc.toArray 225):=⟨_,rfl⟩;rw[<-hs];have h3:=an (show w3.heap[w2.heap.size]? =some (.cells mc.toArray 225 (0,0)) by rw[hs]; exact aH _ _);have hp:Below w2.heap.size w2 w3:=by rw[hs]; exact eN
  have hD:=an (aw hw.o hp);have hy:w3.cell? ⟨0,1,none⟩=some (.int .u8 92):=(hp.cell (p:=⟨0,1,none⟩) (by have:=hw.o.size; show 0<_; omega)).trans he;have Hc:=an (((hp.block w.heap.size (by have:=hw.o.size; have:=hd.o.size; have:=hv.o.size; omega)).trans (dV hv.o ho.o)));clear hs hp he;refine⟨hy, ?_⟩;refine cy 10 rfl (fun K hK=> ?_);go_wp2_with fail
  refine⟨hy, ?_⟩;refine cH (by kernel_rfl) ?_;clear hy;have Hd:w3.cell? ⟨0,0,none⟩=some (.int .u8 54):=(hD.o.cell (p:=⟨0,0,none⟩) hplt).trans HP.o.1;go_wp2_with fail;refine(ns w.heap.size (iP (bl key)) 54 w3 Hc.o (jn _)).mono ?_;rintro e w4 ⟨rfl,hz⟩;have hZ:=an (aw hD.o hz);have hG:=an (dV hz h3.o);have ha:(gt (iP (bl key)) 54).length=64:=by unfold gt; rw[aE,jn]
  have hx:=an (show(Tryz.prog.info? 213).map (·.size)=some ((gt (iP (bl key)) 54).map aY).toArray.size by rw[bU,aE,ha]; kernel_rfl);have hY:=an (dU (fo (gt (iP (bl key)) 54)));have hg:=an (show(List.replicate 64 (Value.int .u8 0)).toArray.size=((gt (iP (bl key)) 54).map aY).toArray.size by rw[bU,bU,aE,ha]; simp)
  have hf:=an (show(w4.alloc (.cells (List.replicate 64 (Value.int .u8 0)).toArray 213)).heap[w4.heap.size]? =some (.cells (List.replicate 64 (Value.int .u8 0)).toArray 213 (0,0))from aH w4 _);clear hz Hd;go_wp2_with (refine du rfl 213 _ _ rfl w4.heap.size _ rfl rfl _ _ hf.o hx.o hg.o hY.o ?_);simp only[Act.put];refine bP [some 5,none] (by kernel_rfl) (by kernel_rfl) (by kernel_rfl) ?_
  simp only[dQ,aV,aZ,bB,bT];obtain⟨w5,hu⟩: ∃w5:World,w5=((w4.alloc (.cells (List.replicate 64 (Value.int .u8 0)).toArray 213)).setRow w4.heap.size ((gt (iP (bl key)) 54).map aY).toArray).drew:=⟨_,rfl⟩;have h8:=an (show w5.heap[w4.heap.size]? =some (.cells ((gt (iP (bl key)) 54).map aY).toArray 213 (0,0)) by rw[hu]; exact dW _ _ _ _ _ _ hf.o)
  have hO:Below w4.heap.size w4 w5:=by rw[hu]; exact(er (eN) (au _) _).drew
  have h4:=an (dV hO hG.o);have hn:=an (aw hZ.o hO);have hh:w4.heap.size≠w2.heap.size:=by have:=az hG.o; omega
  change Bx _ _ _ _ _ _
  repeat (first | (refine cB rfl ?_; simp only[Act.put,ag,ai,ah]) | (refine cR rfl (fun K hK=> ?_); go_simp; refine hK _ ?_; clear hK K))
  refine cQ ?_;refine ei rfl (fun K hK=> ?_);go_wp2_with fail
  change Calls _ _ _ (((w4.alloc (.cells (List.replicate 64 (Value.int .u8 0)).toArray 213)).setRow w4.heap.size ((gt (iP (bl key)) 54).map aY).toArray).drew) _
  rw[<-hu];clear hu;have hR:bG (· ≠w2.heap.size) w5 (.slice (some ⟨w4.heap.size,0,none⟩) 64 64) (gt (iP (bl key)) 54):=⟨by simp,_,_,by rw[ha],by omega,by unfold maxLen; omega, .inr ⟨_,_,rfl,hh,fun j x hj=>by rw[bu w5 _ _ _ _ _ h8.o,bX,ak]; exact hj⟩⟩;have hl:om w5 w2.heap.size 225 oc []:=⟨sbf,Hk.o,by simp,by rw[<-Hl.o,<-h7.o]; exact h4.o⟩
  have He:w.heap.size+1<=w2.heap.size:=by have:=hv.o.size; have:=hE.o.size; omega
  refine(lL w2.heap.size 225 oc [] (gt (iP (bl key)) 54) _ w5 hl hR (by rw[ha]; decide) (HK.o.below hn.o hKlt) (by have:=hn.o.size; omega) (by omega)).mono ?_;rintro e w6 ⟨rfl,hU,hT⟩;have Hb:=an hU;have h0:=an (hn.o.grown hT hn.o.size (fun k hk=>by cases hk; omega));clear hU hT hR hl;go_wp2_with fail;go_ret;refine⟨_,rfl,by omega, ?_,h0.o⟩;unfold uw
  rw[<-h9.o,cj];exact Hb.o
theorem ka {x a b:Nat} {s:Nat} (ha:2^s=a) (hb:2^(32-s)=b) (hx:x<4294967296):bits .or .u32 ((x:Int)/(b:Int)) ((x:Int)*(a:Int)%4294967296)=((gy x s:Nat):Int):=by
 rw[show((x:Int)*(a:Int)%4294967296)=((x*a%4294967296:Nat):Int) by simp,show((x:Int)/(b:Int))=((x/b:Nat):Int) by simp,
  u32_or_nat _ _ (dD (eP _ _) hx) (cV _ (by decide)),Nat.or_comm]
 unfold gy; rw[ha,hb]
theorem Fw (x:Nat) (w:World) (hx:x<4294967296):Calls Tryz.prog 218 #[.int .u32 (x:Int), .int .i64 17] w fun e w'=>e= .returned (.int .u32 ((gy x 15:Nat):Int))/\ ∃m,w'=w.drewN m:=by
 have hw:IntKind.i64.wrap 15=15:=by decide
 go_enter gh,fF
 go_wp2_with fail
 go_quiet (fail)
 go_wp2_with fail;go_ret;refine⟨?_,_,rfl⟩;rw[<-ka (a:=32768) (b:=131072) (by decide) (by decide) hx]
 rfl
theorem Fu (x:Nat) (w:World) (hx:x<4294967296):Calls Tryz.prog 218 #[.int .u32 (x:Int), .int .i64 19] w fun e w'=>e= .returned (.int .u32 ((gy x 13:Nat):Int))/\ ∃m,w'=w.drewN m:=by
 have hw:IntKind.i64.wrap 13=13:=by decide
 go_enter gh,fF
 go_wp2_with fail
 go_quiet (fail)
 go_wp2_with fail;go_ret;refine⟨?_,_,rfl⟩;rw[<-ka (a:=8192) (b:=524288) (by decide) (by decide) hx]
 rfl
theorem Fz (x:Nat) (w:World) (hx:x<4294967296):Calls Tryz.prog 218 #[.int .u32 (x:Int), .int .i64 7] w fun e w'=>e= .returned (.int .u32 ((gy x 25:Nat):Int))/\ ∃m,w'=w.drewN m:=by
 have hw:IntKind.i64.wrap 25=25:=by decide
 go_enter gh,fF
 go_wp2_with fail
 go_quiet (fail)
 go_wp2_with fail;go_ret;refine⟨?_,_,rfl⟩;rw[<-ka (a:=33554432) (b:=128) (by decide) (by decide) hx]
 rfl
theorem Fv (x:Nat) (w:World) (hx:x<4294967296):Calls Tryz.prog 218 #[.int .u32 (x:Int), .int .i64 18] w fun e w'=>e= .returned (.int .u32 ((gy x 14:Nat):Int))/\ ∃m,w'=w.drewN m:=by
 have hw:IntKind.i64.wrap 14=14:=by decide
 go_enter gh,fF
 go_wp2_with fail
 go_quiet (fail)
 go_wp2_with fail;go_ret;refine⟨?_,_,rfl⟩;rw[<-ka (a:=16384) (b:=262144) (by decide) (by decide) hx]
 rfl
theorem FA (x:Nat) (w:World) (hx:x<4294967296):Calls Tryz.prog 218 #[.int .u32 (x:Int), .int .i64 6] w fun e w'=>e= .returned (.int .u32 ((gy x 26:Nat):Int))/\ ∃m,w'=w.drewN m:=by
 have hw:IntKind.i64.wrap 26=26:=by decide
 go_enter gh,fF
 go_wp2_with fail
 go_quiet (fail)
 go_wp2_with fail;go_ret;refine⟨?_,_,rfl⟩;rw[<-ka (a:=67108864) (b:=64) (by decide) (by decide) hx]
 rfl
theorem Fy (x:Nat) (w:World) (hx:x<4294967296):Calls Tryz.prog 218 #[.int .u32 (x:Int), .int .i64 11] w fun e w'=>e= .returned (.int .u32 ((gy x 21:Nat):Int))/\ ∃m,w'=w.drewN m:=by
 have hw:IntKind.i64.wrap 21=21:=by decide
 go_enter gh,fF
 go_wp2_with fail
 go_quiet (fail)
 go_wp2_with fail;go_ret;refine⟨?_,_,rfl⟩;rw[<-ka (a:=2097152) (b:=2048) (by decide) (by decide) hx]
 rfl
theorem JW (x:Nat) (w:World) (hx:x<4294967296):Calls Tryz.prog 218 #[.int .u32 (x:Int), .int .i64 25] w fun e w'=>e= .returned (.int .u32 ((gy x 7:Nat):Int))/\ ∃m,w'=w.drewN m:=by
 have hw:IntKind.i64.wrap 7=7:=by decide
 go_enter gh,fF
 go_wp2_with fail
 go_quiet (fail)
 go_wp2_with fail;go_ret;refine⟨?_,_,rfl⟩;rw[<-ka (a:=128) (b:=33554432) (by decide) (by decide) hx]
 rfl
theorem FB (x:Nat) (w:World) (hx:x<4294967296):Calls Tryz.prog 218 #[.int .u32 (x:Int), .int .i64 2] w fun e w'=>e= .returned (.int .u32 ((gy x 30:Nat):Int))/\ ∃m,w'=w.drewN m:=by
 have hw:IntKind.i64.wrap 30=30:=by decide
 go_enter gh,fF
 go_wp2_with fail
 go_quiet (fail)
 go_wp2_with fail;go_ret;refine⟨?_,_,rfl⟩;rw[<-ka (a:=1073741824) (b:=4) (by decide) (by decide) hx]
 rfl
theorem Fx (x:Nat) (w:World) (hx:x<4294967296):Calls Tryz.prog 218 #[.int .u32 (x:Int), .int .i64 13] w fun e w'=>e= .returned (.int .u32 ((gy x 19:Nat):Int))/\ ∃m,w'=w.drewN m:=by
 have hw:IntKind.i64.wrap 19=19:=by decide
 go_enter gh,fF
 go_wp2_with fail
 go_quiet (fail)
 go_wp2_with fail;go_ret;refine⟨?_,_,rfl⟩;rw[<-ka (a:=524288) (b:=8192) (by decide) (by decide) hx]
 rfl
theorem Ft (x:Nat) (w:World) (hx:x<4294967296):Calls Tryz.prog 218 #[.int .u32 (x:Int), .int .i64 22] w fun e w'=>e= .returned (.int .u32 ((gy x 10:Nat):Int))/\ ∃m,w'=w.drewN m:=by
 have hw:IntKind.i64.wrap 10=10:=by decide
 go_enter gh,fF
 go_wp2_with fail
 go_quiet (fail)
 go_wp2_with fail;go_ret;refine⟨?_,_,rfl⟩;rw[<-ka (a:=1024) (b:=4194304) (by decide) (by decide) hx]
 rfl
def xz (x:Nat) (n:Int):Nat:=gy x (32-n.toNat)
theorem pw (x:Nat) (n:Int) (w:World) (hx:x<4294967296) (hn:n=7\/n=18\/n=17\/n=19\/n=6\/n=11\/n=25\/n=2\/n=13\/n=22):Calls Tryz.prog 218 #[.int .u32 (x:Int), .int .i64 n] w fun e w'=>e= .returned (.int .u32 ((xz x n:Nat):Int))/\ ∃m,w'=w.drewN m:=by
 rcases hn with rfl | rfl | rfl | rfl | rfl | rfl | rfl | rfl | rfl | rfl
 ·exact Fz x w hx
 ·exact Fv x w hx
 ·exact Fw x w hx
 ·exact Fu x w hx
 ·exact FA x w hx
 ·exact Fy x w hx
 ·exact JW x w hx
 ·exact FB x w hx
 ·exact Fx x w hx
 ·exact Ft x w hx
def nu :Array Value:=(kc.map fc).toArray
theorem LH :Tryz.prog.built 252 ((kc.map fc).zipIdx.map fun p=>(p.2,p.1))=some nu:=by kernel_rfl
theorem yd (w:World):Calls Tryz.prog 217 #[] w fun e w'=>e= .returned (.agg nu)/\Below w.heap.size w w':=by
 go_enter Tryz.func217,Tryz.ntmps217
 obtain⟨W0,ha⟩: ∃W0:World,W0=w.alloc (.cells (List.replicate 64 (fc 0)).toArray 252):=⟨_,rfl⟩;have hb:=an (show W0.heap[w.heap.size]? =some (.cells (List.replicate 64 (fc 0)).toArray 252 (0,0)) by rw[ha]; exact aH w _);have HB:=an (show Below w.heap.size w W0 by rw[ha]; exact eN)
 go_upto_region 1 with(fail)
 change Code.wp _ _ _ _ (w.alloc (.cells (List.replicate 64 (fc 0)).toArray 252))
 rw[<-ha];clear ha;go_wp2_with (first | (refine iH rfl 252 _ rfl ((kc.map fc).zipIdx.map fun p=>(p.2,p.1)) (by kernel_rfl) nu LH ?_) | (refine du rfl 252 _ _ rfl w.heap.size nu rfl rfl _ _ hb.o (by kernel_rfl) (by kernel_rfl) (by kernel_rfl) ?_));refine cN (results_cell_row rfl _ _ w.heap.size _ _ _ _ rfl (dW W0 _ _ _ _ _ hb.o) Tryz.underlying252 rfl (by kernel_rfl)) rfl ?_
 exact⟨rfl,er HB.o (au _) _⟩
end Go.Proofs.YtpffpjbkbaleiaaGreatDoor
