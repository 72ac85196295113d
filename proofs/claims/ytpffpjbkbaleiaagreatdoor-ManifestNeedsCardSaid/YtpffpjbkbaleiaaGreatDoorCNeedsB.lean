/- Texts of this proof, one after the other: Libc, PathA, PathB, ItemA, ItemB, ItemC, ItemD, Last, ItemE, ShaC, ShaD, ShaE, ShaF, HmacA, Built, Opr, HmacB, HmacC. -/
import Derived.Test.YtpffpjbkbaleiaaGreatDoorCNeedsA
set_option maxRecDepth 100000
set_option maxHeartbeats 8000000
namespace Go.Proofs.YtpffpjbkbaleiaaGreatDoor
open Go.RowKit
theorem lK (s:ByteArray) (c:UInt8) (w:World):
  Calls Tryz.prog 134 #[.string s, .string ⟨#[c]⟩] w fun e w'=>e= .returned (.bool ((bl s).contains c))/\w=w':=
 (Tryz.strings_Contains_one s c w).mono fun _ _ ⟨he,hw⟩=>⟨by rw[he]; exact congrArg _ (congrArg _ (eU (bl s) c)),hw.symm⟩
theorem nN (s:ByteArray) (w:World) (he:fE w) (hs:s.size<=9223372036854775807):
  Calls Tryz.prog 181 #[.string s] w fun e w'=>e= .returned (.bool (Lib.validD (bl s)))/\Below w.heap.size w w':=Tryz.utf8_ValidString s w hs he.tabs
theorem jL (x y:Int) (w:World):
  Calls Tryz.prog 151 #[.int .i64 x, .int .i64 y] w fun e w'=>e= .returned (.int .i64 (Lib.compareInt x y))/\w=w':=
 (Tryz.cmp_Compare_int x y w).mono fun _ _ ⟨he,hw⟩=>⟨he,hw.symm⟩
def zp (c:UInt8) (s:ByteArray) (w:World) (e:Ending) (w':World):Prop:=
 ∃xs:List ByteArray,xs.map bl=aU c (bl s)/\e= .returned (.slice (some ⟨w.heap.size,0,none⟩) xs.length xs.length)/\w'=w.alloc (.cells (xs.map Value.string).toArray 9)
theorem Bh (s:ByteArray) (c:UInt8) (w:World) (he:fE w) (hs:s.size<4294967281):
  Calls Tryz.prog 127 #[.string s, .string ⟨#[c]⟩] w (zp c s w):=by
 obtain⟨m,hm⟩:=he.maxLen;refine(Tryz.strings_Split s ⟨#[c]⟩ m w hs hm (by simp[ByteArray.size])).mono fun e w' ⟨h1,h2⟩=> ?_
 refine⟨Lib.splitB ⟨#[c]⟩ 0 (Lib.countB s ⟨#[c]⟩) s,Bf c s, ?_,h2⟩;rw[xR]; exact h1
def gp (l:List UInt8):Int:=if 47∈l then((aT l).length:Int)else -1
theorem FM (c:UInt8) (h:(c.toNat:Int)=47):c=47:=by
 apply UInt8.toNat_inj.1
 have:c.toNat=47:=by omega
 rw[this]; rfl
theorem tn (s:ByteArray):Lib.lastIndexByte s 47=gp (bl s):=by
 unfold Lib.lastIndexByte;have get: ∀j,(hj:j<(bl s).length)->s.data[j]! =(bl s)[j]:=fun j hj=>by
  have h2:j<s.data.size:=by rw[<-ay]at hj; exact hj
  rw[getElem!_pos s.data j h2];exact(Array.getElem_toList (xs:=s.data) h2).symm
 rw[ay]
 generalize hl:bl s=l at *
 rcases Lib.lastIdx_spec s 47 l.length with⟨h1,h2⟩ | ⟨i,h1,h2,h3,h4⟩
 ·rw[h1];have:47∉l:=by
   intro hm;obtain⟨j,hj,e⟩:=List.getElem_of_mem hm;refine h2 j hj ?_;rw[get j hj,e]; rfl
  simp[gp,this]
 ·have e:l=l.take i++47::l.drop (i+1):=by
   have:=FM _ h3;rw[get i h1]at this;rw[<-this]; simp
  have hq:47∉l.drop (i+1):=by
   intro hm;obtain⟨j,hj,e⟩:=List.getElem_of_mem hm;rw[List.length_drop]at hj;refine h4 (i+1+j) (by omega) (by omega) ?_;rw[get _ (by omega)];rw[List.getElem_drop]at e;rw[e]; rfl
  have hp:aT l=l.take i:=by
   have:=il (l.take i) _ hq;rw[<-e]at this; exact this
  have hm:47∈l:=by rw[e]; simp
  rw[h2,gp,if_pos hm,hp,List.length_take]
  congr 1; omega
theorem qC (s:ByteArray) (w:World) (hs:s.size<4611686018427387904):
  Calls Tryz.prog 120 #[.string s, .string ⟨#[47]⟩] w fun e w'=>e= .returned (.int .i64 (gp (bl s)))/\w=w':=
 (Tryz.strings_LastIndex_one s ⟨#[47]⟩ rfl hs w).mono fun _ _ ⟨he,hw⟩=>⟨by rw[he]; exact congrArg _ (congrArg _ (tn s)),hw.symm⟩
theorem DE {s:ByteArray} {p q:Nat} (h: ∀j,j<p->j<s.size->32<=(s.get! j).toNat) (h2: ∀j,p<=j->j<q->128<=(s.get! j).toNat): ∀j,j<q->j<s.size->32<=(s.get! j).toNat:=by
 intro j hj hs
 rcases Nat.lt_or_ge j p with h' | h'
 ·exact h j h' hs
 ·have:=h2 j h' hj; omega
theorem li (s:ByteArray) (j:Nat) (h:j<s.size):s.get! j=(bl s)[j]'(by rw[<-ay]; exact h):=by
 have e:s.get! j=s.data[j]! :=rfl;have h2:j<s.data.size:=h;rw[e,getElem!_pos s.data j h2];simp[bl]
theorem yQ {s:ByteArray} (h: ∀j,j<s.size->32<=(s.get! j).toNat):ky (bl s)=true:=by
 unfold ky;rw[List.all_eq_true];intro c hc;obtain⟨j,hj,rfl⟩:=List.getElem_of_mem hc;have hj2:j<s.size:=by rw[ay]; exact hj
 have:=h j hj2;rw[li s j hj2]at this
 simpa using this
theorem vu {s:ByteArray} {j:Nat} (hj:j<s.size) (h:(s.get! j).toNat<32):ky (bl s)=false:=by
 unfold ky;rw[List.all_eq_false];rw[li s j hj]at h;exact⟨(bl s)[j]'(by rw[<-ay]; exact hj),List.getElem_mem _,by rw[decide_eq_true_eq]; omega⟩
theorem oS (s:ByteArray) (pos:Nat) (h:pos<s.size):
  ((s.get! pos).toNat<128/\Utf8.decode s pos=((s.get! pos).toNat,1))\/(128<=(s.get! pos).toNat/\128<=(Utf8.decode s pos).1):=by
 have e:=get_at s pos h;rw[Nat.add_zero]at e
 rcases Nat.lt_or_ge (s.get! pos).toNat 128 with h1 | h1
 ·exact .inl ⟨h1,by rw[decode_ascii s pos h (by rw[<-e]; exact h1),<-e]⟩
 ·exact .inr ⟨h1,(decode_high s pos h (by rw[<-e]; exact h1)).1⟩
theorem xi (s:ByteArray) (w:World) (he:fE w) (hs:s.size<=9223372036854775807):
  Calls Tryz.prog 160 #[.string s] w fun e w'=>e= .returned (.bool (qf (bl s)))/\Below w.heap.size w w':=by
 have HE:=ab he;clear he
 go_enter Tryz.func160,Tryz.ntmps160
 go_wp2
 go_loopw [4] (fun _ wr=> ∃pos:Nat,wr=w.iter s pos/\ ∀j,j<pos->j<s.size->32<=(s.get! j).toNat) (fun _ wr=>s.size-wr.iterPos w.heap.size)
 case atStart=>exact⟨0,rfl,fun j hj=>by omega⟩
 case round=>
  obtain⟨pos,rfl,hlow⟩:=hrel;have HL:=ab hlow;clear hlow
  by_cases hp:pos<s.size
  ·have hnx: ∀ty,(Instr.next (.pointer (some ⟨w.heap.size,0,none⟩)) true ty).run Tryz.prog (w.iter s pos)=_:=fun ty=>run_next_any w s pos ty hp
   go_wp2
   ·go_ret;refine⟨an ?_,(Below.refl _ _).alloc (Nat.le_refl _) _⟩;have hlt:((Utf8.decode s pos).1:Int)<32:=by assumption
    have hd:=oS s pos hp;have hd2:(s.get! pos).toNat<32:=by
     rcases hd with⟨_,h2⟩ | ⟨_,h2⟩
     ·rw[h2]at hlt; simp only at hlt; omega
     ·omega
    simp[qf,vu hp hd2]
   ·go_roundw
    case rel=>
     refine⟨pos+(Utf8.decode s pos).2,rfl, ?_⟩;have hge:(32:Int)<=(Utf8.decode s pos).1:=by assumption
     rcases oS s pos hp with⟨h1,h2⟩ | ⟨h1,h2⟩
     ·intro j hj hjs;rw[h2]at hge hj
      rcases Nat.lt_or_ge j pos with h3 | h3
      ·exact HL.out j h3 hjs
      ·rw[show j=pos by simp at hj; omega]; simp at hge; omega
     ·exact DE HL.out (uC s pos hp h1).2
    case measure=>
     rw[World.iterPos_iter,World.iterPos_iter];have:=Lib.width_pos s pos;omega
  ·have hnx: ∀ty,(Instr.next (.pointer (some ⟨w.heap.size,0,none⟩)) true ty).run Tryz.prog (w.iter s pos)=_:=fun ty=>run_next_end w s pos ty hp
   go_wp2_with (go_at_call 181; refine(nN s _ (HE.out.below ((Below.refl _ _).alloc (Nat.le_refl _) _)) hs).mono ?_; rintro e w' ⟨rfl,hb⟩);go_ret;refine⟨an ?_,ag ((Below.refl _ _).alloc (Nat.le_refl _) _) hb⟩;simp only[qf,yQ (fun j hj=>HL.out j (by omega) hj),Bool.true_and]
theorem jD (s:ByteArray) (w:World) (he:fE w) (hs:s.size<=9223372036854775807):
  Calls Tryz.prog 128 #[.string s] w fun e w'=>e= .returned (.bool (dD (bl s)))/\Below w.heap.size w w':=by
 have HE:=ab he;clear he
 go_enter Tryz.func128,Tryz.ntmps128
 go_wp2_with (first
  | (go_at_call 134; refine(lK _ _ _).mono ?_; rintro e w' ⟨rfl,rfl⟩)
  | (go_at_call 160; refine(xi _ _ HE.out hs).mono ?_; rintro e w' ⟨rfl,hb⟩))
 all_goals (go_ret; refine⟨an ?_,by first | exact Below.refl _ _ | exact hb⟩)
 all_goals (rw[Bool.eq_iff_iff]; simp_all [dD,cO,ay])
 all_goals first | omega | (intros; omega)
def En (s:ByteArray) (w:World) (e:Ending) (w':World):Prop:=
 ∃v xs,e= .returned (.tuple #[v, .int .i64 0])/\xs.map bl=aU 47 (bl s)/\jh (w.heap.size<= ·) w' v xs/\Below w.heap.size w w'
def BM (w:World) (e:Ending) (w':World):Prop:=e= .returned (.tuple #[.slice none 0 0, .int .i64 1])/\Below w.heap.size w w'
def BN (s:ByteArray) (w:World) (e:Ending) (w':World):Prop:=(bo (bl s)=true/\En s w e w')\/(bo (bl s)=false/\BM w e w')
theorem vT {w:World} {xs:List Value} {e:TypeId} {k:Nat} {x:Value} (hx:xs[k]? =some x):(w.alloc (.cells xs.toArray e)).cell? ⟨w.heap.size,k,none⟩=some x:=by
 have h:=heap_alloc_new w (.cells xs.toArray e);simp only[World.cell?,h];simp[hx]
theorem yR {xs:List ByteArray} {k:Nat} {x:ByteArray} (hx:xs[k]? =some x):(xs.map Value.string)[k]? =some (.string x):=by simp[hx]
theorem Bg {xs:List ByteArray} {s:ByteArray} (hx:xs.map bl=aU 47 (bl s)) (h1:(bl s).length<=512) (h2:xs.length<=16) (h: ∀(j:Nat) x,j<xs.length->xs[j]? =some x->dD (bl x)=true):bo (bl s)=true:=by
 have hl:(aU 47 (bl s)).length=xs.length:=by rw[<-hx]; simp
 have ha:(aU 47 (bl s)).all dD=true:=by
  rw[<-hx,List.all_map,List.all_eq_true];intro x hm;obtain⟨j,hj,rfl⟩:=List.getElem_of_mem hm;exact h j _ hj (by simp)
 simp[bo,h1,hl,h2,ha]
theorem Bk {xs:List ByteArray} {s:ByteArray} {j:Nat} {x:ByteArray} (hx:xs.map bl=aU 47 (bl s)) (h:xs[j]? =some x) (hc:dD (bl x)=false):bo (bl s)=false:=by
 have ha:(aU 47 (bl s)).all dD=false:=by
  rw[<-hx,List.all_map,List.all_eq_false];exact⟨x,List.mem_of_getElem? h,by simp[hc]⟩
 simp[bo,ha]
theorem Bj {xs:List ByteArray} {s:ByteArray} (hx:xs.map bl=aU 47 (bl s)) (h: ¬xs.length<=16):bo (bl s)=false:=by
 have hl:(aU 47 (bl s)).length=xs.length:=by rw[<-hx]; simp
 simp[bo,hl,h]
theorem xU {s:ByteArray} (h: ¬(bl s).length<=512):bo (bl s)=false:=by simp[bo,h]
theorem tp (c:UInt8) (l:List UInt8): ∀p∈aU c l,p.length<=l.length:=by
 induction l with
 | nil=>simp[aU]
 | cons b l ih=>
  unfold aU
  split
  ·intro p hp; rcases List.mem_cons.1 hp with rfl | hp
   ·simp
   ·have:=ih p hp; simp; omega
  ·split
   ·rename_i h t e;rw[e]at ih;intro p hp; rcases List.mem_cons.1 hp with rfl | hp
    ·have:=ih h (by simp); simp; omega
    ·have:=ih p (by simp[hp]); simp; omega
   ·intro p hp; simp at hp; simp[hp]
theorem Aq {xs:List ByteArray} {s:ByteArray} {c:UInt8} {j:Nat} {x:ByteArray} (hx:xs.map bl=aU c (bl s)) (h:xs[j]? =some x):x.size<=s.size:=by
 rw[ay,ay];exact tp c (bl s) (bl x) (by rw[<-hx]; exact List.mem_map.2 ⟨x,List.mem_of_getElem? h,rfl⟩)
theorem DA {w w':World} {xs:List ByteArray} {e:TypeId} (hl:xs.length<=maxLen) (hb:Below (w.heap.size+1) (w.alloc (.cells (xs.map Value.string).toArray e)) w'):
  jh (w.heap.size<= ·) w' (.slice (some ⟨w.heap.size,0,none⟩) xs.length xs.length) xs:=by
 refine⟨by simp,some ⟨w.heap.size,0,none⟩,xs.length,rfl,Nat.le_refl _,hl, .inr ⟨w.heap.size,0,rfl,Nat.le_refl _,fun j u hu=> ?_⟩⟩;rw[hb.cell (p:=⟨w.heap.size,0+j,none⟩) (by simp),Nat.zero_add];exact vT hu
theorem kj (s:ByteArray) (w:World) (he:fE w):Calls Tryz.prog 82 #[.string s] w (BN s w):=by
 have HE:=ab he;clear he
 by_cases h5:s.size<=512
 ·go_enter Tryz.func82,Tryz.ntmps82
  go_wp2_with fail;refine(Bh s 47 w HE.out (by omega)).mono ?_;rintro e w' ⟨xs,hx,rfl,rfl⟩;have hxl:xs.length<=513:=by
   have h1:(aU 47 (bl s)).length=xs.length:=by rw[<-hx]; simp
   have h2:=qN 47 (bl s);rw[<-ay]at h2;omega
  have HX:=ab hx;clear hx
  by_cases h16:xs.length<=16
  ·go_wp2_with fail
   go_loopw [17] (fun i wr=> ∃k:Nat,k<=xs.length/\i= .int .i64 k/\Below (w.heap.size+1) (w.alloc (.cells (xs.map Value.string).toArray 9)) wr/\ ∀(j:Nat) x,j<k->xs[j]? =some x->dD (bl x)=true) (fun i _=>xs.length-(intOf i).toNat)
   case atStart=>exact⟨0,Nat.zero_le _,rfl,Below.refl _ _,fun j x hj=>by omega⟩
   case round=>
    obtain⟨k,hk,rfl,hb,hall⟩:=hrel;have HA:=ab hall;clear hall
    by_cases hlt:k<xs.length
    ·obtain⟨x,hx⟩: ∃x,xs[k]? =some x:=⟨xs[k],by simp[hlt]⟩;have hcell:wr.cell? ⟨w.heap.size,k,none⟩=some (.string x):=(hb.cell (p:=⟨w.heap.size,k,none⟩) (by simp)).trans (vT (yR hx));have hxs:x.size<=9223372036854775807:=by have:=Aq HX.out hx; omega
     have HK:=ab hx;have HB:=ab hb;clear hx hb
     cases hc:dD (bl x)
     ·have HC:=ab hc;clear hc;go_wp2_with (go_at_call 128; refine(jD x wr (HE.out.below (ag ((Below.refl _ _).alloc (Nat.le_refl _) _) (by simpa using HB.out))) hxs).mono ?_; rintro e w' ⟨rfl,hb2⟩; rw[HC.out])
      go_ret2
      refine .inr ⟨Bk HX.out HK.out HC.out,rfl, ?_⟩;exact ag (ag ((Below.refl _ _).alloc (Nat.le_refl _) _) (by simpa using HB.out)) hb2
     ·have HC:=ab hc;clear hc;go_wp2_with (go_at_call 128; refine(jD x wr (HE.out.below (ag ((Below.refl _ _).alloc (Nat.le_refl _) _) (by simpa using HB.out))) hxs).mono ?_; rintro e w' ⟨rfl,hb2⟩; rw[HC.out])
      go_roundw
      case rel=>
       refine⟨k+1,by omega,by go_num,HB.out.trans (hb2.mono (by have:=HB.out.size; simpa using this)),fun j x' hj hx'=> ?_⟩
       rcases Nat.lt_or_ge j k with h | h
       ·exact HA.out j x' h hx'
       ·obtain rfl:j=k:=by omega
        have:=HK.out.symm.trans hx'
        cases this
        exact HC.out
      case measure=>simp[intOf]; omega
    ·have HB:=ab hb;clear hb
     go_wp2
     go_ret2
     refine .inl ⟨Bg HX.out (by rw[<-ay]; exact h5) h16 (fun j x hj hx=>HA.out j x (by omega) hx),_,xs,rfl,HX.out,DA (by unfold maxLen; omega) HB.out, ?_⟩;exact ag ((Below.refl _ _).alloc (Nat.le_refl _) _) (by simpa using HB.out)
  ·go_wp2_with fail
   go_ret2
   exact .inr ⟨Bj HX.out h16,rfl,(Below.refl _ _).alloc (Nat.le_refl _) _⟩
 ·go_enter Tryz.func82,Tryz.ntmps82
  go_wp2_with fail
  go_ret2
  exact .inr ⟨xU (by rw[<-ay]; exact h5),rfl,Below.refl _ _⟩
theorem mR (s:ByteArray) (w:World) (he:fE w):
  Calls Tryz.prog 119 #[.string s] w fun e w'=>e= .returned (.bool (bo (bl s)))/\Below w.heap.size w w':=by
 go_enter Tryz.func119,Tryz.ntmps119
 go_wp2_with fail;refine(kj s w he).mono ?_;rintro e w' (⟨hv,v,xs,rfl,-,-,hb⟩ | ⟨hv,rfl,hb⟩)
 ·go_wp2
  go_ret;exact⟨an (by rw[hv]),hb⟩
 ·go_wp2
  go_ret;exact⟨an (by rw[hv]),hb⟩
def yU (c:Int):Int:=if c=47 then -1 else c
theorem Df (c:Int) (w:World) (h0:0<=c) (h1:c<=255):Calls Tryz.prog 150 #[.int .u8 c] w fun e w'=>e= .returned (.int .i64 (yU c))/\w=w':=by
 by_cases h:c=47
 ·subst h
  go_enter Tryz.func150,Tryz.ntmps150
  go_wp2
  go_ret;exact⟨rfl,rfl⟩
 ·have hr:yU c=c:=if_neg h;have HR:=ab hr;clear hr;have h2:(c == 47)=false:=by simpa using h
  go_enter Tryz.func150,Tryz.ntmps150
  go_wp2
  go_ret;exact⟨bz HR.out.symm,rfl⟩
theorem Ey (l r:List UInt8) (h:l=[]\/r=[]):cU l r=Lib.compareInt (l.length:Int) r.length:=by
 rcases h with rfl | rfl
 ·cases r
  ·simp[cU,Lib.compareInt]
  ·rw[cU,Lib.compareInt,if_pos (by simp<;> omega)]
 ·cases l
  ·simp[cU,Lib.compareInt]
  ·rw[cU,Lib.compareInt,if_neg (by simp<;> omega),if_pos (by simp<;> omega)]
theorem oP (x y:Int) (k:Int):Lib.compareInt (x-k) (y-k)=Lib.compareInt x y:=by
 unfold Lib.compareInt;have h1:(x-k<y-k)<->(x<y):=by omega
 have h2:(x-k>y-k)<->(x>y):=by omega
 simp only[h1,h2]
theorem Ex {l r:List UInt8} {k:Nat} (hk1:k<=l.length) (hk2:k<=r.length) (h:k=l.length\/k=r.length):cU (l.drop k) (r.drop k)=Lib.compareInt (l.length:Int) r.length:=by
 rw[Ey _ _ (by rcases h with rfl | rfl<;> simp)];rw[List.length_drop,List.length_drop,<-oP (l.length:Int) r.length k]
 congr 1<;> omega
theorem Cf {l r:List UInt8} {k:Nat} (hl:k<l.length) (hr:k<r.length) (h:l[k]=r[k]):cU (l.drop k) (r.drop k)=cU (l.drop (k+1)) (r.drop (k+1)):=by
 rw[List.drop_eq_getElem_cons hl,List.drop_eq_getElem_cons hr,cU,if_pos h]
theorem Ce {l r:List UInt8} {k:Nat} (hl:k<l.length) (hr:k<r.length) (h:l[k]≠r[k]):cU (l.drop k) (r.drop k)=Lib.compareInt (dS l[k]) (dS r[k]):=by
 rw[List.drop_eq_getElem_cons hl,List.drop_eq_getElem_cons hr,cU,if_neg h]
theorem fg (s:ByteArray) (k:Nat) (h:k<s.size):s[k]=(bl s)[k]'(by rw[<-ay]; exact h):=by
 exact(Array.getElem_toList (xs:=s.data) h).symm
theorem vO (c:UInt8):yU c.toNat=dS c:=by
 unfold yU dS
 by_cases h:c=47
 ·subst h; rfl
 ·rw[if_neg h,if_neg];intro e; apply h; apply UInt8.toNat_inj.1; have:c.toNat=47:=by omega
  rw[this]; rfl
theorem ux (a b:ByteArray) (w:World) (ha:a.size<=9223372036854775807):
  Calls Tryz.prog 118 #[.string a, .string b] w fun e w'=>e= .returned (.int .i64 (cU (bl a) (bl b)))/\Below w.heap.size w w':=by
 go_enter Tryz.func118,Tryz.ntmps118
 go_wp2_with fail;obtain⟨m,hm⟩: ∃m:Nat,min (a.size:Int) (b.size:Int)=m:=⟨min a.size b.size,by omega⟩;have hm1:m<=a.size:=by omega
 have hm2:m<=b.size:=by omega
 have hm3:m=a.size\/m=b.size:=by omega
 rw[hm];have HM:=ab hm3;clear hm hm3
 go_loopw [12] (fun i wr=> ∃k:Nat,k<=m/\i= .int .i64 k/\Below w.heap.size w wr/\cU (bl a) (bl b)=cU ((bl a).drop k) ((bl b).drop k)) (fun i _=>m-(intOf i).toNat)
 case atStart=>exact⟨0,Nat.zero_le _,rfl,Below.refl _ _,rfl⟩
 case round=>
  obtain⟨k,hk,rfl,hbw,hc⟩:=hrel;have HC:=ab hc;have HB:=ab hbw;clear hc hbw
  by_cases hlt:k<m
  ·have h1:(k:Int)<(a.size:Int):=by omega
   have h2:(k:Int)<(b.size:Int):=by omega
   have h3:k<a.size:=by omega
   have h4:k<b.size:=by omega
   by_cases hq:a[k]=b[k]
   ·have hq2:(((a[k]).toNat:Int) != (b[k]).toNat)=false:=by simp[hq]
    have HQ:=ab hq;clear hq;go_wp2_with fail
    go_quiet (fail)
    go_wp2_with fail
    go_roundw
    case rel=>
     refine⟨k+1,by omega,by go_num,bp HB.out nq, ?_⟩;rw[HC.out];refine Cf (by rw[<-ay]; exact h3) (by rw[<-ay]; exact h4) ?_;rw[<-fg,<-fg]; exact HQ.out
    case measure=>simp[intOf]; omega
   ·have hq2:(((a[k]).toNat:Int) != (b[k]).toNat)=true:=by
     rw[bne_iff_ne]; intro e; apply hq; exact UInt8.toNat_inj.1 (by omega)
    have HQ:=ab hq;clear hq;go_wp2_with fail
    go_quiet (fail)
    go_wp2_with fail;have hW: ∃W,W=wr.drewN nq/\Below w.heap.size w W:=⟨_,rfl,bp HB.out nq⟩;obtain⟨W,hWe,hWb⟩:=hW;rw[<-hWe];have HB2:=ab hWb;clear hWe hWb HB;have hr1:=(a[k]).toNat_lt;have hr2:=(b[k]).toNat_lt
    go_quiet ((first | (go_at_call 150; refine gJ (Df _ _ (by omega) (by omega))) | (go_at_call 151; refine gJ (jL _ _ _))))
    go_wp2_with fail;go_ret;refine⟨bz ?_,bp HB2.out _⟩;rw[vO,vO,HC.out,Ce (by rw[<-ay]; exact h3) (by rw[<-ay]; exact h4) (by rw[<-fg,<-fg]; exact HQ.out),<-fg,<-fg]
  ·go_wp2_with (go_at_call 151; refine(jL _ _ _).mono ?_; rintro e w' ⟨rfl,rfl⟩);go_ret;refine⟨bz ?_,HB.out⟩;have hM:=HM.out;rw[HC.out,Ex (by rw[<-ay]; omega) (by rw[<-ay]; omega) (by rw[<-ay,<-ay]; omega),<-ay,<-ay]
theorem xG (s:ByteArray) (w:World) (he:fE w) (hv:bo (bl s)=true):
  Calls Tryz.prog 72 #[.string s] w fun e w'=>e= .returned (.tuple #[.string ⟨(aT (bl s)).toArray⟩, .bool true])/\Below w.heap.size w w':=by
 have HV:=ab hv;have h5:s.size<=512:=by simp only[bo,Bool.and_eq_true,decide_eq_true_eq]at hv; rw[ay]; exact hv.1.1
 have hl:(aT (bl s)).length<=s.size:=by rw[lW,List.length_take,ay]; omega
 clear hv
 go_enter Tryz.func72,Tryz.ntmps72
 go_wp2_with fail;refine(mR s w he).mono ?_;rintro e w1 ⟨rfl,hb1⟩;rw[HV.out];have HB1:=ab hb1;clear hb1;go_wp2_with fail;refine(qC s w1 (by omega)).mono ?_;rintro e w2 ⟨rfl,rfl⟩;obtain⟨n,hn⟩: ∃n:Nat,n=(aT (bl s)).length:=⟨_,rfl⟩;have hmax:max (gp (bl s)) 0=(n:Int):=by
  unfold gp
  split
  ·omega
  ·rename_i h; rw[hn,jv _ h]; rfl
 have hle:n<=s.size:=by omega
 have HN:=ab hn;clear hn hl;go_wp2_with fail
 go_ret2
 refine⟨?_,HB1.out⟩;have e:s.extract 0 n=⟨(aT (bl s)).toArray⟩:=ft (by rw[jk,ff (aT (bl s)),HN.out,List.drop_zero,<-lW]);rw[<-e]; rfl
def qO (data:List UInt8) (most:Nat) (s:RS):List UInt8×RS:=rv [] (cu data s.off most) s
def kk (data:List UInt8) (s:RS):Nat×RS:=rv 0 (eu data s.off) s
def Bz (data:List UInt8) (s:RS):List UInt8×RS:=rv [] (cK data s.off 32) s
def kY (data:List UInt8) (most:Nat) (s:RS):Nat×RS:=rv 0 (dQ data s.off most) s
def eY (n:Nat):Int:=wrap64 (n:Int)
def iG (data:List UInt8) (s:RS):aG×RS:=
 (⟨⟨(Bz data s).1.toArray⟩,eY (kk data (Bz data s).2).1,eY (kk data (kk data (Bz data s).2).2).1⟩,(kk data (kk data (Bz data s).2).2).2)
theorem DH (n:Nat):(Lit.int .i64 (eY n)).wf=true:=by
 exact wrap64_wf _
def dw (r:aG):Bool:=decide (r.name.size=32) && decide (0<=r.gen) && decide (r.gen<=1099511627776) && decide (0<=r.size) && decide (r.size<=32768)
theorem mp (r:aG) (w:World) (hr:aW r):Calls Tryz.prog 77 #[aX r] w fun e w'=>e= .returned (.bool (dw r))/\Below w.heap.size w w':=by
 obtain⟨n,g,s⟩:=r;obtain⟨h1,h2,h3⟩:=hr;unfold maxLen at h1;simp only[aX,dw]at *
 go_enter Tryz.func77,Tryz.ntmps77
 go_wp2_with fail
 all_goals (go_ret; refine⟨an ?_,(Below.refl _ _).alloc (Nat.le_refl _) _⟩; rw[Bool.eq_iff_iff]; simp; omega)
theorem GI (rb:Nat) (v:Value) (data:List UInt8) (s:RS) (w:World) (hr:lE w rb v data s):
  Calls Tryz.prog 113 #[.pointer (some ⟨rb,0,none⟩)] w fun e w'=> ∃bs s1,Bz data s=(bs,s1)/\e= .returned (.string ⟨bs.toArray⟩)/\lE w' rb v data s1/\w.grownBy w' (some rb):=
 (Fp rb v data s w hr).mono fun _ _ ⟨h1,h2,h3⟩=>⟨_,_,rfl,h1,h2,h3⟩
theorem qh (rb:Nat) (v:Value) (data:List UInt8) (s:RS) (w:World) (hr:lE w rb v data s):
  Calls Tryz.prog 61 #[.pointer (some ⟨rb,0,none⟩)] w fun e w'=> ∃n s1,kk data s=(n,s1)/\e= .returned (.int .u64 (n:Int))/\lE w' rb v data s1/\w.grownBy w' (some rb):=
 (DL rb v data s w hr).mono fun _ _ ⟨h1,h2,h3⟩=>⟨_,_,rfl,h1,h2,h3⟩
theorem DG (rb:Nat) (v:Value) (data:List UInt8) (s:RS) (most:Nat) (w:World) (hr:lE w rb v data s) (hm:most<=1000000):
  Calls Tryz.prog 60 #[.pointer (some ⟨rb,0,none⟩), .int .i64 (most:Int)] w fun e w'=> ∃bs s1,qO data most s=(bs,s1)/\e= .returned (.string ⟨bs.toArray⟩)/\lE w' rb v data s1/\w.grownBy w' (some rb):=
 (DF rb v data s most w hr hm).mono fun _ _ ⟨h1,h2,h3⟩=>⟨_,_,rfl,h1,h2,h3⟩
theorem yF (rb:Nat) (v:Value) (data:List UInt8) (s:RS) (most:Nat) (w:World) (hr:lE w rb v data s) (hm:most<=1000000):
  Calls Tryz.prog 59 #[.pointer (some ⟨rb,0,none⟩), .int .i64 (most:Int)] w fun e w'=> ∃n s1,kY data most s=(n,s1)/\e= .returned (.int .i64 (n:Int))/\lE w' rb v data s1/\w.grownBy w' (some rb):=
 (zM rb v data s most w hr hm).mono fun _ _ ⟨h1,h2,h3⟩=>⟨_,_,rfl,h1,h2,h3⟩
theorem dE {w w':World} {r b:Nat} {o:Obj} (hg:w.grownBy w' (some r)) (h:w.heap[b]? =some o) (hne:b≠r):w'.heap[b]? =some o:=
 (hg.block b ((Array.getElem?_eq_some_iff.1 h).1) (by simpa using hne)).trans h
theorem cH {w:World} {b:Nat} {o:Obj} (h:w.heap[b]? =some o) (x:Obj):(w.alloc x).heap[b]? =some o:=by
 rw[Below.heap_alloc _ _ _ ((Array.getElem?_eq_some_iff.1 h).1)]; exact h
theorem cI {w:World} {b k:Nat} {cs:Array Value} {t:TypeId} (h:w.heap[b]? =some (.cells cs t (0,0))) (x:Value):(w.setCell ⟨b,k,none⟩ x).heap[b]? =some (.cells (cs.setIfInBounds k x) t (0,0)):=by
 simp only[World.setCell,Array.getElem?_modify,if_true,h,Option.map_some]; rfl
theorem bn {w:World} {b c k:Nat} {o:Obj} (h:w.heap[b]? =some o) (hne:b≠c) (x:Value):(w.setCell ⟨c,k,none⟩ x).heap[b]? =some o:=by
 rw[Below.heap_setCell _ _ _ _ hne]; exact h
theorem wj {w w':World} {r:Option Nat} (hg:w.grownBy w' r):w.heap.size<=w'.heap.size:=hg.size
theorem bY {w w':World} {r:Option Nat} {b:Nat} (h:w.grownBy w' r) (hb:w.heap.size<=b) {k:Nat} (x:Value):w.grownBy (w'.setCell ⟨b,k,none⟩ x) r:=
 ⟨h.os,h.tape,h.output,by have:=h.size; simpa [World.setCell]using this,fun i hi hn=>by rw[Below.heap_setCell _ _ _ _ (by show i≠b; omega)]; exact h.block i hi hn⟩
def FE (data:List UInt8) (rb:Nat) (v:Value) (s:RS) (w:World) (e:Ending) (w':World):Prop:=
 ∃r s1,iG data s=(r,s1)/\e= .returned (aX r)/\lE w' rb v data s1/\w.grownBy w' (some rb)/\aW r
theorem zg (data:List UInt8) (s:RS):(Bz data s).1.length<=32:=by
 unfold Bz rv cK
 split
 ·split
  ·rename_i x o h
   split at h
   ·simp at h
   ·simp only[Except.ok.injEq,Prod.mk.injEq]at h;obtain⟨rfl,rfl⟩:=h
    simp; omega
  ·simp
 ·simp
theorem yY (data:List UInt8) (s:RS):aW (iG data s).1:=⟨by
 have:=zg data s
 show ByteArray.size ⟨_⟩<=_
 unfold maxLen;simp[ByteArray.size]; omega,DH _,DH _⟩
theorem ny (rb:Nat) (v:Value) (data:List UInt8) (s:RS) (w:World) (hr:lE w rb v data s):
  Calls Tryz.prog 62 #[.pointer (some ⟨rb,0,none⟩)] w (FE data rb v s w):=by
 have HR:=ab hr;have hlt:=aQ.lt hr;clear hr
 go_enter Tryz.func62,Tryz.ntmps62
 go_wp2_with fail;refine(GI rb v data s _ (aQ.below HR.out ((Below.refl _ _).alloc (Nat.le_refl _) _))).mono ?_;rintro e w1 ⟨bs,s1,hp1,rfl,h1,h2⟩;have HP1:=ab hp1;have H1:=ab h1;have hz:=wj h2;simp at hz;have HB:=ab (dE h2 (heap_alloc_new w _) (by omega));have HG:=ab (ak (aY ((Below.refl _ _).alloc (Nat.le_refl _) _) (some rb)) h2);clear hp1 h1 h2;go_wp2_with fail
 refine(qh rb v data s1 _ (aQ.below H1.out ((Below.refl _ _).alloc (Nat.le_refl _) _))).mono ?_;rintro e w2 ⟨g,s2,hp2,rfl,h1,h2⟩;have HP2:=ab hp2;have H2:=ab h1;have HX:=ab (dE h2 (heap_alloc_new w1 _) (by omega));have HB2:=ab (dE h2 (cH HB.out _) (by omega));have HG2:=ab (ak HG.out (ak (aY ((Below.refl _ _).alloc (Nat.le_refl _) _) (some rb)) h2))
 have hz2:=wj h2;simp at hz2;have k1:=ah (k:=1) HX.out;have f1:=ai (k:=1) HX.out;simp only[aN]at k1;clear hp2 h1 h2 HB HG H1;go_wp2_with fail;obtain⟨w3,hw3⟩: ∃w3,w3=w2.setCell ⟨w1.heap.size,1,none⟩ (.int .i64 (wrap64 (g:Int))):=⟨_,rfl⟩;rw[<-hw3];have H3:=ab (show lE w3 rb v data s2 by rw[hw3]; exact aQ.setOther HR.out H2.out (by omega) _);have x3:=cI (k:=1) HX.out (.int .i64 (wrap64 (g:Int)))
 have y3:=bn (k:=1) HB2.out (show w.heap.size≠w1.heap.size by omega) (.int .i64 (wrap64 (g:Int)));rw[<-hw3]at x3 y3;simp only[List.setIfInBounds_toArray,List.set_cons_succ,List.set_cons_zero]at x3;have HX3:=ab x3;have HB3:=ab y3;clear x3 y3;have HG3:=ab (show w.grownBy w3 (some rb) by rw[hw3]; exact bY HG2.out (by omega) _);have hz3:w2.heap.size=w3.heap.size:=by rw[hw3]; simp[World.setCell]
 clear hw3 k1 f1 HX HB2 HG2 H2;refine(qh rb v data s2 _ H3.out).mono ?_;rintro e w4 ⟨z,s3,hp3,rfl,h1,h2⟩;have HP3:=ab hp3;have H4:=ab h1;have hz4:=wj h2;have HX4:=ab (dE h2 HX3.out (by omega));have HB4:=ab (dE h2 HB3.out (by omega));have HG4:=ab (ak HG3.out h2);have k0:=ah (k:=0) HX4.out;have k1:=ah (k:=1) HX4.out;have k2:=ah (k:=2) HX4.out
 have f2:=ai (k:=2) HX4.out;have b0:=ah (k:=0) HB4.out;have b1:=ah (k:=1) HB4.out;have b2:=ah (k:=2) HB4.out;have g0:=ai (k:=0) HB4.out;have g1:=ai (k:=1) HB4.out;have g2:=ai (k:=2) HB4.out;simp at k0 k1 k2 b0 b1 b2;clear hp3 h1 h2 HX3 HB3 HG3 H3;go_wp2_with fail;have e1:iG data s=(⟨⟨bs.toArray⟩,wrap64 (g:Int),wrap64 (z:Int)⟩,s3):=by simp only[iG,HP1.out,HP2.out,HP3.out,eY]
 refine bodyPost_ret (v:=aX ⟨⟨bs.toArray⟩,wrap64 (g:Int),wrap64 (z:Int)⟩) (by simp[results,Tryz.results62,go_sem,aX,b0,b1,b2]) rfl ⟨_,_,e1,rfl, ?_, ?_, ?_⟩
 ·exact aQ.setOther HR.out (aQ.setOther HR.out (aQ.setOther HR.out (aQ.setOther HR.out H4.out (by omega) _) (by omega) _) (by omega) _) (by omega) _
 ·exact bY (bY (bY (bY HG4.out (by omega) _) (by omega) _) (by omega) _) (by omega) _
 ·have:=yY data s;rw[e1]at this; exact this
def dt (l:List aG):Int:=l.foldl (fun a r=>wrap64 (a+r.size)) 0
theorem kG (l:List aG) (r:aG):dt (l++[r])=wrap64 (dt l+r.size):=by unfold dt; rw[List.foldl_append]; rfl
theorem bh {α:Type} {l:List α} {k:Nat} {x:α} (h:l[k]? =some x):l.take (k+1)=l.take k++[x]:=by
 obtain⟨hk,rfl⟩:=List.getElem?_eq_some_iff.1 h;exact List.take_succ_eq_append_getElem hk
theorem cR {S:Nat->Prop} {w w':World} {a:Option Addr} {n cap:Nat} {rs:List aG} (hv:aM S w (.slice a n cap) rs) (hb:Below w.heap.size w w') {k:Nat} {r:aG} (hr:rs[k]? =some r):
  ∃b o,a=some ⟨b,o,none⟩/\aW r/\w'.cell? ⟨b,o+k*3,none⟩=some (.string r.name)/\w'.cell? ⟨b,o+k*3+1,none⟩=some (.int .i64 r.gen)/\w'.cell? ⟨b,o+k*3+2,none⟩=some (.int .i64 r.size):=by
 obtain⟨a',cap',hv',_,_,hx⟩:=aL.shape hv fc.len
 cases hv'
 obtain⟨b,o,c,rfl,_,⟨rfl,hok⟩,_,hcl⟩:=hx k r hr;have q0:=hcl 0 (by omega);have q1:=hcl 1 (by omega);have q2:=hcl 2 (by omega);simp only[cG,Bw,Nat.add_zero,<-Nat.add_assoc]at q0 q1 q2;exact⟨b,o,rfl,hok,(hb.cell (aR q0)).trans q0,(hb.cell (aR q1)).trans q1,(hb.cell (aR q2)).trans q2⟩
theorem mN (S:Nat->Prop) (v:Value) (rs:List aG) (w:World) (hv:aM S w v rs):Calls Tryz.prog 63 #[v] w fun e w'=>e= .returned (.int .i64 (dt rs))/\Below w.heap.size w w':=by
 obtain⟨a,cap,rfl,hc,hm,-⟩:=aL.shape hv fc.len;unfold maxLen at hm;have HV:=ab hv;clear hv
 go_enter Tryz.func63,Tryz.ntmps63
 go_wp2_with fail
 go_loopw [3,5,8] (fun sm p i wr=> ∃k:Nat,k<=rs.length/\i= .int .i64 k/\sm= .int .i64 (dt (rs.take k))/\Below w.heap.size w wr) (fun _ _ i _=>rs.length-(intOf i).toNat)
 case atStart=>exact⟨0,Nat.zero_le _,rfl,rfl,Below.refl _ _⟩
 case round=>
  obtain⟨k,hk,rfl,rfl,hb⟩:=hrel;have HB:=ab hb;clear hb
  by_cases hlt:k<rs.length
  ·obtain⟨r,hr⟩: ∃r,rs[k]? =some r:=⟨rs[k],by simp[hlt]⟩;obtain⟨b,o,rfl,-,q0,q1,q2⟩:=cR HV.out HB.out hr;have HS:=ab (show dt (rs.take (k+1))=wrap64 (dt (rs.take k)+r.size) by rw[bh hr,kG]);clear hr;go_wp2_with fail
   go_roundw
   case rel=>exact⟨k+1,by omega,by go_num,by rw[HS.out],HB.out.alloc HB.out.size _⟩
   case measure=>simp[intOf]; omega
  ·go_wp2_with fail;go_ret;exact⟨bz (by rw[List.take_of_length_le (by omega)]),HB.out⟩
structure aE where
 name:ByteArray
 kind:Int
 mode:Int
 time:Int
 size:Int
 link:ByteArray
 chunks:List aG
 node:aG
deriving DecidableEq
def cP (cv:Value) (it:aE):List Value:=[.string it.name, .int .i64 it.kind, .int .i64 it.mode, .int .i64 it.time, .int .i64 it.size, .string it.link,cv, .string it.node.name, .int .i64 it.node.gen, .int .i64 it.node.size]
def iT (cv:Value) (it:aE):Value:= .agg #[.string it.name, .int .i64 it.kind, .int .i64 it.mode, .int .i64 it.time, .int .i64 it.size, .string it.link,cv, .string it.node.name, .int .i64 it.node.gen, .int .i64 it.node.size]
def fm (r:aG):Bool:=dw r && decide (1<=r.size)
def bV (it:aE):Bool:=it.chunks.all fm && (decide (it.size=dt it.chunks) && decide (it.size<=1048576))
theorem cA (r:aG) (b:Bool) (w:World) (hr:aW r) (h:dw r=b):Calls Tryz.prog 77 #[aX r] w fun e w'=>e= .returned (.bool b)/\Below w.heap.size w w':=by
 rw[<-h]; exact mp r w hr
theorem ue {α:Type} {p:α->Bool} {l:List α} {k:Nat} {x:α} (h:(l.take k).all p=true) (hx:l[k]? =some x) (hp:p x=true):(l.take (k+1)).all p=true:=by
 rw[bh hx,List.all_append,h]; simp[hp]
theorem sS {α:Type} {p:α->Bool} {l:List α} {k:Nat} {x:α} (hx:l[k]? =some x) (hp:p x=false):l.all p=false:=by
 rw[List.all_eq_false];exact⟨x,List.mem_of_getElem? hx,by rw[hp]; simp⟩
theorem nM (S:Nat->Prop) (it:aE) (cv:Value) (w:World) (hcv:aM S w cv it.chunks):Calls Tryz.prog 135 #[iT cv it] w fun e w'=>e= .returned (.bool (bV it))/\Below w.heap.size w w':=by
 obtain⟨a,cap,rfl,hc,hm,-⟩:=aL.shape hcv fc.len;unfold maxLen at hm;unfold iT
 go_enter Tryz.func135,Tryz.ntmps135
 go_wp2_with fail;obtain⟨W,hW⟩: ∃W,W=w.alloc (.cells #[.string it.name, .int .i64 it.kind, .int .i64 it.mode, .int .i64 it.time, .int .i64 it.size, .string it.link, .slice a it.chunks.length cap, .string it.node.name, .int .i64 it.node.gen, .int .i64 it.node.size] 28):=⟨_,rfl⟩;rw[<-hW];have HBW:=ab (show Below w.heap.size w W by rw[hW]; exact(Below.refl _ _).alloc (Nat.le_refl _) _)
 have HBX:=ab (show W.heap[w.heap.size]? =some (.cells #[.string it.name, .int .i64 it.kind, .int .i64 it.mode, .int .i64 it.time, .int .i64 it.size, .string it.link, .slice a it.chunks.length cap, .string it.node.name, .int .i64 it.node.gen, .int .i64 it.node.size] 28 (0,0)) by rw[hW]; exact heap_alloc_new w _);have hsz:W.heap.size=w.heap.size+1:=by rw[hW]; simp
 have HSZ:=ab hsz;have HV:=ab (show aM S W (.slice a it.chunks.length cap) it.chunks from aL.below hcv (by omega) HBW.out (fun _ _ _ h=>h));clear hW hcv hsz
 go_loopw [4,8] (fun p i wr=> ∃k:Nat,k<=it.chunks.length/\i= .int .i64 k/\(it.chunks.take k).all fm=true/\Below W.heap.size W wr) (fun _ i _=>it.chunks.length-(intOf i).toNat)
 case atStart=>exact⟨0,Nat.zero_le _,rfl,rfl,Below.refl _ _⟩
 case round=>
  obtain⟨k,hk,rfl,hal,hb⟩:=hrel;have HB:=ab hb;have HA:=ab hal;clear hb hal
  by_cases hlt:k<it.chunks.length
  ·obtain⟨r,hr⟩: ∃r,it.chunks[k]? =some r:=⟨it.chunks[k],by simp[hlt]⟩;obtain⟨b,o,rfl,hok,q0,q1,q2⟩:=cR HV.out HB.out hr;have HR:=ab hr;have HO:=ab hok;clear hr hok
   cases hvr:dw r
   ·have HF:=ab (show bV it=false by unfold bV; rw[sS HR.out (by simp[fm,hvr])]; rfl);have HVR:=ab hvr;clear hvr;go_wp2_with (go_at_call 77; refine(cA r false _ HO.out HVR.out).mono ?_; rintro e w1 ⟨rfl,hb1⟩; have HB1:=ab (ag ((HB.out).alloc HB.out.size _) hb1); clear hb1);go_ret;exact⟨an (by rw[HF.out]),HBW.out.trans (HB1.out.mono (by have:=HSZ.out; omega))⟩
   ·have HVR:=ab hvr;clear hvr
    by_cases hs:r.size<1
    ·have HF:=ab (show bV it=false by unfold bV; rw[sS HR.out (by simp[fm,HVR.out]; omega)]; rfl);go_wp2_with (go_at_call 77; refine(cA r true _ HO.out HVR.out).mono ?_; rintro e w1 ⟨rfl,hb1⟩; have d2:w1.cell? ⟨wr.heap.size,2,none⟩=some (.int .i64 r.size):=(hb1.cell (p:=⟨wr.heap.size,2,none⟩) (by simp)).trans (ah (heap_alloc_new wr _)); have HB1:=ab (ag ((HB.out).alloc HB.out.size _) hb1); clear hb1)
     go_ret;exact⟨an (by rw[HF.out]),HBW.out.trans (HB1.out.mono (by have:=HSZ.out; omega))⟩
    ·go_wp2_with (go_at_call 77; refine(cA r true _ HO.out HVR.out).mono ?_; rintro e w1 ⟨rfl,hb1⟩; have d2:w1.cell? ⟨wr.heap.size,2,none⟩=some (.int .i64 r.size):=(hb1.cell (p:=⟨wr.heap.size,2,none⟩) (by simp)).trans (ah (heap_alloc_new wr _)); have HB1:=ab (ag ((HB.out).alloc HB.out.size _) hb1); clear hb1)
     go_roundw
     case rel=>exact⟨k+1,by omega,by go_num,ue HA.out HR.out (by simp[fm,HVR.out]; omega),HB1.out⟩
     case measure=>simp[intOf]; omega
  ·have hall:it.chunks.all fm=true:=by
    have:=HA.out
    rwa [List.take_of_length_le (by omega)]at this
   have HALL:=ab hall;have HBXr:=ab ((HB.out.block w.heap.size (by have:=HSZ.out; omega)).trans HBX.out);have c4:=ah (k:=4) HBXr.out;have c6:=ah (k:=6) HBXr.out;simp only[aN]at c4 c6;have HVr:=ab (show aM S wr (.slice a it.chunks.length cap) it.chunks from aL.below HV.out (by omega) HB.out (fun _ _ _ h=>h));clear hall;go_wp2_with fail;refine cM (fun w'=>w'.cell? ⟨w.heap.size,4,none⟩=some (.int .i64 it.size)/\w'.cell? ⟨w.heap.size,6,none⟩=some (.slice a it.chunks.length cap)) (by kernel_rfl) ?_
   refine af 0 rfl (by kernel_rfl) (by kernel_rfl) (by kernel_rfl) (fun _ _ _ h=>h) rfl (by go_simp) (by rintro w' ⟨hw1,hw2⟩; go_simp; rfl) ?_;simp only[Act.put,aA,aB,aC];refine af 1 rfl (by kernel_rfl) (by kernel_rfl) (by kernel_rfl) (fun _ _ _ h=>h) rfl (by go_simp) (by rintro w' ⟨hw1,hw2⟩; go_simp; rfl) ?_;simp only[Act.put,aA,aB,aC];refine af 2 rfl (by kernel_rfl) (by kernel_rfl) (by kernel_rfl) (fun _ _ _ h=>h) rfl (by go_simp) (by rintro w' ⟨hw1,hw2⟩; go_simp; rfl) ?_
   simp only[Act.put,aA,aB,aC];refine af 3 rfl (by kernel_rfl) (by kernel_rfl) (by kernel_rfl) (fun _ _ _ h=>h) rfl (by go_simp) (by rintro w' ⟨hw1,hw2⟩; go_simp; rfl) ?_;simp only[Act.put,aA,aB,aC];refine ar 4 rfl (by kernel_rfl) rfl (fun K hK=> ?_);go_wp2_with (go_at_call 63; refine(mN S _ it.chunks _ (aL.below HVr.out (by omega) ((Below.refl _ _).drew) (fun _ _ _ h=>h))).mono ?_; rintro e w1 ⟨rfl,hb1⟩; have HB1:=ab hb1; clear hb1)
   have d4:w1.cell? ⟨w.heap.size,4,none⟩=some (.int .i64 it.size):=(HB1.out.cell (p:=⟨w.heap.size,4,none⟩) (aR (a:=⟨w.heap.size,4,none⟩) c4)).trans c4;have d6:w1.cell? ⟨w.heap.size,6,none⟩=some (.slice a it.chunks.length cap):=(HB1.out.cell (p:=⟨w.heap.size,6,none⟩) (aR (a:=⟨w.heap.size,6,none⟩) c6)).trans c6;refine⟨⟨d4,d6⟩, ?_⟩;have HEND:=ab (show Below w.heap.size w w1 from HBW.out.trans ((ag HB.out (((Below.refl _ _).drew).trans HB1.out)).mono (by have:=HSZ.out; omega)))
   by_cases he:it.size=dt it.chunks
   ·have e1:(it.size == dt it.chunks)=true:=by simp[he]
    refine af 5 rfl (by kernel_rfl) (by kernel_rfl) (by kernel_rfl) (fun _ _ _ h=>h) rfl (by go_simp) (by rintro w' ⟨hw1,hw2⟩; go_simp; rfl) ?_;simp only[Act.put,aA,aB,aC];refine af 6 rfl (by kernel_rfl) (by kernel_rfl) (by kernel_rfl) (fun _ _ _ h=>h) rfl (by go_simp) (by rintro w' ⟨hw1,hw2⟩; go_simp; rfl) ?_;simp only[Act.put,aA,aB,aC];refine af 7 rfl (by kernel_rfl) (by kernel_rfl) (by kernel_rfl) (fun _ _ _ h=>h) rfl (by go_simp) (by rintro w' ⟨hw1,hw2⟩; go_simp; rfl) ?_
    simp only[Act.put,aA,aB,aC];refine af 8 rfl (by kernel_rfl) (by kernel_rfl) (by kernel_rfl) (fun _ _ _ h=>h) rfl (by go_simp) (by rintro w' ⟨hw1,hw2⟩; go_simp; rfl) ?_;simp only[Act.put,aA,aB,aC];refine af 9 rfl (by kernel_rfl) (by kernel_rfl) (by kernel_rfl) (fun _ _ _ h=>h) rfl (by go_simp) (by rintro w' ⟨hw1,hw2⟩; go_simp; rfl) ?_;simp only[Act.put,aA,aB,aC]
    refine af 10 rfl (by kernel_rfl) (by kernel_rfl) (by kernel_rfl) (fun _ _ _ h=>h) rfl (by go_simp) (by rintro w' ⟨hw1,hw2⟩; go_simp; rfl) ?_;simp only[Act.put,aA,aB,aC];refine af 11 rfl (by kernel_rfl) (by kernel_rfl) (by kernel_rfl) (fun _ _ _ h=>h) rfl (by go_simp) (by rintro w' ⟨hw1,hw2⟩; go_simp; rfl) ?_;simp only[Act.put,aA,aB,aC];refine aV (by kernel_rfl) ?_
    have HE:=ab he;clear he;go_wp2_with fail;go_ret;refine⟨an ?_,HEND.out⟩;unfold bV;rw[HALL.out]; simp[HE.out]
   ·have e1:(it.size == dt it.chunks)=false:=by simp[he]
    refine af 5 rfl (by kernel_rfl) (by kernel_rfl) (by kernel_rfl) (fun _ _ _ h=>h) rfl (by go_simp) (by rintro w' ⟨hw1,hw2⟩; go_simp; rfl) ?_;simp only[Act.put,aA,aB,aC];refine af 6 rfl (by kernel_rfl) (by kernel_rfl) (by kernel_rfl) (fun _ _ _ h=>h) rfl (by go_simp) (by rintro w' ⟨hw1,hw2⟩; go_simp; rfl) ?_;simp only[Act.put,aA,aB,aC];refine ph 7 rfl (by kernel_rfl) (by kernel_rfl) (by kernel_rfl) (fun _ _ _ h=>h) rfl (by go_simp) ?_
    simp only[Act.put,aA,aB,aC];refine ph 8 rfl (by kernel_rfl) (by kernel_rfl) (by kernel_rfl) (fun _ _ _ h=>h) rfl (by go_simp) ?_;simp only[Act.put,aA,aB,aC];refine ph 9 rfl (by kernel_rfl) (by kernel_rfl) (by kernel_rfl) (fun _ _ _ h=>h) rfl (by go_simp) ?_;simp only[Act.put,aA,aB,aC];refine af 10 rfl (by kernel_rfl) (by kernel_rfl) (by kernel_rfl) (fun _ _ _ h=>h) rfl (by go_simp) (by rintro w' ⟨hw1,hw2⟩; go_simp; rfl) ?_
    simp only[Act.put,aA,aB,aC];refine af 11 rfl (by kernel_rfl) (by kernel_rfl) (by kernel_rfl) (fun _ _ _ h=>h) rfl (by go_simp) (by rintro w' ⟨hw1,hw2⟩; go_simp; rfl) ?_;simp only[Act.put,aA,aB,aC];refine aV (by kernel_rfl) ?_;have HE:=ab he;clear he;go_wp2_with fail;go_ret;refine⟨an ?_,HEND.out⟩;unfold bV;rw[HALL.out]; simp[HE.out]
def bi :aG:=⟨⟨#[]⟩,0,0⟩
def mj (it:aE):Bool:=(bo (bl it.name) && !(bl it.name).contains 47) && (decide (0<=it.mode) && decide (it.mode<=511) && decide (0<=it.time))
def bU (it:aE):Bool:=
 if it.kind=1 then decide (it.link.size=0) && decide (it.node=bi) && bV it
 else if it.kind=2 then decide (it.link.size=0) && decide (it.size=0) && decide (it.chunks.length=0) && dw it.node
 else if it.kind=3 then(decide (it.size=0) && decide (it.chunks.length=0) && decide (it.node=bi)) && (decide (1<=it.link.size) && decide (it.link.size<=512) && !(bl it.link).contains 0)
 else false
def cy (it:aE):Bool:=mj it && bU it
structure cB (it : aE) : Prop where
 nm:it.name.size<=maxLen
 lk:it.link.size<=maxLen
 nd:aW it.node
theorem fQ (s:ByteArray) (b:Bool) (w:World) (he:fE w) (h:bo (bl s)=b):Calls Tryz.prog 119 #[.string s] w fun e w'=>e= .returned (.bool b)/\Below w.heap.size w w':=by
 rw[<-h]; exact mR s w he
theorem jM (s:ByteArray) (b:Bool) (w:World) (h:(bl s).contains 47=b):Calls Tryz.prog 134 #[.string s, .string ⟨#[47]⟩] w fun e w'=>e= .returned (.bool b)/\w=w':=by
 rw[<-h]; exact lK s 47 w
theorem qz (s:ByteArray) (w:World):Calls Tryz.prog 136 #[.string s, .int .u8 0] w fun e w'=>e= .returned (.int .i64 (Lib.indexByte (bl s) 0))/\w=w':=
 (Tryz.strings_IndexByte s 0 w).mono fun _ _ ⟨he,hw⟩=>⟨he,hw.symm⟩
theorem qP (S:Nat->Prop) (it:aE) (cv:Value) (w:World) (hcv:aM S w cv it.chunks) (hok:cB it) (henv:fE w):Calls Tryz.prog 96 #[iT cv it] w fun e w'=>e= .returned (.bool (cy it))/\Below w.heap.size w w':=by
 obtain⟨a,cap,rfl,hc,hm,-⟩:=aL.shape hcv fc.len;unfold maxLen at hm;have HV:=ab hcv;have HO:=ab hok;have HE:=ab henv;have hq1:=hok.nm;have hq2:=hok.lk;unfold maxLen at hq1 hq2;have heq: ∀w,(Op.equalIn 10000 26 (.agg #[.string it.node.name, .int .i64 it.node.gen, .int .i64 it.node.size]) (.agg #[.string ⟨#[]⟩, .int .i64 0, .int .i64 0])).run Tryz.prog w= .ok (decide (it.node=bi)) w:=fun w=>yJ it.node bi w
 have HL:=ab (show it.link.toList=[]<->it.link.size=0 by rw[cO,ay]; simp);clear hcv hok henv;unfold iT
 cases hv:bo (bl it.name)
 ·have HVP:=ab hv;clear hv
  go_enter Tryz.func96,Tryz.ntmps96
  go_wp2_with fail;obtain⟨W,hW⟩: ∃W,W=w.alloc (.cells #[.string it.name, .int .i64 it.kind, .int .i64 it.mode, .int .i64 it.time, .int .i64 it.size, .string it.link, .slice a it.chunks.length cap, .string it.node.name, .int .i64 it.node.gen, .int .i64 it.node.size] 28):=⟨_,rfl⟩;rw[<-hW];have HBW:=ab (show Below w.heap.size w W by rw[hW]; exact(Below.refl _ _).alloc (Nat.le_refl _) _)
  have HBX:=ab (show W.heap[w.heap.size]? =some (.cells #[.string it.name, .int .i64 it.kind, .int .i64 it.mode, .int .i64 it.time, .int .i64 it.size, .string it.link, .slice a it.chunks.length cap, .string it.node.name, .int .i64 it.node.gen, .int .i64 it.node.size] 28 (0,0)) by rw[hW]; exact heap_alloc_new w _);clear hW;refine(fQ it.name false _ (HE.out.below HBW.out) HVP.out).mono ?_
  rintro e w1 ⟨rfl,hb1⟩;have HB1:=ab (ag HBW.out hb1);clear hb1;go_wp2_with fail;go_ret;exact⟨an (by simp[cy,mj,HVP.out]),HB1.out⟩
 ·have HVP:=ab hv;clear hv
  cases hcn:(bl it.name).contains 47
  ·have HCN:=ab hcn;clear hcn
   by_cases hmt:0<=it.mode/\it.mode<=511/\0<=it.time
   ·have HH:=ab (show cy it=bU it by obtain⟨x1,x2,x3⟩:=hmt; unfold cy mj; rw[HVP.out,HCN.out]; simp[x1,x2,x3]);obtain⟨hm1,hm2,hm3⟩:=hmt
    go_enter Tryz.func96,Tryz.ntmps96
    go_wp2_with fail;obtain⟨W,hW⟩: ∃W,W=w.alloc (.cells #[.string it.name, .int .i64 it.kind, .int .i64 it.mode, .int .i64 it.time, .int .i64 it.size, .string it.link, .slice a it.chunks.length cap, .string it.node.name, .int .i64 it.node.gen, .int .i64 it.node.size] 28):=⟨_,rfl⟩;rw[<-hW];have HBW:=ab (show Below w.heap.size w W by rw[hW]; exact(Below.refl _ _).alloc (Nat.le_refl _) _)
    have HBX:=ab (show W.heap[w.heap.size]? =some (.cells #[.string it.name, .int .i64 it.kind, .int .i64 it.mode, .int .i64 it.time, .int .i64 it.size, .string it.link, .slice a it.chunks.length cap, .string it.node.name, .int .i64 it.node.gen, .int .i64 it.node.size] 28 (0,0)) by rw[hW]; exact heap_alloc_new w _);clear hW;refine(fQ it.name true _ (HE.out.below HBW.out) HVP.out).mono ?_
    rintro e w1 ⟨rfl,hb1⟩;have HBXr:=ab ((hb1.block w.heap.size ((Array.getElem?_eq_some_iff.1 HBX.out).1)).trans HBX.out);have HB1:=ab (ag HBW.out hb1);have hlt1:w.heap.size<w1.heap.size:=(Array.getElem?_eq_some_iff.1 HBXr.out).1;have c0:=ah (k:=0) HBXr.out;have c1:=ah (k:=1) HBXr.out;have c2:=ah (k:=2) HBXr.out;have c3:=ah (k:=3) HBXr.out;have c4:=ah (k:=4) HBXr.out
    have c5:=ah (k:=5) HBXr.out;have c6:=ah (k:=6) HBXr.out;have c7:=ah (k:=7) HBXr.out;have c8:=ah (k:=8) HBXr.out;have c9:=ah (k:=9) HBXr.out;simp only[aN]at c0 c1 c2 c3 c4 c5 c6 c7 c8 c9;clear hb1 HBX;go_wp2_with fail;refine(jM it.name false _ HCN.out).mono ?_;rintro e w2 ⟨rfl,rfl⟩
    by_cases hk1:it.kind=1
    ·have e1:(it.kind == 1)=true:=by simp[hk1]
     have HK:=ab (show bU it=(decide (it.link.size=0) && decide (it.node=bi) && bV it) by unfold bU; rw[if_pos hk1]);clear hk1;have HVA:=ab (show aM S (w1.alloc (.cells #[.string ⟨#[]⟩, .int .i64 0, .int .i64 0] 26)) (.slice a it.chunks.length cap) it.chunks from aL.below HV.out (by omega) (HB1.out.alloc HB1.out.size _) (fun _ _ _ h=>h));go_wp2_with fail
     ·have hvc:=nM S ⟨it.name,it.kind,it.mode,it.time,it.size,it.link,it.chunks,bi⟩ (.slice a it.chunks.length cap) _ HVA.out;simp only[iT,bV]at hvc;refine hvc.mono ?_;rintro e w3 ⟨rfl,hb3⟩;have HB3:=ab (ag (HB1.out.alloc HB1.out.size _) hb3);have hl:it.link.size=0:=HL.out.1 (by assumption);have hn:it.node=bi:=by assumption
      have HLN:=ab (And.intro hl hn);clear hb3 hl hn;go_wp2_with fail;go_ret;exact⟨an (by rw[HH.out,HK.out]; simp[HLN.out.1,HLN.out.2]; rfl),HB3.out⟩
     all_goals (
      go_ret;refine⟨an ?_,HB1.out.alloc HB1.out.size _⟩;rw[HH.out,HK.out];refine(Bool.eq_false_iff.2 fun hh=> ?_).symm;simp only[Bool.and_eq_true,decide_eq_true_eq]at hh;obtain⟨⟨x1,x2⟩,x3⟩:=hh
      first | exact absurd x2 (by assumption) | exact absurd (HL.out.2 x1) (by assumption))
    ·have e1:(it.kind == 1)=false:=by simp[hk1]
     by_cases hk2:it.kind=2
     ·have e2:(it.kind == 2)=true:=by simp[hk2]
      have HK:=ab (show bU it=(decide (it.link.size=0) && decide (it.size=0) && decide (it.chunks.length=0) && dw it.node) by unfold bU; rw[if_neg hk1,if_pos hk2]);clear hk1 hk2;go_wp2_with fail
      ·refine(mp it.node _ HO.out.nd).mono ?_;rintro e w3 ⟨rfl,hb3⟩;have HB3:=ab (ag (HB1.out.alloc HB1.out.size _) hb3);have hl:it.link.size=0:=HL.out.1 (by assumption);have hs:it.size=0:=by assumption
       have hn:it.chunks=[]:=by assumption
       have HLN:=ab (And.intro hl (And.intro hs hn));clear hb3 hl hn hs;go_wp2_with fail;go_ret;exact⟨an (by rw[HH.out,HK.out]; simp[HLN.out.1,HLN.out.2.1,HLN.out.2.2]),HB3.out⟩
      all_goals (
       go_ret;refine⟨an ?_,HB1.out.alloc HB1.out.size _⟩;rw[HH.out,HK.out];refine(Bool.eq_false_iff.2 fun hh=> ?_).symm;simp only[Bool.and_eq_true,decide_eq_true_eq]at hh;obtain⟨⟨⟨x1,x2⟩,x3⟩,x4⟩:=hh
       first | exact absurd (List.eq_nil_of_length_eq_zero x3) (by assumption) | exact absurd x2 (by assumption) | exact absurd (HL.out.2 x1) (by assumption))
     ·have e2:(it.kind == 2)=false:=by simp[hk2]
      by_cases hk3:it.kind=3
      ·have e3:(it.kind == 3)=true:=by simp[hk3]
       have HK:=ab (show bU it=((decide (it.size=0) && decide (it.chunks.length=0) && decide (it.node=bi)) && (decide (1<=it.link.size) && decide (it.link.size<=512) && !(bl it.link).contains 0)) by unfold bU; rw[if_neg hk1,if_neg hk2,if_pos hk3]);clear hk1 hk2 hk3;go_wp2_with fail
       any_goals (
        go_ret;refine⟨an ?_,HB1.out.alloc HB1.out.size _⟩;rw[HH.out,HK.out];refine(Bool.eq_false_iff.2 fun hh=> ?_).symm;simp only[Bool.and_eq_true,decide_eq_true_eq]at hh;obtain⟨⟨⟨x1,x2⟩,x3⟩,⟨x4,x5⟩,x6⟩:=hh
        first
         | exact absurd x1 (by assumption)
         | exact absurd (List.eq_nil_of_length_eq_zero x2) (by assumption)
         | (exfalso; have hn:(!decide (it.node=bi))=true:=(by assumption); simp[x3]at hn)
         | omega)
       refine(qz it.link _).mono ?_;rintro e w3 ⟨rfl,rfl⟩;have hs:it.size=0:=by assumption
       have hch:it.chunks=[]:=by assumption
       have hn:(!decide (it.node=bi))=false:=by assumption
       have hl1:1<=(it.link.size:Int):=by assumption
       have hl2:(it.link.size:Int)<=512:=by assumption
       have HLN:=ab (And.intro hs (And.intro hch (And.intro hn (And.intro hl1 hl2))));go_wp2_with fail;go_ret;refine⟨an ?_,HB1.out.alloc HB1.out.size _⟩;obtain⟨y1,y2,y3,y4,y5⟩:=HLN.out;have y6:it.node=bi:=by simpa using y3
       rw[HH.out,HK.out,<-eU];have z1:decide (1<=it.link.size)=true:=by simp; omega
       have z2:decide (it.link.size<=512)=true:=by simp; omega
       rw[z1,z2];simp[y1,y2,y6];rw[Bool.eq_iff_iff]; simp
      ·have e3:(it.kind == 3)=false:=by simp[hk3]
       have HK:=ab (show bU it=false by unfold bU; rw[if_neg hk1,if_neg hk2,if_neg hk3]);clear hk1 hk2 hk3;go_wp2_with fail;go_ret;exact⟨an (by rw[HH.out,HK.out]),HB1.out.alloc HB1.out.size _⟩
   ·have HF:=ab (show cy it=false by
     have:(decide (0<=it.mode) && decide (it.mode<=511) && decide (0<=it.time))=false:=by
      rw[Bool.eq_false_iff]; simp; omega
     unfold cy mj; rw[this]; simp)
    go_enter Tryz.func96,Tryz.ntmps96
    go_wp2_with fail;obtain⟨W,hW⟩: ∃W,W=w.alloc (.cells #[.string it.name, .int .i64 it.kind, .int .i64 it.mode, .int .i64 it.time, .int .i64 it.size, .string it.link, .slice a it.chunks.length cap, .string it.node.name, .int .i64 it.node.gen, .int .i64 it.node.size] 28):=⟨_,rfl⟩;rw[<-hW];have HBW:=ab (show Below w.heap.size w W by rw[hW]; exact(Below.refl _ _).alloc (Nat.le_refl _) _)
    have HBX:=ab (show W.heap[w.heap.size]? =some (.cells #[.string it.name, .int .i64 it.kind, .int .i64 it.mode, .int .i64 it.time, .int .i64 it.size, .string it.link, .slice a it.chunks.length cap, .string it.node.name, .int .i64 it.node.gen, .int .i64 it.node.size] 28 (0,0)) by rw[hW]; exact heap_alloc_new w _);clear hW;refine(fQ it.name true _ (HE.out.below HBW.out) HVP.out).mono ?_
    rintro e w1 ⟨rfl,hb1⟩;have HBXr:=ab ((hb1.block w.heap.size ((Array.getElem?_eq_some_iff.1 HBX.out).1)).trans HBX.out);have HB1:=ab (ag HBW.out hb1);have hlt1:w.heap.size<w1.heap.size:=(Array.getElem?_eq_some_iff.1 HBXr.out).1;have c0:=ah (k:=0) HBXr.out;have c1:=ah (k:=1) HBXr.out;have c2:=ah (k:=2) HBXr.out;have c3:=ah (k:=3) HBXr.out;have c4:=ah (k:=4) HBXr.out
    have c5:=ah (k:=5) HBXr.out;have c6:=ah (k:=6) HBXr.out;have c7:=ah (k:=7) HBXr.out;have c8:=ah (k:=8) HBXr.out;have c9:=ah (k:=9) HBXr.out;simp only[aN]at c0 c1 c2 c3 c4 c5 c6 c7 c8 c9;clear hb1 HBX;go_wp2_with fail;refine(jM it.name false _ HCN.out).mono ?_;rintro e w2 ⟨rfl,rfl⟩;have HM3:=ab hmt;clear hmt
    rcases Int.lt_or_le it.mode 0 with h1 | h1
    ·go_wp2_with fail;go_ret;exact⟨an (by rw[HF.out]),HB1.out⟩
    ·rcases Int.lt_or_le 511 it.mode with h2 | h2
     ·go_wp2_with fail;go_ret;exact⟨an (by rw[HF.out]),HB1.out⟩
     ·have h3:it.time<0:=by have:=HM3.out; omega
      go_wp2_with fail;go_ret;exact⟨an (by rw[HF.out]),HB1.out⟩
  ·have HCN:=ab hcn;clear hcn
   go_enter Tryz.func96,Tryz.ntmps96
   go_wp2_with fail;obtain⟨W,hW⟩: ∃W,W=w.alloc (.cells #[.string it.name, .int .i64 it.kind, .int .i64 it.mode, .int .i64 it.time, .int .i64 it.size, .string it.link, .slice a it.chunks.length cap, .string it.node.name, .int .i64 it.node.gen, .int .i64 it.node.size] 28):=⟨_,rfl⟩;rw[<-hW];have HBW:=ab (show Below w.heap.size w W by rw[hW]; exact(Below.refl _ _).alloc (Nat.le_refl _) _)
   have HBX:=ab (show W.heap[w.heap.size]? =some (.cells #[.string it.name, .int .i64 it.kind, .int .i64 it.mode, .int .i64 it.time, .int .i64 it.size, .string it.link, .slice a it.chunks.length cap, .string it.node.name, .int .i64 it.node.gen, .int .i64 it.node.size] 28 (0,0)) by rw[hW]; exact heap_alloc_new w _);clear hW;refine(fQ it.name true _ (HE.out.below HBW.out) HVP.out).mono ?_
   rintro e w1 ⟨rfl,hb1⟩;have HBXr:=ab ((hb1.block w.heap.size ((Array.getElem?_eq_some_iff.1 HBX.out).1)).trans HBX.out);have HB1:=ab (ag HBW.out hb1);have hlt1:w.heap.size<w1.heap.size:=(Array.getElem?_eq_some_iff.1 HBXr.out).1;have c0:=ah (k:=0) HBXr.out;have c1:=ah (k:=1) HBXr.out;have c2:=ah (k:=2) HBXr.out;have c3:=ah (k:=3) HBXr.out;have c4:=ah (k:=4) HBXr.out
   have c5:=ah (k:=5) HBXr.out;have c6:=ah (k:=6) HBXr.out;have c7:=ah (k:=7) HBXr.out;have c8:=ah (k:=8) HBXr.out;have c9:=ah (k:=9) HBXr.out;simp only[aN]at c0 c1 c2 c3 c4 c5 c6 c7 c8 c9;clear hb1 HBX;go_wp2_with fail;refine(jM it.name true _ HCN.out).mono ?_;rintro e w2 ⟨rfl,rfl⟩;go_wp2_with fail;go_ret;exact⟨an (by unfold cy mj; rw[HCN.out]; simp),HB1.out⟩
def dO (S:Nat->Prop) (w:World) (c:List Value) (it:aE):Prop:= ∃cv,c=cP cv it/\aM S w cv it.chunks/\cB it
theorem dO.len {S:Nat->Prop} {w:World} (c:List Value) (it:aE) (h:dO S w c it):c.length=10:=by obtain⟨cv,rfl,_⟩:=h; rfl
def ba (S:Nat->Prop) (w:World) (v:Value) (l:List aE):Prop:=aL S w 10 (dO S w) v l
theorem ba.below {S:Nat->Prop} {w w':World} {v:Value} {l:List aE} (h:ba S w v l) (hb:Below w.heap.size w w'):ba S w' v l:=
 aL.below h (by omega) hb (fun c x _ ⟨cv,h1,h2,h3⟩=>⟨cv,h1,aL.below h2 (by omega) hb (fun _ _ _ h=>h),h3⟩)
theorem dy {S:Nat->Prop} {w w':World} {a:Option Addr} {n cap:Nat} {l:List aE} (hv:ba S w (.slice a n cap) l) (hb:Below w.heap.size w w') {k:Nat} {it:aE} (hr:l[k]? =some it):
  ∃b o ca cc,a=some ⟨b,o,none⟩/\cB it/\aM S w' (.slice ca it.chunks.length cc) it.chunks/\b<w.heap.size/\S b/\ ∀j,j<10->w'.cell? ⟨b,o+k*10+j,none⟩=(cP (.slice ca it.chunks.length cc) it)[j]? :=by
 obtain⟨a',cap',hv',_,_,hx⟩:=aL.shape hv dO.len
 cases hv'
 obtain⟨b,o,c,rfl,hS,⟨cv,rfl,hrf,hok⟩,_,hcl⟩:=hx k it hr;have q0:=hcl 0 (by omega);have hlt:b<w.heap.size:=aR (a:=⟨b,o+(k*10+0),none⟩) (v:= .string it.name) q0;obtain⟨ca,cc,rfl,_,_,_⟩:=aL.shape hrf fc.len;refine⟨b,o,ca,cc,rfl,hok,aL.below hrf (by omega) hb (fun _ _ _ h=>h),hlt,hS,fun j hj=> ?_⟩;rw[Nat.add_assoc];exact(hb.cell (p:=⟨b,o+(k*10+j),none⟩) hlt).trans (hcl j hj)
def CK (a b:ByteArray):Bool:=Op.bytesLess a.toList b.toList
def gi (p:Option ByteArray) (n:ByteArray):Bool:=match p with
 | none=>true
 | some q=>CK q n
def cz :Option ByteArray->List aE->Bool
 | _,[]=>true
 | p,it::r=>cy it && gi p it.name && cz (some it.name) r
def cd (l:List aE):Bool:=decide (l.length<=4096) && cz none l
def fM (l:List aE) (k:Nat):Option ByteArray:=match k with
 | 0=>none
 | k+1=>l[k]?.map aE.name
theorem rV {l:List aE} {k:Nat} {it:aE} (hk:1<=k) (h:l[k-1]? =some it):fM l k=some it.name:=by
 cases k with
 | zero=>omega
 | succ k=>
  simp only[Nat.add_sub_cancel]at h;simp[fM,h]
theorem dH {l:List aE} {k:Nat} {it:aE} (h:l[k]? =some it):cz (fM l k) (l.drop k)=(cy it && gi (fM l k) it.name && cz (fM l (k+1)) (l.drop (k+1))):=by
 obtain⟨hk,rfl⟩:=List.getElem?_eq_some_iff.1 h;rw[List.drop_eq_getElem_cons hk]
 show(cy l[k] && gi (fM l k) l[k].name && cz (some l[k].name) _)=_
 simp[fM,hk]
theorem gk (S:Nat->Prop) (it:aE) (cv:Value) (b:Bool) (w:World) (hcv:aM S w cv it.chunks) (hok:cB it) (henv:fE w) (h:cy it=b):Calls Tryz.prog 96 #[iT cv it] w fun e w'=>e= .returned (.bool b)/\Below w.heap.size w w':=by
 rw[<-h]; exact qP S it cv w hcv hok henv
theorem qR (S:Nat->Prop) (l:List aE) (v:Value) (w:World) (hv:ba S w v l) (henv:fE w):Calls Tryz.prog 47 #[v] w fun e w'=>e= .returned (.bool (cd l))/\Below w.heap.size w w':=by
 obtain⟨a,cap,rfl,hc,hm,-⟩:=aL.shape hv dO.len;unfold maxLen at hm;have HV:=ab hv;have HE:=ab henv;clear hv henv
 by_cases hbig:4096<l.length
 ·have HF:=ab (show cd l=false by
   unfold cd;have:decide (l.length<=4096)=false:=by simp; omega
   rw[this]; rfl)
  go_enter Tryz.func47,Tryz.ntmps47
  go_wp2_with fail;go_ret;exact⟨an (by rw[HF.out]),Below.refl _ _⟩
 ·have HN:=ab (show cd l=cz none l by
   unfold cd;have:decide (l.length<=4096)=true:=by simp; omega
   rw[this]; rfl)
  go_enter Tryz.func47,Tryz.ntmps47
  go_wp2_with fail
  go_loopw [3,4,10] (fun x p i wr=> ∃k:Nat,k<=l.length/\i= .int .i64 k/\cz none l=cz (fM l k) (l.drop k)/\Below w.heap.size w wr) (fun _ _ i _=>l.length-(intOf i).toNat)
  case atStart=>exact⟨0,Nat.zero_le _,rfl,rfl,Below.refl _ _⟩
  case round=>
   obtain⟨k,hk,rfl,hal,hb⟩:=hrel;have HB:=ab hb;have HA:=ab hal;clear hb hal
   by_cases hlt:k<l.length
   ·obtain⟨it,hr⟩: ∃it,l[k]? =some it:=⟨l[k],by simp[hlt]⟩;obtain⟨b,o,ca,cc,rfl,hok,hrf,hbl,-,hcl⟩:=dy HV.out HB.out hr;have HR:=ab hr;have HO:=ab hok;have HRF:=ab hrf;have q0:=hcl 0 (by omega);have q1:=hcl 1 (by omega);have q2:=hcl 2 (by omega);have q3:=hcl 3 (by omega);have q4:=hcl 4 (by omega);have q5:=hcl 5 (by omega);have q6:=hcl 6 (by omega)
    have q7:=hcl 7 (by omega);have q8:=hcl 8 (by omega);have q9:=hcl 9 (by omega);simp only[cP,Bw,Nat.add_zero]at q0 q1 q2 q3 q4 q5 q6 q7 q8 q9;clear hr hok hrf hcl;have hbw:=HB.out.size
    cases hvi:cy it
    ·have HVI:=ab hvi;clear hvi;have HF:=ab (show cz none l=false by rw[HA.out,dH HR.out,HVI.out]; rfl);go_wp2_with fail;refine am [some 1,none,some 16] (by kernel_rfl) (by kernel_rfl) (by kernel_rfl) ?_;simp only[aZ,List.take_succ_cons,List.take_zero,List.drop_succ_cons,List.drop_zero]
     repeat (first | (refine aw rfl ?_; simp only[Act.put,aA,aB,aC]) | (refine aJ rfl (fun K hK=> ?_); go_simp; refine hK _ ?_; clear hK K))
     refine aI ?_;have HV2:=ab (show aM S (wr.alloc (.cells #[.string it.name, .int .i64 it.kind, .int .i64 it.mode, .int .i64 it.time, .int .i64 it.size, .string it.link, .slice ca it.chunks.length cc, .string it.node.name, .int .i64 it.node.gen, .int .i64 it.node.size] 28)).drew (.slice ca it.chunks.length cc) it.chunks from aL.below HRF.out (by omega) (((Below.refl _ _).alloc (Nat.le_refl _) _).drew) (fun _ _ _ h=>h))
     have HE2:=ab (show fE (wr.alloc (.cells #[.string it.name, .int .i64 it.kind, .int .i64 it.mode, .int .i64 it.time, .int .i64 it.size, .string it.link, .slice ca it.chunks.length cc, .string it.node.name, .int .i64 it.node.gen, .int .i64 it.node.size] 28)).drew from HE.out.below ((HB.out.alloc HB.out.size _).drew));refine bw rfl (fun K hK=> ?_);go_wp2_with (go_at_call 96; refine(gk S it (.slice ca it.chunks.length cc) false _ HV2.out HO.out HE2.out HVI.out).mono ?_; rintro e w1 ⟨rfl,hb1⟩)
     have HB1:=ab (ag ((HB.out.alloc HB.out.size _).drew) hb1);have HB1r:=ab (((Below.refl _ _).alloc (Nat.le_refl _) (.cells #[.string it.name, .int .i64 it.kind, .int .i64 it.mode, .int .i64 it.time, .int .i64 it.size, .string it.link, .slice ca it.chunks.length cc, .string it.node.name, .int .i64 it.node.gen, .int .i64 it.node.size] 28)).drew.trans (hb1.mono (by simp)));have n0:w1.cell? ⟨wr.heap.size,0,none⟩=some (.string it.name):=(hb1.cell (p:=⟨wr.heap.size,0,none⟩) (by simp)).trans (ah (heap_alloc_new wr _))
     clear hb1
     repeat (first | (refine aw rfl ?_; simp only[Act.put,aA,aB,aC]) | (refine aJ rfl (fun K hK=> ?_); go_simp; refine hK _ ?_; clear hK K))
     refine aI ?_;go_wp2_with fail;go_ret;exact⟨an (by rw[HN.out,HF.out]),HB1.out⟩
    ·have HVI:=ab hvi;clear hvi
     by_cases hk0:k<=0
     ·have HF:=ab (show cz none l=cz (fM l (k+1)) (l.drop (k+1)) by
       obtain rfl:k=0:=by omega
       rw[HA.out,dH HR.out,HVI.out]; simp[fM,gi])
      have ek:decide (0<k)=false:=by simp; omega
      go_wp2_with fail;refine am [some 1,none,some 16] (by kernel_rfl) (by kernel_rfl) (by kernel_rfl) ?_;simp only[aZ,List.take_succ_cons,List.take_zero,List.drop_succ_cons,List.drop_zero]
      repeat (first | (refine aw rfl ?_; simp only[Act.put,aA,aB,aC]) | (refine aJ rfl (fun K hK=> ?_); go_simp; refine hK _ ?_; clear hK K))
      refine aI ?_;have HV2:=ab (show aM S (wr.alloc (.cells #[.string it.name, .int .i64 it.kind, .int .i64 it.mode, .int .i64 it.time, .int .i64 it.size, .string it.link, .slice ca it.chunks.length cc, .string it.node.name, .int .i64 it.node.gen, .int .i64 it.node.size] 28)).drew (.slice ca it.chunks.length cc) it.chunks from aL.below HRF.out (by omega) (((Below.refl _ _).alloc (Nat.le_refl _) _).drew) (fun _ _ _ h=>h))
      have HE2:=ab (show fE (wr.alloc (.cells #[.string it.name, .int .i64 it.kind, .int .i64 it.mode, .int .i64 it.time, .int .i64 it.size, .string it.link, .slice ca it.chunks.length cc, .string it.node.name, .int .i64 it.node.gen, .int .i64 it.node.size] 28)).drew from HE.out.below ((HB.out.alloc HB.out.size _).drew));refine bw rfl (fun K hK=> ?_);go_wp2_with (go_at_call 96; refine(gk S it (.slice ca it.chunks.length cc) true _ HV2.out HO.out HE2.out HVI.out).mono ?_; rintro e w1 ⟨rfl,hb1⟩)
      have HB1:=ab (ag ((HB.out.alloc HB.out.size _).drew) hb1);have HB1r:=ab (((Below.refl _ _).alloc (Nat.le_refl _) (.cells #[.string it.name, .int .i64 it.kind, .int .i64 it.mode, .int .i64 it.time, .int .i64 it.size, .string it.link, .slice ca it.chunks.length cc, .string it.node.name, .int .i64 it.node.gen, .int .i64 it.node.size] 28)).drew.trans (hb1.mono (by simp)));have n0:w1.cell? ⟨wr.heap.size,0,none⟩=some (.string it.name):=(hb1.cell (p:=⟨wr.heap.size,0,none⟩) (by simp)).trans (ah (heap_alloc_new wr _))
      clear hb1
      repeat (first | (refine aw rfl ?_; simp only[Act.put,aA,aB,aC]) | (refine aJ rfl (fun K hK=> ?_); go_simp; refine hK _ ?_; clear hK K))
      refine aI ?_;go_wp2_with fail
      go_roundw
      case rel=>exact⟨k+1,by omega,by go_num,HF.out,HB1.out⟩
      case measure=>simp[intOf]; omega
     ·obtain⟨ip,hrp⟩: ∃ip,l[k-1]? =some ip:=⟨l[k-1],by simp⟩;obtain⟨b2,o2,ca2,cc2,e2,-,-,-,-,hcl2⟩:=dy HV.out HB.out hrp
      cases e2
      have p0:=hcl2 0 (by omega);simp only[cP,List.getElem?_cons_zero,Nat.add_zero]at p0;have HPR:=ab (show fM l k=some ip.name from rV (by omega) hrp);clear hcl2 hrp;have hb0:(0:Int)<=(k:Int)-1:=by omega
      have hbn:(k:Int)-1<(l.length:Int):=by omega
      have ek:decide (0<k)=true:=by simp; omega
      cases hlt2:CK ip.name it.name
      ·have e3:Op.bytesLess ip.name.toList it.name.toList=false:=hlt2;have HF:=ab (show cz none l=false by rw[HA.out,dH HR.out,HVI.out,HPR.out]; simp[gi,hlt2]);clear hlt2;go_wp2_with fail;refine am [some 1,none,some 16] (by kernel_rfl) (by kernel_rfl) (by kernel_rfl) ?_;simp only[aZ,List.take_succ_cons,List.take_zero,List.drop_succ_cons,List.drop_zero]
       repeat (first | (refine aw rfl ?_; simp only[Act.put,aA,aB,aC]) | (refine aJ rfl (fun K hK=> ?_); go_simp; refine hK _ ?_; clear hK K))
       refine aI ?_;have HV2:=ab (show aM S (wr.alloc (.cells #[.string it.name, .int .i64 it.kind, .int .i64 it.mode, .int .i64 it.time, .int .i64 it.size, .string it.link, .slice ca it.chunks.length cc, .string it.node.name, .int .i64 it.node.gen, .int .i64 it.node.size] 28)).drew (.slice ca it.chunks.length cc) it.chunks from aL.below HRF.out (by omega) (((Below.refl _ _).alloc (Nat.le_refl _) _).drew) (fun _ _ _ h=>h))
       have HE2:=ab (show fE (wr.alloc (.cells #[.string it.name, .int .i64 it.kind, .int .i64 it.mode, .int .i64 it.time, .int .i64 it.size, .string it.link, .slice ca it.chunks.length cc, .string it.node.name, .int .i64 it.node.gen, .int .i64 it.node.size] 28)).drew from HE.out.below ((HB.out.alloc HB.out.size _).drew));refine bw rfl (fun K hK=> ?_);go_wp2_with (go_at_call 96; refine(gk S it (.slice ca it.chunks.length cc) true _ HV2.out HO.out HE2.out HVI.out).mono ?_; rintro e w1 ⟨rfl,hb1⟩)
       have HB1:=ab (ag ((HB.out.alloc HB.out.size _).drew) hb1);have HB1r:=ab (((Below.refl _ _).alloc (Nat.le_refl _) (.cells #[.string it.name, .int .i64 it.kind, .int .i64 it.mode, .int .i64 it.time, .int .i64 it.size, .string it.link, .slice ca it.chunks.length cc, .string it.node.name, .int .i64 it.node.gen, .int .i64 it.node.size] 28)).drew.trans (hb1.mono (by simp)));have n0:w1.cell? ⟨wr.heap.size,0,none⟩=some (.string it.name):=(hb1.cell (p:=⟨wr.heap.size,0,none⟩) (by simp)).trans (ah (heap_alloc_new wr _))
       clear hb1;have p1:w1.cell? ⟨b,o+(k-1)*10,none⟩=some (.string ip.name):=(HB1r.out.cell (p:=⟨b,o+(k-1)*10,none⟩) (by show b<wr.heap.size; omega)).trans p0;have hs1:IntKind.i64.wrap ((k:Int)-1)=(k:Int)-1:=IntWalk.i64_in _ (by omega);have hs2:((k:Int)-1).toNat=k-1:=by omega
       have hs3:(1:Int)<=(k:Int):=by omega
       have hs4:1<=k:=by omega
       have hs5:0<k:=by omega
       repeat (first | (refine aw rfl ?_; simp only[Act.put,aA,aB,aC]) | (refine aJ rfl (fun K hK=> ?_); go_simp; refine hK _ ?_; clear hK K))
       refine aI ?_;clear hs1 hs2;go_wp2_with fail;go_ret;exact⟨an (by rw[HN.out,HF.out]),HB1.out⟩
      ·have e3:Op.bytesLess ip.name.toList it.name.toList=true:=hlt2;have HF:=ab (show cz none l=cz (fM l (k+1)) (l.drop (k+1)) by rw[HA.out,dH HR.out,HVI.out,HPR.out]; simp[gi,hlt2]);clear hlt2;go_wp2_with fail;refine am [some 1,none,some 16] (by kernel_rfl) (by kernel_rfl) (by kernel_rfl) ?_;simp only[aZ,List.take_succ_cons,List.take_zero,List.drop_succ_cons,List.drop_zero]
       repeat (first | (refine aw rfl ?_; simp only[Act.put,aA,aB,aC]) | (refine aJ rfl (fun K hK=> ?_); go_simp; refine hK _ ?_; clear hK K))
       refine aI ?_;have HV2:=ab (show aM S (wr.alloc (.cells #[.string it.name, .int .i64 it.kind, .int .i64 it.mode, .int .i64 it.time, .int .i64 it.size, .string it.link, .slice ca it.chunks.length cc, .string it.node.name, .int .i64 it.node.gen, .int .i64 it.node.size] 28)).drew (.slice ca it.chunks.length cc) it.chunks from aL.below HRF.out (by omega) (((Below.refl _ _).alloc (Nat.le_refl _) _).drew) (fun _ _ _ h=>h))
       have HE2:=ab (show fE (wr.alloc (.cells #[.string it.name, .int .i64 it.kind, .int .i64 it.mode, .int .i64 it.time, .int .i64 it.size, .string it.link, .slice ca it.chunks.length cc, .string it.node.name, .int .i64 it.node.gen, .int .i64 it.node.size] 28)).drew from HE.out.below ((HB.out.alloc HB.out.size _).drew));refine bw rfl (fun K hK=> ?_);go_wp2_with (go_at_call 96; refine(gk S it (.slice ca it.chunks.length cc) true _ HV2.out HO.out HE2.out HVI.out).mono ?_; rintro e w1 ⟨rfl,hb1⟩)
       have HB1:=ab (ag ((HB.out.alloc HB.out.size _).drew) hb1);have HB1r:=ab (((Below.refl _ _).alloc (Nat.le_refl _) (.cells #[.string it.name, .int .i64 it.kind, .int .i64 it.mode, .int .i64 it.time, .int .i64 it.size, .string it.link, .slice ca it.chunks.length cc, .string it.node.name, .int .i64 it.node.gen, .int .i64 it.node.size] 28)).drew.trans (hb1.mono (by simp)));have n0:w1.cell? ⟨wr.heap.size,0,none⟩=some (.string it.name):=(hb1.cell (p:=⟨wr.heap.size,0,none⟩) (by simp)).trans (ah (heap_alloc_new wr _))
       clear hb1;have p1:w1.cell? ⟨b,o+(k-1)*10,none⟩=some (.string ip.name):=(HB1r.out.cell (p:=⟨b,o+(k-1)*10,none⟩) (by show b<wr.heap.size; omega)).trans p0;have hs1:IntKind.i64.wrap ((k:Int)-1)=(k:Int)-1:=IntWalk.i64_in _ (by omega);have hs2:((k:Int)-1).toNat=k-1:=by omega
       have hs3:(1:Int)<=(k:Int):=by omega
       have hs4:1<=k:=by omega
       have hs5:0<k:=by omega
       repeat (first | (refine aw rfl ?_; simp only[Act.put,aA,aB,aC]) | (refine aJ rfl (fun K hK=> ?_); go_simp; refine hK _ ?_; clear hK K))
       refine aI ?_;clear hs1 hs2;go_wp2_with fail
       go_roundw
       case rel=>exact⟨k+1,by omega,by go_num,HF.out,HB1.out⟩
       case measure=>simp[intOf]; omega
   ·go_wp2_with fail;go_ret;exact⟨an (by rw[HN.out,HA.out,List.drop_of_length_le (by omega)]; simp[cz]),HB.out⟩
end Go.Proofs.YtpffpjbkbaleiaaGreatDoor
namespace Go.Proofs.YtpffpjbkbaleiaaGreatDoor
open Go
section
variable {P : Program} {md : Region.Mode} {Q : Exit → Act → World → Prop}
def qT (P:Program) (ops:Array Oper) (m:Nat) (Q:Exit->Act->World->Prop):Exit->Act->World->Prop
 | .normal,a,w=>wpOp P ops Q m (fun a' w'=>Q .normal a' w') a w
 | e,a,w=>Q e a w
def vm (md:Region.Mode) (L:List Oper):Bool:=
 wT md L.toArray (L.length-1) && decide (0<L.length) &&
 ((List.range L.length).all fun i=>match L[i]? with | some x=>x.after.all (fun e=>decide (e.on<i)) && (match x.guard with | none=>true | some (j,_)=>decide (j<i)) | none=>true)
theorem tD {L:List Oper} {i:Nat} (hi:i<L.length-1):L.dropLast.toArray[i]? =L.toArray[i]? :=by
 simp[hi]
theorem DW {L:List Oper} {i m:Nat} (hi:i<L.length-1) (hg: ∀(x:Oper) (j:Nat) (b:Bool),L[i]? =some x->x.guard=some (j,b)->j<i) {K:Act->World->Prop} {a:Act} {w:World}
  (h:wpOp P L.dropLast.toArray (qT P L.toArray m Q) i K a w):wpOp P L.toArray Q i K a w:=by
 unfold wpOp at h ⊢;rw[tD hi]at h
 cases hx:L.toArray[i]? with
 | none=>rw[hx]at h; exact h
 | some x=>
  rw[hx]at h;simp only at h ⊢;have hw:Region.wanted x (yielded L.dropLast.toArray a.tmps)=Region.wanted x (yielded L.toArray a.tmps):=by
   unfold Region.wanted
   cases hgd:x.guard with
   | none=>rfl
   | some p=>
    obtain⟨j,b⟩:=p;have hj:=hg x j b (by simpa using hx) hgd;simp only[yielded];rw[tD (by omega)]
  rw[hw]at h
  split at h
  ·rename_i hh;rw[if_pos hh];exact h
  ·rename_i hh;rw[if_neg hh];exact h
theorem sL {ops:Array Oper} {listed:Array Bool} {a:Act} {w:World} (hr:Region.ready md ops listed=[]) (h:Q .normal a w): ∀fuel,wpAny P md ops Q fuel listed a w
 | 0=>⟨hr,h⟩
 | _+1=>⟨fun _=>h,by rw[hr]; simp⟩
theorem kB {L:List Oper} {i:Nat} {listed:Array Bool} (hi:i<L.length-1):i∈Region.ready md L.dropLast.toArray listed<->i∈Region.ready md L.toArray listed:=by
 rw[mem_ready,mem_ready,tD hi]
theorem yK {listed:Array Bool} {i:Nat} (hi:i<listed.size) (h:listed.getD i true=true):listed.getD i false=true:=by
 simp[hi]at h ⊢; exact h
theorem ka {L:List Oper} {i:Nat} {listed:Array Bool} (h:i∈Region.ready md L.toArray listed):i<L.length:=by
 obtain⟨_,o,ho,_⟩:=mem_ready.1 h
 simpa using (Array.getElem?_eq_some_iff.1 ho).1
theorem BT {L:List Oper} {listed:Array Bool} (hs:listed.size=L.length) (hback: ∀(i:Nat) (x:Oper),L[i]? =some x-> ∀e∈x.after,e.on<i) (hr:Region.ready md L.dropLast.toArray listed=[]):
  ∀(n i:Nat),i<n->i<L.length-1->listed.getD i true=true
 | 0,i,hn,_=>by omega
 | n+1,i,hn,hi=>by
  cases hg:listed.getD i true with
  | true=>rfl
  | false=>
   exfalso
   obtain⟨x,hx⟩: ∃x,L[i]? =some x:=⟨L[i]'(by omega),by simp⟩;have:i∈Region.ready md L.dropLast.toArray listed:=by
    rw[kB hi,mem_ready];refine⟨hg,x,by simpa using hx,fun e he _=> ?_⟩;have hb:=hback i x hx e he;exact yK (by omega) (BT hs hback hr n e.on (by omega) (by omega))
   rw[hr]at this
   cases this
theorem yy {L:List Oper} (hc:wT md L.toArray (L.length-1)=true) (hpos:0<L.length) (hback: ∀(i:Nat) (x:Oper),L[i]? =some x-> ∀e∈x.after,e.on<i) (hg: ∀(i:Nat) (x:Oper) (j:Nat) (b:Bool),L[i]? =some x->x.guard=some (j,b)->j<i):
  ∀(fuel:Nat) (listed:Array Bool) (a:Act) (w:World),HeadInv md L.toArray (L.length-1) listed->wpAny P md L.dropLast.toArray (qT P L.toArray (L.length-1) Q) fuel listed a w->wpAny P md L.toArray Q (fuel+1) listed a w:=by
 have hlast: ∀listed:Array Bool,HeadInv md L.toArray (L.length-1) listed->Region.ready md L.dropLast.toArray listed=[]->(L.length-1)∈Region.ready md L.toArray listed:=fun listed inv hr=>by
  have hs:listed.size=L.length:=by simpa using inv.size
  obtain⟨x,hx⟩: ∃x,L[L.length-1]? =some x:=⟨L[L.length-1]'(by omega),by simp⟩;rw[mem_ready];refine⟨inv.tail _ (Nat.le_refl _) (by simp; omega),x,by simpa using hx,fun e he _=> ?_⟩;have hb:=hback _ x hx e he;exact yK (by omega) (BT hs hback hr L.length e.on (by omega) (by omega))
 have hne: ∀listed:Array Bool,HeadInv md L.toArray (L.length-1) listed->Region.ready md L.toArray listed≠[]:=fun listed inv e=>by
  cases hr:Region.ready md L.dropLast.toArray listed with
  | nil=>have:=hlast listed inv hr; rw[e]at this; cases this
  | cons i r=>
   have hi:i∈Region.ready md L.dropLast.toArray listed:=by rw[hr]; simp
   have hlt:=ka hi;simp only[List.length_dropLast]at hlt;rw[kB hlt,e]at hi
   cases hi
 have hfin: ∀listed:Array Bool,HeadInv md L.toArray (L.length-1) listed->(L.length-1)∈Region.ready md L.toArray listed->Region.ready md L.dropLast.toArray listed=[]/\Region.ready md L.toArray (listed.setIfInBounds (L.length-1) true)=[]:=fun listed inv hm=>by
  have hs:listed.size=L.length:=by simpa using inv.size
  have hall: ∀i,i<L.length-1->listed.getD i true=true:=fun i hi=>by
   cases hgd:listed.getD i true with
   | true=>rfl
   | false=>exact absurd hm (mA hc inv _ i rfl hi hgd _ (Nat.le_refl _))
  constructor
  ·rw[List.eq_nil_iff_forall_not_mem];intro i hi;have hlt:=ka hi;simp only[List.length_dropLast]at hlt;have:=(mem_ready.1 hi).1;rw[hall i hlt]at this
   cases this
  ·rw[List.eq_nil_iff_forall_not_mem];intro i hi;have hlt:=ka hi;have h1:=(mem_ready.1 hi).1
   by_cases e:i=L.length-1
   ·rw[e]at h1;simp[hs]at h1
   ·rw[getD_set_ne true (Ne.symm e),hall i (by omega)]at h1
    cases h1
 intro fuel
 induction fuel with
 | zero=>
  intro listed a w inv h;refine⟨fun e=>absurd e (hne listed inv),fun i hi=> ?_⟩;have hlt:=ka hi
  by_cases e:i=L.length-1
  ·subst e;exact wpOp_mono (fun a' w' h'=>sL (hfin listed inv hi).2 h' 0) h.2
  ·have:=(kB (by omega)).2 hi;rw[h.1]at this
   cases this
 | succ fuel ih=>
  intro listed a w inv h;refine⟨fun e=>absurd e (hne listed inv),fun i hi=> ?_⟩;have hlt:=ka hi
  by_cases e:i=L.length-1
  ·subst e;exact wpOp_mono (fun a' w' h'=>sL (hfin listed inv hi).2 h' (fuel+1)) (h.1 (hfin listed inv hi).1)
  ·have hi':i<L.length-1:=by omega
   refine DW hi' (fun x j b hx hgd=>hg i x j b hx hgd) (wpOp_mono (fun a' w' h'=>ih _ a' w' (inv.set hi hi') h') (h.2 i ((kB hi').2 hi)))
theorem uP {ops:Array Oper} {m:Nat} :HeadInv md ops m (Array.replicate ops.size false):=by
 refine⟨by simp,fun j oj hj hl=> ?_,fun t _ ht=>by simp[ht]⟩;have:=(Array.getElem?_eq_some_iff.1 hj).1;simp[this]at hl
theorem bP {id:Nat} {a:Act} {w:World} {L:List Oper} (S:World->Prop) (hm:P.follows .mixedOrders=true) (hB:vm .any L=true)
  (h:lD P L.dropLast.toArray (qT P L.toArray (L.length-1) Q) S (L.length-1) (Array.replicate L.length false) a w.drew):(Code.region id L.toArray true).wp P Q a w:=by
 simp only[vm,Bool.and_eq_true,decide_eq_true_eq]at hB;obtain⟨⟨hc,hpos⟩,hall⟩:=hB;have hall': ∀(i:Nat) (x:Oper),L[i]? =some x->(∀e∈x.after,e.on<i)/\ ∀j b,x.guard=some (j,b)->j<i:=fun i x hx=>by
  have:=List.all_eq_true.1 hall i (List.mem_range.2 (List.getElem?_eq_some_iff.1 hx).1);rw[hx]at this;simp only[Bool.and_eq_true]at this;refine⟨fun e he=> ?_,fun j b hg=> ?_⟩
  ·have:=Array.all_eq_true'.1 this.1 e he
   simpa using this
  ·have:=this.2;rw[hg]at this
   simpa using this
 refine wp_region_any hm ?_;have:=yy hc hpos (fun i x hx=>(hall' i x hx).1) (fun i x j b hx=>(hall' i x hx).2 j b) (L.length-1) _ a w.drew uP (wpAny_of_held _ _ _ _ (by simpa using h.out));rw[show L.length-1+1=L.length by omega]at this
 simpa using this
theorem bX {L:List Oper} {m:Nat} {a:Act} {w:World} {dst:Option Tmp} {op:Op} {ty:TypeId} {pos:String} {aft:Array Edge} {g:Option (Nat×Bool)} (hi:L[m]? =some ⟨dst,op,ty,pos,aft,g⟩) (hw:Region.wanted ⟨dst,op,ty,pos,aft,g⟩ (yielded L.toArray a.tmps)=true)
  (h: ∀K:Act->World->Prop,(∀a w,Q .normal a w->K a w)->wpList P #[] (Exit.then K Q) [⟨dst,op,ty,pos, #[],none⟩] a w):qT P L.toArray m Q .normal a w:=by
 show wpOp P L.toArray Q m _ a w
 have hb:nP P L.toArray (fun a' w'=>Q .normal a' w') Q [⟨dst,op,ty,pos,aft,g⟩] a w:=bw hw (fun K hK=>h K (fun a w hh=>hK a w hh));unfold wpOp;have hi':L.toArray[m]? =some ⟨dst,op,ty,pos,aft,g⟩:=by simpa using hi
 simp only[hi'];exact nP.out hb
end
end Go.Proofs.YtpffpjbkbaleiaaGreatDoor
namespace Go.Proofs.YtpffpjbkbaleiaaGreatDoor
open Go.RowKit
theorem Tryz.appBytes :eW Tryz.prog 29 5 1 1:=eW.mk' (z:= .int .u8 0) Tryz.underlying29 (by kernel_rfl) rfl (by decide) (by decide)
theorem Tryz.appRefs :eW Tryz.prog 24 26 3 32:=eW.mk' (z:= .agg #[.string ⟨#[]⟩, .int .i64 0, .int .i64 0]) Tryz.underlying24 (by kernel_rfl) rfl (by decide) (by decide)
theorem Tryz.appItems :eW Tryz.prog 22 28 10 120:=eW.mk' (z:= .agg #[.string ⟨#[]⟩, .int .i64 0, .int .i64 0, .int .i64 0, .int .i64 0, .string ⟨#[]⟩, .slice none 0 0, .string ⟨#[]⟩, .int .i64 0, .int .i64 0]) Tryz.underlying22 (by kernel_rfl) rfl (by decide) (by decide)
def aD (S:Nat->Prop) (w:World) (v:Value) (bs:List UInt8):Prop:=aS S w 1 v bs.length (bs.map au)
def Gp (bs:List UInt8) (w:World) (e:Ending) (w':World):Prop:= ∃rb dv,e= .returned (.pointer (some ⟨rb,0,none⟩))/\w.heap.size<=rb/\lE w' rb dv bs ⟨0,0,0⟩/\Below w.heap.size w w'
theorem eq (bs:List UInt8): ∀u∈bs.map au,u.oneCell'=true:=fun u hu=>by
 obtain⟨b,_,rfl⟩:=List.mem_map.1 hu
 rfl
theorem qF (S:Nat->Prop) (bs:List UInt8) (v:Value) (w:World) (hv:aD S w v bs) (hl:bs.length<=32768):Calls Tryz.prog 58 #[v] w (Gp bs w):=by
 obtain⟨_,a,cap,rfl,hn,hm,-⟩:=id hv;unfold maxLen at hm;have HV:=ab (show aS S (w.alloc (.cells #[] 5)) 1 (.slice a bs.length cap) bs.length (bs.map au)from aS.below hv (by omega) ((Below.refl _ _).alloc (Nat.le_refl _) _));have HO:=ab (World.ownsRow_made (base:=w.heap.size) (e:=5) (size:=1) w #[] 0 (Nat.le_refl _) (by unfold maxLen; omega) rfl);clear hv
 go_enter Tryz.func58,Tryz.ntmps58
 go_wp2_with (at_builtin; go_must (refine fa Tryz.appBytes rfl _ _ rfl w.heap.size _ 0 [] rfl HO.out _ bs.length (bs.map au) rfl HV.out (eq bs) (by omega) (by simp) ?_); intro v5 w5 hown5 hgrow5; rw[Nat.zero_add,List.nil_append]at hown5; have HO5:=ab hown5; obtain⟨a5,c5,rfl,hn5,hm5⟩:=aj hown5; have HB5:=ab (show Below w.heap.size w w5 from cJ ((Below.refl w.heap.size w).alloc (Nat.le_refl _) _) HO.out hgrow5 (Nat.le_refl _) (by simp)); clear hown5 hgrow5)
 go_ret;refine⟨w5.heap.size,_,rfl,HB5.out.size,⟨heap_alloc_new w5 _, ?_,Nat.zero_le _,Nat.zero_le _,hl⟩,HB5.out.alloc HB5.out.size _⟩;have hr:=aS.below (bq HO5.out) (by omega) ((Below.refl w5.heap.size w5).alloc (Nat.le_refl _) (.cells #[.slice a5 bs.length c5, .int .i64 0, .int .i64 0, .int .i64 0] 165));refine hr.weak (fun k hk e=> ?_);have:=(HO5.out.lt k hk.2).2;omega
def dp (data:List UInt8) (s0:RS):Nat->List aG×RS
 | 0=>([],s0)
 | k+1=>((dp data s0 k).1++[(iG data (dp data s0 k).2).1],(iG data (dp data s0 k).2).2)
def eL (data:List UInt8) (nm:List UInt8) (kd md td:Nat) (s:RS):Option (aE×RS):=
 if eY kd=1 then some (⟨⟨nm.toArray⟩,eY kd,eY md,eY td,dt (dp data (kY data 963 s).2 (kY data 963 s).1).1,⟨#[]⟩,(dp data (kY data 963 s).2 (kY data 963 s).1).1,bi⟩,(dp data (kY data 963 s).2 (kY data 963 s).1).2)
 else if eY kd=2 then some (⟨⟨nm.toArray⟩,eY kd,eY md,eY td,0,⟨#[]⟩,[],(iG data s).1⟩,(iG data s).2)
 else if eY kd=3 then some (⟨⟨nm.toArray⟩,eY kd,eY md,eY td,0,⟨(qO data 512 s).1.toArray⟩,[],bi⟩,(qO data 512 s).2)
 else none
def dY (data:List UInt8) (s:RS):Option (aE×RS):=
 eL data (qO data 64 s).1 (kk data (qO data 64 s).2).1 (kk data (kk data (qO data 64 s).2).2).1 (kk data (kk data (kk data (qO data 64 s).2).2).2).1 (kk data (kk data (kk data (qO data 64 s).2).2).2).2
theorem xt {data:List UInt8} {s s2 s3 s4 s5:RS} {nm:List UInt8} {kd md td:Nat} (h1:qO data 64 s=(nm,s2)) (h2:kk data s2=(kd,s3)) (h3:kk data s3=(md,s4)) (h4:kk data s4=(td,s5)):dY data s=eL data nm kd md td s5:=by
 have e1:(qO data 64 s).1=nm:=by rw[h1]
 have e2:(qO data 64 s).2=s2:=by rw[h1]
 have e3:(kk data s2).1=kd:=by rw[h2]
 have e4:(kk data s2).2=s3:=by rw[h2]
 have e5:(kk data s3).1=md:=by rw[h3]
 have e6:(kk data s3).2=s4:=by rw[h3]
 have e7:(kk data s4).1=td:=by rw[h4]
 have e8:(kk data s4).2=s5:=by rw[h4]
 unfold dY;rw[e2,e4,e6,e1,e3,e5,e7,e8]
theorem xn {data:List UInt8} {s s1 s2:RS} {nm:List UInt8} {kd md td n:Nat} {ch:List aG} (hk:eY kd=1) (h1:kY data 963 s=(n,s1)) (h2:dp data s1 n=(ch,s2)):eL data nm kd md td s=some (⟨⟨nm.toArray⟩,eY kd,eY md,eY td,dt ch,⟨#[]⟩,ch,bi⟩,s2):=by
 have e1:(kY data 963 s).1=n:=by rw[h1]
 have e2:(kY data 963 s).2=s1:=by rw[h1]
 have e3:(dp data s1 n).1=ch:=by rw[h2]
 have e4:(dp data s1 n).2=s2:=by rw[h2]
 unfold eL;rw[if_pos hk,e1,e2,e3,e4]
theorem zU {data:List UInt8} {s s1:RS} {nm:List UInt8} {kd md td:Nat} {r:aG} (hk:eY kd=2) (h1:iG data s=(r,s1)):eL data nm kd md td s=some (⟨⟨nm.toArray⟩,eY kd,eY md,eY td,0,⟨#[]⟩,[],r⟩,s1):=by
 have e1:(iG data s).1=r:=by rw[h1]
 have e2:(iG data s).2=s1:=by rw[h1]
 have hk1: ¬eY kd=1:=by rw[hk]; omega
 unfold eL;rw[if_neg hk1,if_pos hk,e1,e2]
theorem xp {data:List UInt8} {s s1:RS} {nm lk:List UInt8} {kd md td:Nat} (hk:eY kd=3) (h1:qO data 512 s=(lk,s1)):eL data nm kd md td s=some (⟨⟨nm.toArray⟩,eY kd,eY md,eY td,0,⟨lk.toArray⟩,[],bi⟩,s1):=by
 have e1:(qO data 512 s).1=lk:=by rw[h1]
 have e2:(qO data 512 s).2=s1:=by rw[h1]
 have hk1: ¬eY kd=1:=by rw[hk]; omega
 have hk2: ¬eY kd=2:=by rw[hk]; omega
 unfold eL;rw[if_neg hk1,if_neg hk2,if_pos hk,e1,e2]
theorem xq {data:List UInt8} {s:RS} {nm:List UInt8} {kd md td:Nat} (hk1: ¬eY kd=1) (hk2: ¬eY kd=2) (hk3: ¬eY kd=3):eL data nm kd md td s=none:=by
 unfold eL;rw[if_neg hk1,if_neg hk2,if_neg hk3]
def ei (data:List UInt8) (s0:RS):Nat->Option (List aE×RS)
 | 0=>some ([],s0)
 | k+1=>(ei data s0 k).bind fun p=>(dY data p.2).map fun q=>(p.1++[q.1],q.2)
def bE (data:List UInt8):Option (List aE):=
 if 32768<data.length then none else
 (ei data (kY data 4096 ⟨0,0,0⟩).2 (kY data 4096 ⟨0,0,0⟩).1).bind fun p=>if fh data p.2=0/\cd p.1=true then some p.1 else none
theorem fJ (data:List UInt8) (s0:RS) (k:Nat):ei data s0 (k+1)=(ei data s0 k).bind fun p=>(dY data p.2).map fun q=>(p.1++[q.1],q.2):=rfl
theorem uY {data:List UInt8} {s0:RS} {k:Nat} (h:ei data s0 k=none): ∀n,k<=n->ei data s0 n=none:=by
 intro n hn
 induction n with
 | zero=>
  obtain rfl:k=0:=by omega
  exact h
 | succ n ih=>
  by_cases e:k=n+1
  ·rw[<-e]; exact h
  ·rw[fJ,ih (by omega),Option.bind_none]
theorem zv {α β γ:Type} {x:Option α} {f:α->Option β} {g:α->β->γ} {a:α} {b:β} (h:x=some a) (h1:f a=some b):(x.bind fun p=>(f p).map fun q=>g p q)=some (g a b):=by subst h; rw[Option.bind_some,h1]; rfl
theorem zw {α β γ:Type} {x:Option α} {f:α->Option β} {g:α->β->γ} {a:α} (h:x=some a) (h1:f a=none):(x.bind fun p=>(f p).map fun q=>g p q)=none:=by subst h; rw[Option.bind_some,h1]; rfl
theorem jV {data:List UInt8} {s0 s s1:RS} {k:Nat} {l:List aE} {it:aE} (h:ei data s0 k=some (l,s)) (h1:dY data s=some (it,s1)):ei data s0 (k+1)=some (l++[it],s1):=by
 rw[fJ]; exact zv (f:=fun p:List aE×RS=>dY data p.2) (g:=fun p q=>(p.1++[q.1],q.2)) h h1
theorem uZ {data:List UInt8} {s0 s:RS} {k:Nat} {l:List aE} (h:ei data s0 k=some (l,s)) (h1:dY data s=none):ei data s0 (k+1)=none:=by
 rw[fJ]; exact zw (f:=fun p:List aE×RS=>dY data p.2) (g:=fun p q=>(p.1++[q.1],q.2)) h h1
theorem oI (data:List UInt8) (s0:RS): ∀k,(dp data s0 k).1.length=k
 | 0=>rfl
 | k+1=>by rw[dp]; simp[oI data s0 k]
theorem rg (data:List UInt8) (s0:RS): ∀k,∀r∈(dp data s0 k).1,aW r
 | 0=>by simp[dp]
 | k+1=>fun r hr=>by
  rw[dp]at hr;simp only[List.mem_append,List.mem_singleton]at hr
  rcases hr with hr | rfl
  ·exact rg data s0 k r hr
  ·exact yY _ _
theorem oN (data:List UInt8) (most:Nat) (s:RS):(kY data most s).1<=most:=by
 unfold kY rv
 split
 ·split
  ·rename_i x o h;exact(eX h).1
  ·exact Nat.zero_le _
 ·exact Nat.zero_le _
theorem tS (data:List UInt8) (most:Nat) (s:RS):(qO data most s).1.length<=most:=by
 unfold qO rv
 split
 ·split
  ·rename_i x o h;unfold cu at h
   split at h
   ·simp at h
   ·rename_i n o' hn;unfold cK at h
    split at h
    ·simp at h
    ·simp only[Except.ok.injEq,Prod.mk.injEq]at h;obtain⟨rfl,rfl⟩:=h;have:=(eX hn).1
     simp; omega
  ·exact Nat.zero_le _
 ·exact Nat.zero_le _
structure ee (rb ib : Nat) (wr wc : World) (dv : Value) (data : List UInt8) (s : RS) (cs : Array Value) : Prop where
 rd:lE wc rb dv data s
 rd0: ∃s0,lE wr rb dv data s0
 box:wc.heap[ib]? =some (.cells cs 28 (0,0))
 grown:wr.grownBy wc (some rb)
 ge:wr.heap.size<=ib
theorem ee.lt {rb ib:Nat} {wr wc:World} {dv:Value} {data:List UInt8} {s:RS} {cs:Array Value} (h:ee rb ib wr wc dv data s cs):rb<wr.heap.size:=by
 obtain⟨s0,h0⟩:=h.rd0;exact aQ.lt h0
theorem ee.call {rb ib:Nat} {wr wc w':World} {dv:Value} {data:List UInt8} {s s':RS} {cs:Array Value} (h:ee rb ib wr wc dv data s cs) (h1:lE w' rb dv data s') (h2:wc.grownBy w' (some rb)):ee rb ib wr w' dv data s' cs:=
 ⟨h1,h.rd0,dE h2 h.box (by have:=h.lt; have:=h.ge; omega),ak h.grown h2,h.ge⟩
theorem ee.set {rb ib:Nat} {wr wc:World} {dv:Value} {data:List UInt8} {s:RS} {cs:Array Value} (h:ee rb ib wr wc dv data s cs) (k:Nat) (x:Value):ee rb ib wr (wc.setCell ⟨ib,k,none⟩ x) dv data s (cs.setIfInBounds k x):=by
 obtain⟨s0,h0⟩:=h.rd0;exact⟨aQ.setOther h0 h.rd h.ge x,h.rd0,cI h.box x,bY h.grown h.ge x,h.ge⟩
theorem ee.below {rb ib:Nat} {wr wc w':World} {dv:Value} {data:List UInt8} {s:RS} {cs:Array Value} (h:ee rb ib wr wc dv data s cs) (hb:Below wc.heap.size wc w'):ee rb ib wr w' dv data s cs:=
 ⟨aQ.below h.rd hb,h.rd0,(hb.block ib ((Array.getElem?_eq_some_iff.1 h.box).1)).trans h.box,ak h.grown (aY hb _),h.ge⟩
theorem ee.start {rb:Nat} {wr w2:World} {dv:Value} {data:List UInt8} {s s2:RS} (h0:lE wr rb dv data s) (h1:lE w2 rb dv data s2) (h2:wr.grownBy w2 (some rb)) (cs:Array Value):
  ee rb w2.heap.size wr (w2.alloc (.cells cs 28)) dv data s2 cs:=
 ⟨aQ.below h1 ((Below.refl _ _).alloc (Nat.le_refl _) _),⟨s,h0⟩,heap_alloc_new w2 _,ak h2 (aY ((Below.refl _ _).alloc (Nat.le_refl _) _) _),h2.size⟩
theorem ee.cell {rb ib:Nat} {wr wc:World} {dv:Value} {data:List UInt8} {s:RS} {cs:Array Value} (h:ee rb ib wr wc dv data s cs) (k:Nat):wc.cell? ⟨ib,k,none⟩=cs[k]? :=ah h.box
theorem ee.free {rb ib:Nat} {wr wc:World} {dv:Value} {data:List UInt8} {s:RS} {cs:Array Value} (h:ee rb ib wr wc dv data s cs) (k:Nat):wc.frozen? ⟨ib,k,none⟩=false:=ai h.box
theorem aQ.keep {w1 wc w':World} {rb:Nat} {v:Value} {data:List UInt8} {off last off0 last0:Nat} {err err0:Int} (h0:aQ w1 rb v data off0 last0 err0) (h:aQ wc rb v data off last err) (hs: ∀k,k<w1.heap.size->w'.heap[k]? =wc.heap[k]?):aQ w' rb v data off last err:=by
 have h1:=h0.lt;have hr0:=h0.row.mono (T:=fun k=>k≠rb/\k<w1.heap.size) (fun k hk hS=>⟨hS,hk⟩) (by omega);obtain⟨_,a0,cap0,hv0,_,_,h00⟩:=hr0;obtain⟨hl,a,cap,hv,hn,hm,h2⟩:=h.row;refine⟨(hs rb h1).trans h.box,⟨hl,a,cap,hv,hn,hm, ?_⟩,h.le,h.ls,h.small⟩
 rcases h2 with h2 | ⟨bk,o,rfl,hk,hc⟩
 ·exact .inl h2
 ·rcases h00 with h00 | ⟨bk0,o0,rfl,hk0,_⟩
  ·exact .inl h00
  ·rw[hv0]at hv
   cases hv
   refine .inr ⟨bk,o,rfl,hk,fun j u hj=> ?_⟩;rw[<-hc j u hj];exact World.cell?_of_block (hs bk hk0.2)
theorem ee.app {rb ib:Nat} {wr wc w':World} {dv:Value} {data:List UInt8} {s:RS} {cs:Array Value} {r:Option Nat} (h:ee rb ib wr wc dv data s cs) (h2:wc.grownBy w' r) (hr: ∀k,r=some k->ib<k):ee rb ib wr w' dv data s cs:=by
 obtain⟨s0,h0⟩:=h.rd0;have hg:=h.grown.size;have hge:=h.ge;refine⟨aQ.keep h0 h.rd (fun k hk=>h2.block k (by omega) (fun e=>by have:=hr k e.symm; omega)),h.rd0, ?_, ?_,h.ge⟩
 ·exact(h2.block ib ((Array.getElem?_eq_some_iff.1 h.box).1) (fun e=>by have:=hr ib e.symm; omega)).trans h.box
 ·refine⟨h2.os.trans h.grown.os,h2.tape.trans h.grown.tape,h2.output.trans h.grown.output,Nat.le_trans hg h2.size,fun k hk hn=> ?_⟩;rw[h2.block k (by omega) (fun e=>by have:=hr k e.symm; omega)];exact h.grown.block k hk hn
theorem uo {data:List UInt8} {s0 s s1:RS} {k:Nat} {l:List aG} {r:aG} (h:dp data s0 k=(l,s)) (h1:iG data s=(r,s1)):dp data s0 (k+1)=(l++[r],s1):=by
 have e1:(dp data s0 k).1=l:=by rw[h]
 have e2:(dp data s0 k).2=s:=by rw[h]
 have e3:(iG data s).1=r:=by rw[h1]
 have e4:(iG data s).2=s1:=by rw[h1]
 rw[dp,e1,e2,e3,e4]
theorem gL {r:aG} : ∀u∈cG r,u.oneCell'=true:=by
 intro u hu;simp only[cG,List.mem_cons,List.not_mem_nil,or_false]at hu
 rcases hu with rfl | rfl | rfl<;> rfl
theorem rZ : ∀ {rs:List aG},(∀r∈rs,aW r)->bR fc (rs.flatMap cG) rs
 | [],_=>rfl
 | r::rs,h=>⟨cG r,rs.flatMap cG,rfl,⟨rfl,h r (by simp)⟩,rZ (fun x hx=>h x (by simp[hx]))⟩
theorem dr {w:World} {base:Nat} {v:Value} {rs:List aG} (h:w.ownsRow base 26 3 v rs.length (rs.flatMap cG)) (hok: ∀r∈rs,aW r):aM (fun k=>base<=k/\v.ownBlock=some k) w v rs:=
 ⟨rs.flatMap cG,bq h,rZ hok⟩
structure oh (w1 : World) (rb : Nat) (wr : World) (dv v : Value) (data : List UInt8) (s : RS) (l : List aE) : Prop where
 rd:lE wr rb dv data s
 rd1: ∃s0,lE w1 rb dv data s0
 row: ∃cells,wr.ownsRow w1.heap.size 28 10 v l.length cells/\bR (dO (fun k=>w1.heap.size<=k/\v.ownBlock≠some k) wr) cells l
 grown:w1.grownBy wr (some rb)
theorem aM.same {S T:Nat->Prop} {w w':World} {v:Value} {rs:List aG} (h:aM S w v rs) (hs: ∀k,k<w.heap.size->S k->T k/\w'.heap[k]? =w.heap[k]?):aM T w' v rs:=by
 obtain⟨cells,hr,hin⟩:=h;have h2:=hr.mono (T:=fun k=>k<w.heap.size/\S k) (fun k hk hS=>⟨hk,hS⟩) (by omega);have h3:=h2.same (w':=w') (fun k hk=>(hs k hk.1 hk.2).2);exact⟨cells,h3.weak (fun k hk=>(hs k hk.1 hk.2).1),hin⟩
theorem dO.same {S T:Nat->Prop} {w w':World} {c:List Value} {it:aE} (h:dO S w c it) (hs: ∀k,k<w.heap.size->S k->T k/\w'.heap[k]? =w.heap[k]?):dO T w' c it:=by
 obtain⟨cv,h1,h2,h3⟩:=h;exact⟨cv,h1,h2.same hs,h3⟩
theorem dV {a:Option Addr} {n c:Nat} {it:aE} : ∀u∈cP (.slice a n c) it,u.oneCell'=true:=by
 intro u hu;simp only[cP,List.mem_cons,List.not_mem_nil,or_false]at hu
 rcases hu with rfl | rfl | rfl | rfl | rfl | rfl | rfl | rfl | rfl | rfl<;> rfl
theorem oh.added {rb ib:Nat} {w1 wr wc w':World} {dv v v':Value} {data:List UInt8} {s s':RS} {l:List aE} {it:aE} {cv:Value} {cells:List Value} (h:oh w1 rb wr dv v data s l) (hm:ee rb ib wr wc dv data s' (cP cv it).toArray)
  (hcv:aM (wr.heap.size<= ·) wc cv it.chunks) (hok:cB it) (hrow:bR (dO (fun k=>w1.heap.size<=k/\v.ownBlock≠some k) wr) cells l) (hown:wr.ownsRow w1.heap.size 28 10 v l.length cells)
  (h1:w'.ownsRow w1.heap.size 28 10 v' (l.length+1) (cells++cP cv it)) (h2:wc.grownBy w' v.ownBlock) (h3: ∀k,v'.ownBlock=some k->v.ownBlock=some k\/wc.heap.size<=k):oh w1 rb w' dv v' data s' (l++[it]):=by
 have hlt:=hm.lt;have hgs:=hm.grown.size;have hg1:=h.grown.size;obtain⟨s0,h0⟩:=h.rd1;have hlt1:=aQ.lt h0;have hown0: ∀k,v.ownBlock=some k->w1.heap.size<=k/\k<wr.heap.size:=fun k hk=>hown.lt k hk
 refine⟨?_,h.rd1,⟨cells++cP cv it,by simpa using h1, ?_⟩, ?_⟩
 ·exact aQ.keep h0 hm.rd (fun k hk=>h2.block k (by omega) (fun e=>by have:=hown0 k e.symm; omega))
 ·refine bR.snoc (hrow.mono (fun c x _ hx=>hx.same (fun k hk hS=>⟨⟨hS.1,fun e=> ?_⟩, ?_⟩))) ⟨cv,rfl,hcv.same (fun k hk hS=>⟨⟨by omega,fun e=> ?_⟩, ?_⟩),hok⟩
  ·rcases h3 k e with e | e
   ·have:=hown0 k e; omega
   ·omega
  ·exact h2.block k hk (fun e=>by have:=hown0 k e.symm; omega)
  ·rcases h3 k e with e | e
   ·exact hS.2 e
   ·omega
  ·rw[h2.block k (by omega) (fun e=>hS.2 e.symm)];exact hm.grown.block k hk (by simp; omega)
 ·refine⟨h2.os.trans (hm.grown.os.trans h.grown.os),h2.tape.trans (hm.grown.tape.trans h.grown.tape),h2.output.trans (hm.grown.output.trans h.grown.output),Nat.le_trans hg1 (Nat.le_trans hgs h2.size),fun k hk hn=> ?_⟩;rw[h2.block k (by omega) (fun e=>by have:=hown0 k e.symm; omega),hm.grown.block k (by omega) hn];exact h.grown.block k hk hn
def ub (data:List UInt8) (w:World) (e:Ending) (w':World):Prop:=Below w.heap.size w w'/\match bE data with
 | none=>e= .returned (.tuple #[.slice none 0 0, .int .i64 3])
 | some l=> ∃v,e= .returned (.tuple #[v, .int .i64 0])/\ba (w.heap.size<= ·) w' v l
theorem pw {data:List UInt8} (h:32768<data.length):bE data=none:=by unfold bE; rw[if_pos h]
theorem rK {data:List UInt8} (h: ¬32768<data.length) {n:Nat} {s1:RS} (h1:kY data 4096 ⟨0,0,0⟩=(n,s1)):bE data=(ei data s1 n).bind fun p=>if fh data p.2=0/\cd p.1=true then some p.1 else none:=by
 unfold bE; rw[if_neg h,h1]
theorem vd {data:List UInt8} (h: ¬32768<data.length) {n:Nat} {s1:RS} (h1:kY data 4096 ⟨0,0,0⟩=(n,s1)) (h2:ei data s1 n=none):bE data=none:=by
 rw[rK h h1,h2]; rfl
theorem ve {data:List UInt8} (h: ¬32768<data.length) {n:Nat} {s1 s2:RS} {l:List aE} (h1:kY data 4096 ⟨0,0,0⟩=(n,s1)) (h2:ei data s1 n=some (l,s2)):bE data=if fh data s2=0/\cd l=true then some l else none:=by
 rw[rK h h1,h2]; rfl
theorem pM {w w':World} {base:Nat} {e:TypeId} {sz:Nat} {v:Value} {n:Nat} {xs:List Value} (h:w.ownsRow base e sz v n xs) (hb:Below w.heap.size w w'):w'.ownsRow base e sz v n xs:=
 h.kept (aY hb none) (by cases v.ownBlock<;> simp)
open Go Go.RowKit
def bc (v:V8) (buf:List UInt8) (n:Nat):List Value:=v.list.map fO++(buf.map au++[.int .i64 (n:Int)])
def gT (w:World) (sb:Nat) (ty:TypeId) (rest:List Value) (data:List UInt8):Prop:=
 ∃buf:List UInt8,buf.length=64/\buf.take (data.length%64)=data.drop (64*(data.length/64))/\w.heap[sb]? =some (.cells (bc (eE data (data.length/64)) buf data.length++rest).toArray ty (0,0))
theorem aD.call {w w':World} {sb:Nat} {v:Value} {bs:List UInt8} (h:aD (· ≠sb) w v bs) (hg:w.grownBy w' (some sb)):aD (· ≠sb) w' v bs:=by
 have h2:=aS.mono (T:=fun k=>k≠sb/\k<w.heap.size) h (fun k hk hS=>⟨hS,hk⟩) (by omega);exact(aS.same h2 (fun k hk=>hg.block k hk.2 (fun e=>hk.1 (Option.some.inj e)))).weak (fun k hk=>hk.1)
theorem ly {S:Nat->Prop} {w:World} {a:Option Addr} {n cap:Nat} {bs:List UInt8} (h:aD S w (.slice a n cap) bs) {k:Nat} (hk:k<=bs.length):
  ∃a' cap',(∀w',(Instr.slice 29 (.slice a n cap) (some (.int .i64 (k:Int))) none none).run Tryz.prog w'= .ok (.slice a' (bs.drop k).length cap') w')/\aD S w (.slice a' (bs.drop k).length cap') (bs.drop k):=by
 obtain⟨hl,a0,cap0,hv,hn,hm,h0⟩:=h;simp only[Value.slice.injEq]at hv;obtain⟨rfl,rfl,rfl⟩:=hv;have hz: ∀w',(sizeOf (Tryz.prog.elem 29)).run Tryz.prog w'= .ok 1 w':=fun _=>by kernel_rfl
 refine⟨if cap=k then a else a.map (fun p=>p.add k),cap-k,fun w'=> ?_, ?_⟩
 ·rw[run_slice_l _ _ _ _ _ Tryz.underlying29 _ _ (by omega) (by omega),hz];simp only[Result.andThen,sliced,Int.toNat_natCast,Nat.mul_one,List.length_drop]
 ·refine⟨by simp,_,_,rfl,by rw[List.length_drop]; omega,by omega, ?_⟩
  rcases h0 with h0 | ⟨b,o,rfl,hS,hc⟩
  ·exact .inl (by rw[List.length_drop]; omega)
  ·by_cases hlen:(bs.drop k).length=0
   ·exact .inl hlen
   ·rw[List.length_drop]at hlen;refine .inr ⟨b,o+k, ?_,hS,fun j x hj=> ?_⟩
    ·rw[if_neg (by omega),Option.map_some,Addr.add_mid]
    ·rw[Nat.add_assoc];exact hc (k+j) x (by rw[<-hj,List.map_drop,List.getElem?_drop])
theorem wl {S:Nat->Prop} {w:World} {a:Option Addr} {n cap:Nat} {bs:List UInt8} (h:aD S w (.slice a n cap) bs) {k:Nat} (hk:k<=bs.length) (h0:0<k):
  (∀w',(Instr.slice 29 (.slice a n cap) none (some (.int .i64 (k:Int))) none).run Tryz.prog w'= .ok (.slice a k cap) w')/\aD S w (.slice a (bs.take k).length cap) (bs.take k)/\ ∃b o,a=some ⟨b,o,none⟩:=by
 obtain⟨hl,a0,cap0,hv,hn,hm,h1⟩:=h;simp only[Value.slice.injEq]at hv;obtain⟨rfl,rfl,rfl⟩:=hv;have hz: ∀w',(sizeOf (Tryz.prog.elem 29)).run Tryz.prog w'= .ok 1 w':=fun _=>by kernel_rfl
 rcases h1 with h1 | ⟨b,o,rfl,hS,hc⟩
 ·omega
 ·refine⟨fun w'=> ?_,⟨by simp,_,_,rfl,by rw[List.length_take]; omega,hm, .inr ⟨b,o,rfl,hS,fun j x hj=> ?_⟩⟩,b,o,rfl⟩
  ·rw[run_slice_h _ _ _ _ _ Tryz.underlying29 _ _ (by omega) (by omega),hz];simp only[Result.andThen,sliced,Int.toNat_natCast,Nat.zero_mul,Nat.sub_zero]
   by_cases hcz:cap=0
   ·omega
   ·rw[if_neg hcz,Option.map_some,Addr.add_mid,Nat.add_zero]
  ·refine hc j x ?_;rw[List.map_take,List.getElem?_take]at hj
   split at hj
   ·exact hj
   ·cases hj
theorem eB {ops:Array Oper} {rest:List Oper} {o:Oper} {a:Act} {Q:Exit->Act->World->Prop} {w:World} (hgd:o.guard=none) (d s:Operand)
  (ho:o.op= .call {callee:= .builtin .copy,args:= #[d,s],argTypes:= #[29,29]}) (g off dLen dCap:Nat) (sp:Option Addr) (sLen sCap:Nat) (hd:a.eval d= .slice (some ⟨g,off,none⟩) dLen dCap) (hs:a.eval s= .slice sp sLen sCap)
  (cur:List Value) (t:TypeId) (hg:w.heap[g]? =some (.cells cur.toArray t (0,0))) (S:Nat->Prop) (bs:List UInt8) (hb:aD S w (.slice sp sLen sCap) bs) (k:Nat) (hk:k=Nat.min bs.length dLen) (hfit:off+dLen<=cur.length)
  (h: ∀w',w'.heap[g]? =some (.cells (splice cur off ((bs.take k).map au)).toArray t (0,0))->w.grownBy w' (some g)->wpList Tryz.prog ops Q rest (a.put o.dst (.int .i64 (k:Int))) w'):wpList Tryz.prog ops Q (o::rest) a w:=by
 obtain⟨hl,a0,cap0,hv,hn,hm,h1⟩:=hb;simp only[Value.slice.injEq]at hv;obtain⟨rfl,rfl,rfl⟩:=hv
 by_cases hk0:k=0
 ·subst hk0;refine wpList_copy_nothing hgd d s _ _ ho 5 Tryz.underlying29 (by kernel_rfl) _ _ _ _ _ _ hd hs (by rw[<-hk]) ?_;refine h w ?_ (jn w _);rw[hg,List.take_zero,List.map_nil];simp[splice]
 ·have hkb:k<=bs.length:=by rw[hk]; exact Nat.min_le_left _ _
  have hkd:k<=dLen:=by rw[hk]; exact Nat.min_le_right _ _
  rcases h1 with h1 | ⟨b,o2,rfl,hS,hc⟩
  ·omega
  ·have hlen:((bs.take k).map au).length=k:=by rw[List.length_map,List.length_take]; omega
   refine wpList_copy_own hgd d s _ _ ho 5 Tryz.underlying29 (by kernel_rfl) g off dLen dCap ⟨b,o2,none⟩ bs.length sCap hd hs cur.toArray t hg ((bs.take k).map au) (by rw[hlen,hk]) (fun j x hj=> ?_) (by rw[hlen,List.size_toArray]; omega) (fun v hv=>by obtain⟨x,_,rfl⟩:=List.mem_map.1 hv; rfl) ?_
   ·rw[Addr.add_mid];refine hc j x ?_;rw[List.map_take,List.getElem?_take]at hj
    split at hj
    ·exact hj
    ·cases hj
   ·rw[hlen];refine h _ ?_ ?_
    ·rw[setRow_heap w g _ _ t _ hg];simp only[splice,hlen]
    ·exact⟨rfl,rfl,rfl,by simp[World.setRow],fun i _ hne=>setRow_other w g i _ (fun e=>hne (by rw[e]))⟩
theorem fD (v:V8) {buf:List UInt8} (h:buf.length=64) (n:Nat):(bc v buf n).length=73:=by unfold bc V8.list; simp[h]
theorem su (v:V8) {buf:List UInt8} (h:buf.length=64) (n:Nat) (rest:List Value):(bc v buf n++rest).toArray[72]? =some (.int .i64 (n:Int)):=by
 rw[List.getElem?_toArray,List.getElem?_append_left (by rw[fD v h]; decide)];unfold bc;rw[List.getElem?_append_right (by simp[V8.list]),List.getElem?_append_right (by simp[V8.list,h])];simp[V8.list,h]
theorem Bb (v:V8) {buf:List UInt8} (h:buf.length=64) (n n':Nat) (rest:List Value):(bc v buf n++rest).set 72 (.int .i64 (n':Int))=bc v buf n'++rest:=by
 rw[List.set_append_left _ _ (by rw[fD v h]; decide)]
 congr 1
 unfold bc;rw[List.set_append_right _ _ (by simp[V8.list]),List.set_append_right _ _ (by simp[V8.list,h])]
 congr 2
 simp[V8.list,h]
theorem dX (v:V8) (buf:List UInt8) (n:Nat) (rest:List Value):bc v buf n++rest=v.list.map fO++(buf.map au++([.int .i64 (n:Int)]++rest)):=by unfold bc; simp
theorem lw (v:V8) {buf:List UInt8} (h:buf.length=64) (n:Nat) (rest:List Value) {off:Nat} {xs:List UInt8} (ho:off+xs.length<=64):splice (bc v buf n++rest) (8+off) (xs.map au)=bc v (splice buf off xs) n++rest:=by
 have e: ∀(A B C:List Value),A.length=8->B.length=64->splice (A++(B++C)) (8+off) (xs.map au)=A++(splice B off (xs.map au)++C):=by
  intro A B C hA hB;unfold splice;have hx:(xs.map au).length=xs.length:=by simp
  rw[hx,List.take_append,List.drop_append,hA,show 8+off-8=off by omega,show 8+off+xs.length-8=off+xs.length by omega,List.take_of_length_le (by omega),List.drop_eq_nil_of_le (by omega),List.nil_append,List.take_append_of_le_length (by omega),List.drop_append_of_le_length (by omega)];simp
 rw[dX,e _ _ _ (by simp[V8.list]) (by simpa using h),dX]
 congr 2
 unfold splice;simp
theorem jp {buf xs:List UInt8} (h:buf.length=64) {off:Nat} (ho:off+xs.length<=64):(splice buf off xs).length=64:=by rw[length_splice _ _ _ (by omega),h]
structure uc (sb : Nat) (ty : TypeId) (rest : List Value) (D buf : List UInt8) (w wr : World) (j : Nat) : Prop where
 box:wr.heap[sb]? =some (.cells (bc (eE D j) buf D.length++rest).toArray ty (0,0))
 len:buf.length=64
 grown:w.grownBy wr (some sb)
theorem fp.grown {w wr:World} {sb:Nat} (h:fp w) (hne:sb≠5) (hg:w.grownBy wr (some sb)) (hlt:5<w.heap.size):fp wr:=by
 intro j x hj;rw[<-h j x hj];exact World.cell?_of_block (hg.block _ hlt (fun e=>hne (Option.some.inj e).symm))
theorem Fi (v:V8) {buf:List UInt8} (n:Nat) (rest:List Value) {j:Nat} {x:UInt8} (hj:buf[j]? =some x):(bc v buf n++rest).toArray[8+j]? =some (au x):=by
 have hlt:=(List.getElem?_eq_some_iff.1 hj).1;rw[List.getElem?_toArray,dX,List.getElem?_append_right (by simp[V8.list]),List.getElem?_append_left (by simp[V8.list]; omega)];rw[show 8+j-(List.map fO v.list).length=j by simp[V8.list],List.getElem?_map,hj]; rfl
theorem rx {data xs:List UInt8} {q:Nat} (h:64*q<=data.length):(data++xs).drop (64*q)=data.drop (64*q)++xs:=List.drop_append_of_le_length h
theorem wm {buf xs:List UInt8} {u:Nat} (hb:buf.length=64) (hx:u+xs.length=64):splice buf u xs=buf.take u++xs:=by
 unfold splice;rw[hx,List.drop_eq_nil_of_le (by omega),List.append_nil]
def EJ :Value->Nat
 | .slice _ n _=>n
 | _=>0
def yq (sb:Nat) (ty:TypeId) (rest:List Value) (D:List UInt8) (w:World) (x:Value) (wr:World):Prop:=
 ∃(j rl cap:Nat) (a:Option Addr) (buf:List UInt8),rl=(D.drop (64*j)).length/\64*j<=D.length/\x= .slice a rl cap/\aD (· ≠sb) wr (.slice a rl cap) (D.drop (64*j))/\uc sb ty rest D buf w wr j
theorem uc.done {sb:Nat} {ty:TypeId} {rest:List Value} {D buf:List UInt8} {w wr w':World} {j:Nat} (h:uc sb ty rest D buf w wr j) (hj:64*j<=D.length) (hl:(D.drop (64*j)).length<64)
  (hb:w'.heap[sb]? =some (.cells (splice (bc (eE D j) buf D.length++rest) 8 (((D.drop (64*j)).take (D.drop (64*j)).length).map au)).toArray ty (0,0))) (hg:wr.grownBy w' (some sb)):gT w' sb ty rest D/\w.grownBy w' (some sb):=by
 have e:D.length/64=j:=by rw[List.length_drop]at hl; omega
 have e2:D.length%64=(D.drop (64*j)).length:=by rw[List.length_drop]at hl ⊢; omega
 refine⟨⟨splice buf 0 (D.drop (64*j)),jp h.len (by omega), ?_, ?_⟩,ak h.grown hg⟩
 ·rw[e2,e];unfold splice;rw[List.take_zero,List.nil_append,List.take_left]
 ·rw[hb,List.take_length,e,lw _ h.len D.length rest (off:=0) (by omega)]
theorem fl (sb:Nat) (ty:TypeId) (rest:List Value) (data xs:List UInt8) (xv:Value) (w:World) (h:gT w sb ty rest data) (hx:aD (· ≠sb) w xv xs) (hlen:data.length+xs.length<1152921504606846976) (hK:fp w) (hKlt:5<w.heap.size) (hne:sb≠5):
  Calls Tryz.prog 168 #[.pointer (some ⟨sb,0,none⟩),xv] w fun e w'=>e= .returned (.tuple #[])/\gT w' sb ty rest (data++xs)/\w.grownBy w' (some sb):=by
 obtain⟨buf,hb64,htl,hbox⟩:=h;obtain⟨_,a,cap,rfl,hcap,hcm,-⟩:=id hx;have HX:=ab hx;have HBX:=ab hbox;have HTL:=ab htl;have HK:=ab hK;have HL64:=ab hb64;obtain⟨n,hn⟩: ∃n,n=data.length:=⟨_,rfl⟩;obtain⟨m,hm⟩: ∃m,m=xs.length:=⟨_,rfl⟩;rw[<-hn]at HBX hlen;rw[<-hm]at hlen hcap;have c72:=(cell_of_row w _ 72 _ _ _ HBX.out).trans (su _ hb64 n rest)
 have f72:=frozen_of_row w _ 72 _ _ HBX.out;have HN:=ab (And.intro hn hm);clear hx hbox htl hK hb64;rw[<-hm];clear hn hm
 go_enter Tryz.func168,Tryz.ntmps168
 go_upto_region 2 with(fail)
 obtain⟨W1,hW1⟩: ∃W1,W1=w.setCell ⟨sb,72,none⟩ (.int .i64 ((n:Int)+(m:Int))):=⟨_,rfl⟩;rw[<-hW1];have HB1:=ab (show W1.heap[sb]? =some (.cells (bc (eE data (n/64)) buf (n+m)++rest).toArray ty (0,0)) by
  rw[hW1,heap_setCell_same w _ _ _ _ _ HBX.out,List.setIfInBounds_toArray,<-Bb _ HL64.out n (n+m) rest];rw[Int.natCast_add])
 have HG1:=ab (show w.grownBy W1 (some sb) by rw[hW1]; exact aF w sb 72 _);have HX1:=ab (HX.out.call HG1.out);clear hW1 c72 f72
 by_cases hu:n%64=0
 ·have hui:(n:Int)%64=0:=by omega
  have HLS:=ab (show yq sb ty rest (data++xs) w (.slice a m cap) W1 from by
   have e1:64*(n/64)=data.length:=by have:=HN.out.1; omega
   refine⟨n/64,m,cap,a,buf, ?_,by rw[List.length_append]; omega,rfl, ?_, ?_⟩
   ·rw[e1,List.drop_left]; exact HN.out.2
   ·rw[e1,List.drop_left];have:=HX1.out;rw[<-HN.out.2]at this;exact this
   ·refine⟨?_,HL64.out,HG1.out⟩;rw[lJ xs (by omega),List.length_append,<-HN.out.1,<-HN.out.2];exact HB1.out)
  go_wp2_with fail;clear hui hu
  go_loopw [1] (fun x wr=>yq sb ty rest (data++xs) w x wr) (fun x _=>EJ x)
  case atStart=>exact HLS.out
  case round=>
   obtain⟨j,rl,cap2,a2,bf,hrl,hj,rfl,hby,hmid⟩:=hrel;have HRL:=ab hrl;have HBY:=ab hby
   have HMD:=ab hmid;have hrl2:rl<1152921504606846976:=by
    have:=HN.out;rw[hrl,List.length_drop,List.length_append]; omega
   obtain⟨_,_,_,hveq,hcap2,hcm2,-⟩:=id hby
   simp only[Value.slice.injEq]at hveq;obtain⟨rfl,-,rfl⟩:=hveq;rw[<-hrl]at hcap2;clear hrl hby hmid
   by_cases h64:64<=rl
   ·obtain⟨s1,s2,b,o,rfl⟩:=wl HBY.out (k:=64) (by rw[<-HRL.out]; exact h64) (by decide);obtain⟨a3,cap3,s3,s4⟩:=ly HBY.out (k:=64) (by rw[<-HRL.out]; exact h64);have S1: ∀w',(Instr.slice 29 (.slice (some ⟨b,o,none⟩) rl cap2) none (some (.int .i64 64)) none).run Tryz.prog w'= .ok (.slice (some ⟨b,o,none⟩) 64 cap2) w':=s1;obtain⟨r3,hr3⟩: ∃r3,r3=((List.drop (64*j) (data++xs)).drop 64).length:=⟨_,rfl⟩
    have S3: ∀w',(Instr.slice 29 (.slice (some ⟨b,o,none⟩) rl cap2) (some (.int .i64 64)) none none).run Tryz.prog w'= .ok (.slice a3 r3 cap3) w':=by rw[hr3]; exact s3
    rw[<-hr3]at s4;have HR3:=ab hr3;have S2:=ab s2;have S4:=ab s4;clear s1 s2 s3 s4 hr3;go_wp2_with fail;refine(jZ sb (eE (data++xs) j) (bf.map au++([.int .i64 ((data++xs).length:Int)]++rest)) ty b o cap2 ((List.drop (64*j) (data++xs)).take 64) wr (by rw[<-dX]; exact HMD.out.box) (sV _ _) (by rw[List.length_take,<-HRL.out]; omega) (by omega) hcm2 ?_ (HK.out.grown hne HMD.out.grown hKlt) (by have:=HMD.out.grown.size; omega)).mono ?_
    ·intro i x hi;obtain⟨_,_,_,hv9,_,_,h9⟩:=S2.out;simp only[Value.slice.injEq]at hv9;rw[<-hv9.1]at h9
     rcases h9 with h9 | ⟨b9,o9,e9,_,h9⟩
     ·rw[List.length_take,<-HRL.out]at h9; omega
     ·simp only[Option.some.injEq,Addr.mk.injEq]at e9;rw[e9.1,e9.2.1];exact h9 i _ (by rw[List.getElem?_map,hi]; rfl)
    ·rintro e w2 ⟨rfl,hb2,hg2⟩;have HM2:=ab (show uc sb ty rest (data++xs) bf w w2 (j+1)from⟨by rw[dX]; exact hb2,HMD.out.len,ak HMD.out.grown hg2⟩);have HY2:=ab (S4.out.call hg2);clear hb2 hg2;go_wp2_with fail
     go_roundw
     case rel=>
      refine⟨j+1,r3,cap3,a3,bf, ?_, ?_,rfl, ?_,HM2.out⟩
      ·rw[HR3.out,List.drop_drop,show 64*j+64=64*(j+1) by omega]
      ·have:=HRL.out;rw[List.length_drop]at this; omega
      ·have:=HY2.out;rw[List.drop_drop,show 64*j+64=64*(j+1) by omega]at this;exact this
     case measure=>
      have h1:=HR3.out;rw[List.length_drop,<-HRL.out]at h1
      show r3<rl
      omega
   ·have hmin:rl=Nat.min (List.drop (64*j) (data++xs)).length 64:=by rw[<-HRL.out]; exact(Nat.min_eq_left (by omega)).symm
    have hfit:8+64<=(bc (eE (data++xs) j) bf (data++xs).length++rest).length:=by rw[List.length_append,fD _ HMD.out.len]; omega
    have HMIN:=ab hmin;have HFIT:=ab hfit;clear hmin hfit;go_wp2_with (refine eB rfl _ _ rfl sb 8 64 64 a2 rl cap2 rfl rfl (bc (eE (data++xs) j) bf (data++xs).length++rest) ty HMD.out.box (· ≠sb) (List.drop (64*j) (data++xs)) HBY.out rl HMIN.out HFIT.out ?_; intro w3 hb3 hg3; have HB3:=ab hb3; have HG3:=ab hg3; clear hb3 hg3)
    go_end0
    refine⟨rfl, ?_⟩;refine HMD.out.done hj (by rw[<-HRL.out]; omega) ?_ HG3.out;rw[<-HRL.out]; exact HB3.out
 ·obtain⟨u,hu2⟩: ∃u,u=n%64:=⟨_,rfl⟩;have hui:(n:Int)%64=(u:Int):=by omega
  have hupos:(0:Int)<(u:Int):=by omega
  have hule:(u:Int)<=64:=by omega
  obtain⟨k,hk⟩: ∃k,k=Nat.min xs.length (64-u):=⟨_,rfl⟩;have hkle:k<=xs.length:=by rw[hk]; exact Nat.min_le_left _ _
  have hkle2:k<=64-u:=by rw[hk]; exact Nat.min_le_right _ _
  have hk3:k=xs.length\/k=64-u:=by
   rw[hk]
   rcases Nat.le_total xs.length (64-u)with e | e
   ·exact .inl (Nat.min_eq_left e)
   ·exact .inr (Nat.min_eq_right e)
  have HU:=ab (And.intro hu2 hu);have HKK:=ab hk;have HK3:=ab hk3;have HKL:=ab (And.intro hkle hkle2);have hX1:=HX1.out;rw[<-HN.out.2]at hX1;obtain⟨a4,cap4,s4,y4⟩:=ly hX1 hkle;obtain⟨m4,hm4⟩: ∃m4,m4=(xs.drop k).length:=⟨_,rfl⟩;rw[<-hm4]at s4 y4;have HM4:=ab hm4;have Y4:=ab y4;have HXX:=ab hX1;have HFIT:=ab (show 8+u+(64-u)<=(bc (eE data (n/64)) buf (n+m)++rest).length by rw[List.length_append,fD _ HL64.out]; omega)
  clear hu hu2 hk hk3 hkle hkle2 hX1 hm4 y4;have hw64:wrap64 ((u:Int)+(k:Int))=(u:Int)+(k:Int):=by unfold wrap64; have:=HKL.out.2; omega
  by_cases hlt:u+k<64
  ·have hlti:(u:Int)+(k:Int)<64:=by omega
   go_wp2_with (refine eB rfl _ _ rfl sb (8+u) (64-u) (64-u) a m cap rfl rfl (bc (eE data (n/64)) buf (n+m)++rest) ty HB1.out (· ≠sb) xs HXX.out k HKK.out HFIT.out ?_; intro w3 hb3 hg3; have HB3:=ab hb3; have HG3:=ab hg3; clear hb3 hg3);refine bodyPost_ret (results_none rfl _ _ _) rfl ?_;have hk:k=xs.length:=by rcases HK3.out with e | e<;> omega
   have hnl:=HN.out.1;have hml:=HN.out.2;have hun:=HU.out.1;have hq:64*(n/64)<=data.length:=by omega
   refine⟨rfl,⟨splice buf u xs,jp HL64.out (by omega), ?_, ?_⟩,ak HG1.out HG3.out⟩
   ·rw[List.length_append,<-hnl,<-hml,show(n+m)/64=n/64 by omega,show(n+m)%64=u+xs.length by omega,rx hq];have:=HTL.out;rw[<-hnl,<-hun]at this;rw[<-this];unfold splice;rw[<-List.append_assoc,List.take_left' (by rw[List.length_append,List.length_take]; have:=HL64.out; omega)]
   ·rw[HB3.out,hk,List.take_length,lw _ HL64.out _ rest (by omega),List.length_append,<-hnl,<-hml,show(n+m)/64=n/64 by omega,lJ xs hq]
  ·have hge:64<=(u:Int)+(k:Int):=by omega
   have hk:k=64-u:=by have:=HKL.out.2; rcases HK3.out with e | e<;> omega
   have huk:u+k=64:=by have:=HKL.out.2; omega
   have HKE:=ab (And.intro hk huk);clear hk huk;go_wp2_with (refine eB rfl _ _ rfl sb (8+u) (64-u) (64-u) a m cap rfl rfl (bc (eE data (n/64)) buf (n+m)++rest) ty HB1.out (· ≠sb) xs HXX.out k HKK.out HFIT.out ?_; intro w3 hb3 hg3; have HB3:=ab hb3; have HG3:=ab hg3; clear hb3 hg3);obtain⟨B,hB⟩: ∃B,B=splice buf u (xs.take k):=⟨_,rfl⟩;have hkl:=HKL.out.1
   have htk:(xs.take k).length=k:=by rw[List.length_take]; omega
   have hun:=HU.out.1;have hnl:=HN.out.1;have hml:=HN.out.2;have hq:64*(n/64)<=data.length:=by omega
   have hBl:B.length=64:=by rw[hB]; exact jp HL64.out (by rw[htk]; have:=HKE.out.2; omega)
   have hB3:w3.heap[sb]? =some (.cells (bc (eE data (n/64)) B (n+m)++rest).toArray ty (0,0)):=by rw[HB3.out,lw _ HL64.out _ rest (by rw[htk]; have:=HKE.out.2; omega),<-hB]
   have hBD:B=((data++xs).drop (64*(n/64))).take 64:=by
    have ht:=HTL.out;rw[<-hnl,<-hun]at ht;rw[hB,wm HL64.out (by rw[htk]; exact HKE.out.2),rx hq,<-ht,List.take_append,List.length_take,HL64.out,Nat.min_eq_left (by omega),<-HKE.out.1,List.take_of_length_le (l:=List.take u buf) (by rw[List.length_take]; omega)]
   have HBL:=ab hBl;have HBD:=ab hBD;have HB4:=ab hB3;clear hkl htk hun hnl hml hq hBl hB3 hBD hB;refine(jZ sb (eE data (n/64)) (B.map au++([.int .i64 ((n+m:Nat):Int)]++rest)) ty sb 8 64 B w3 (by rw[<-dX]; exact HB4.out) (sV _ _) HBL.out (Nat.le_refl _) (by unfold maxLen; omega) ?_ (HK.out.grown hne (ak HG1.out HG3.out) hKlt) (by have:=HG1.out.size; have:=HG3.out.size; omega)).mono ?_
   ·intro i x hi;rw[cell_of_row w3 _ _ _ _ _ HB4.out,Fi _ _ rest hi]; rfl
   ·rintro e w4 ⟨rfl,hb4,hg4⟩;have hnl:=HN.out.1;have hml:=HN.out.2;have hun:=HU.out.1;have hq:64*(n/64)<=data.length:=by omega
    have hke:=HKE.out.2;have hkl:=HKL.out.1;have HG4:=ab (ak HG1.out (ak HG3.out hg4));have hY:=(Y4.out.call HG3.out).call hg4;have hdr:(data++xs).drop (64*(n/64+1))=xs.drop k:=by
     rw[show 64*(n/64+1)=data.length+k by omega,<-List.drop_drop,List.drop_left]
    have HLS:=ab (show yq sb ty rest (data++xs) w (.slice a4 m4 cap4) w4 from by
     refine⟨n/64+1,m4,cap4,a4,B, ?_,by rw[List.length_append]; omega,rfl, ?_, ?_⟩
     ·rw[hdr]; exact HM4.out
     ·rw[hdr]; exact hY
     ·refine⟨?_,HBL.out,HG4.out⟩;rw[dX,eE,<-HBD.out,lJ xs hq,List.length_append,<-hnl,<-hml];exact hb4)
    clear hb4 hg4 hnl hml hun hq hke hkl hY hdr;go_wp2_with fail;clear hw64 hlt hge hupos hule hui
    go_loopw [1] (fun x wr=>yq sb ty rest (data++xs) w x wr) (fun x _=>EJ x)
    case atStart=>exact HLS.out
    case round=>
     obtain⟨j,rl,cap2,a2,bf,hrl,hj,rfl,hby,hmid⟩:=hrel;have HRL:=ab hrl;have HBY:=ab hby
     have HMD:=ab hmid;have hrl2:rl<1152921504606846976:=by
      have:=HN.out;rw[hrl,List.length_drop,List.length_append]; omega
     obtain⟨_,_,_,hveq,hcap2,hcm2,-⟩:=id hby
     simp only[Value.slice.injEq]at hveq;obtain⟨rfl,-,rfl⟩:=hveq;rw[<-hrl]at hcap2;clear hrl hby hmid
     by_cases h64:64<=rl
     ·obtain⟨s1,s2,b,o,rfl⟩:=wl HBY.out (k:=64) (by rw[<-HRL.out]; exact h64) (by decide);obtain⟨a3,cap3,s3,s4⟩:=ly HBY.out (k:=64) (by rw[<-HRL.out]; exact h64);have S1: ∀w',(Instr.slice 29 (.slice (some ⟨b,o,none⟩) rl cap2) none (some (.int .i64 64)) none).run Tryz.prog w'= .ok (.slice (some ⟨b,o,none⟩) 64 cap2) w':=s1;obtain⟨r3,hr3⟩: ∃r3,r3=((List.drop (64*j) (data++xs)).drop 64).length:=⟨_,rfl⟩
      have S3: ∀w',(Instr.slice 29 (.slice (some ⟨b,o,none⟩) rl cap2) (some (.int .i64 64)) none none).run Tryz.prog w'= .ok (.slice a3 r3 cap3) w':=by rw[hr3]; exact s3
      rw[<-hr3]at s4;have HR3:=ab hr3;have S2:=ab s2;have S4:=ab s4;clear s1 s2 s3 s4 hr3;go_wp2_with fail;refine(jZ sb (eE (data++xs) j) (bf.map au++([.int .i64 ((data++xs).length:Int)]++rest)) ty b o cap2 ((List.drop (64*j) (data++xs)).take 64) wr (by rw[<-dX]; exact HMD.out.box) (sV _ _) (by rw[List.length_take,<-HRL.out]; omega) (by omega) hcm2 ?_ (HK.out.grown hne HMD.out.grown hKlt) (by have:=HMD.out.grown.size; omega)).mono ?_
      ·intro i x hi;obtain⟨_,_,_,hv9,_,_,h9⟩:=S2.out;simp only[Value.slice.injEq]at hv9;rw[<-hv9.1]at h9
       rcases h9 with h9 | ⟨b9,o9,e9,_,h9⟩
       ·rw[List.length_take,<-HRL.out]at h9; omega
       ·simp only[Option.some.injEq,Addr.mk.injEq]at e9;rw[e9.1,e9.2.1];exact h9 i _ (by rw[List.getElem?_map,hi]; rfl)
      ·rintro e w2 ⟨rfl,hb2,hg2⟩;have HM2:=ab (show uc sb ty rest (data++xs) bf w w2 (j+1)from⟨by rw[dX]; exact hb2,HMD.out.len,ak HMD.out.grown hg2⟩);have HY2:=ab (S4.out.call hg2);clear hb2 hg2;go_wp2_with fail
       go_roundw
       case rel=>
        refine⟨j+1,r3,cap3,a3,bf, ?_, ?_,rfl, ?_,HM2.out⟩
        ·rw[HR3.out,List.drop_drop,show 64*j+64=64*(j+1) by omega]
        ·have:=HRL.out;rw[List.length_drop]at this; omega
        ·have:=HY2.out;rw[List.drop_drop,show 64*j+64=64*(j+1) by omega]at this;exact this
       case measure=>
        have h1:=HR3.out;rw[List.length_drop,<-HRL.out]at h1
        show r3<rl
        omega
     ·have hmin:rl=Nat.min (List.drop (64*j) (data++xs)).length 64:=by rw[<-HRL.out]; exact(Nat.min_eq_left (by omega)).symm
      have hfit:8+64<=(bc (eE (data++xs) j) bf (data++xs).length++rest).length:=by rw[List.length_append,fD _ HMD.out.len]; omega
      have HMIN:=ab hmin;have HFIT:=ab hfit;clear hmin hfit;go_wp2_with (refine eB rfl _ _ rfl sb 8 64 64 a2 rl cap2 rfl rfl (bc (eE (data++xs) j) bf (data++xs).length++rest) ty HMD.out.box (· ≠sb) (List.drop (64*j) (data++xs)) HBY.out rl HMIN.out HFIT.out ?_; intro w3 hb3 hg3; have HB3:=ab hb3; have HG3:=ab hg3; clear hb3 hg3)
      go_end0
      refine⟨rfl, ?_⟩;refine HMD.out.done hj (by rw[<-HRL.out]; omega) ?_ HG3.out;rw[<-HRL.out]; exact HB3.out
theorem Cg {S:Nat->Prop} {w:World} {v:Value} {bs:List UInt8} (hd:aD S w v bs):(convert 29 9 v).run Tryz.prog w= .ok (.string ⟨bs.toArray⟩) w:=by
 obtain⟨_,a,cap,rfl,hn,hm,h0⟩:=hd
 rcases h0 with h0 | ⟨b,o,rfl,_,hc⟩
 ·obtain rfl:=List.eq_nil_of_length_eq_zero h0
  show(convert 29 9 (.slice a 0 cap)).run Tryz.prog w=_
  cases a<;> kernel_rfl
 ·have h:=run_convert_bytes_arg (P:=Tryz.prog) w 29 5 Tryz.underlying29 Tryz.underlying5 b o bs.length cap (bs.map fun b=>(b.toNat:Int)) (by simp) (fun i hi=>by
   rw[hc i (au bs[i]) (by simp[hi])];simp[au,List.getD,hi]) 9 Tryz.underlying9
  rw[qe]at h;exact h
def iw (w:World):Prop:= ∀j x,mO.list[j]? =some x->w.cell? ⟨2,j,none⟩=some (fO x)
def yN :List Value:=[.int .u32 1779033703, .int .u32 3144134277, .int .u32 1013904242, .int .u32 2773480762, .int .u32 1359893119, .int .u32 2600822924, .int .u32 528734635, .int .u32 1541459225]
theorem iw.range {w:World} (h:iw w):w.rangeAt 2 0 yN:=by
 intro j x hj;rw[Nat.zero_add];have h2:yN=mO.list.map fO:=by kernel_rfl
 rw[h2,List.getElem?_map]at hj
 cases hq:mO.list[j]? with
 | none=>rw[hq]at hj; cases hj
 | some y=>
  rw[hq]at hj;rw[h j y hq];exact hj
theorem pZ (w:World) (hI:iw w):Calls Tryz.prog 167 #[] w fun e w'=>e= .returned (.pointer (some ⟨w.heap.size,0,none⟩))/\gT w' w.heap.size 218 [] []/\Below w.heap.size w w'/\w.heap.size<w'.heap.size:=by
 have HR:=ab hI.range;clear hI
 go_enter Tryz.func167,Tryz.ntmps167
 go_wp2_with (first | (refine wpList_load_mid rfl 216 _ rfl 2 0 rfl yN _ HR.out Tryz.underlying216 rfl (by kernel_rfl) ?_) | (refine wpList_build rfl 218 _ rfl (by kernel_rfl) ?_));go_ret;refine⟨rfl,⟨List.replicate 64 0,by simp,by simp, ?_⟩,(Below.refl _ _).alloc (Nat.le_refl _) _,by simp⟩;rw[heap_alloc_new,show(Tryz.prog.built 218 [(0,Value.agg yN.toArray)]).getD #[]=(bc (eE [] (([]:List UInt8).length/64)) (List.replicate 64 0) ([]:List UInt8).length++[]).toArray by kernel_rfl]
theorem kq {ops:Array Oper} {rest:List Oper} {o:Oper} {a:Act} {Q:Exit->Act->World->Prop} (hgd:o.guard=none) (s x:Operand)
  (ho:o.op= .call {callee:= .builtin .append,args:= #[s,x],argTypes:= #[29,29]}) (base:Nat) (v:Value) (n m:Nat) (xs:List Value) (hs:a.eval s=v) (w0:World) (news:List Value) (e2:TypeId)
  (hx:a.eval x= .slice (some ⟨w0.heap.size,0,none⟩) m m) (hl:news.length=m) (h1: ∀u∈news,u.oneCell'=true) (hown:w0.ownsRow base 5 1 v n xs) (hn:n+m<1099511627775) (hbase:base<=w0.heap.size)
  (h: ∀v' w',w'.ownsRow base 5 1 v' (n+m) (xs++news)->w0.grownBy w' v.ownBlock->wpList Tryz.prog ops Q rest (a.put o.dst v') w'):wpList Tryz.prog ops Q (o::rest) a (w0.alloc (.cells news.toArray e2)):=by
 obtain⟨ht,⟨i,z,h11,h12,h13,h14,h15⟩,hpos,hsm⟩:=Tryz.appBytes;have hnews: ∀(j:Nat) u,news[j]? =some u->(w0.alloc (.cells news.toArray e2)).cell? ((⟨w0.heap.size,0,none⟩:Addr).add j)=some u:=by
  intro j u hj;rw[Addr.add_mid,Nat.zero_add,cell_of_row _ _ _ _ _ _ (heap_alloc_new w0 (.cells news.toArray e2))]
  simpa using hj
 have hl1:news.length=m*1:=by rw[hl,Nat.mul_one]
 obtain⟨v',w',hr,h2,hg,_⟩:=run_append_own (P:=Tryz.prog) (w0.alloc (.cells news.toArray e2)) base _ o.type _ i z 1 1 ht h11 h12 h13 h14 h15 hpos v n xs (hown.alloc _) ⟨w0.heap.size,0,none⟩ m m news hl1 hnews h1 (by unfold maxLen; omega) (by omega) (by simp; omega);refine wpList_plain hgd fun K hK=> ?_
 unfold Oper.wp execOp;simp only[ho,resolve,invoke,builtin,Sem.run_bind,Sem.run_pure,Result.andThen_ok,List.map_toArray,List.map_cons,List.map_nil,hs,hx,hr];refine hK _ _ (h v' w' h2 ⟨hg.os,hg.tape,hg.output,by have:=hg.size; simp at this; omega,fun k hk hne=> ?_⟩);rw[hg.block k (by simp; omega) hne];exact Below.heap_alloc _ _ _ hk
theorem Dw (v:V8) {buf:List UInt8} (h:buf.length=64) (n:Nat):(bc v buf n).toArray.size=73:=by rw[List.size_toArray,fD v h]
theorem Fj (v:V8) (buf:List UInt8) (n:Nat): ∀x∈bc v buf n,x.oneCell'=true:=by
 intro x hx;unfold bc at hx
 rcases List.mem_append.1 hx with hx | hx
 ·obtain⟨y,_,rfl⟩:=List.mem_map.1 hx; rfl
 ·rcases List.mem_append.1 hx with hx | hx
  ·obtain⟨y,_,rfl⟩:=List.mem_map.1 hx; rfl
  ·rw[List.mem_singleton.1 hx]; rfl
theorem Ba {w:World} {sb:Nat} {v:V8} {buf:List UInt8} {n:Nat} {rest:List Value} {ty:TypeId} (h:w.heap[sb]? =some (.cells (bc v buf n++rest).toArray ty (0,0))):w.rangeAt sb 0 (bc v buf n):=by
 intro j x hj;rw[cell_of_row w _ _ _ _ _ h,Nat.zero_add,List.getElem?_toArray,List.getElem?_append_left (List.getElem?_eq_some_iff.1 hj).1];exact hj
theorem ug : ∀l:List Nat,(l.flatMap wL).length=4*l.length
 | []=>rfl
 | x::l=>by rw[List.flatMap_cons,List.length_append,ug l,yz,List.length_cons]; omega
theorem GJ (v:V8) {k:Nat} (h:k<8):v.list.take (k+1)=v.list.take k++[v.list.getD k 0]:=by
 have hc:k=0\/k=1\/k=2\/k=3\/k=4\/k=5\/k=6\/k=7:=by omega
 rcases hc with rfl | rfl | rfl | rfl | rfl | rfl | rfl | rfl<;> rfl
theorem eI {w w':World} (h:w.grownBy w' none):Below w.heap.size w w':=⟨h.os,h.tape,h.output,h.size,fun k hk=>h.block k hk (by simp)⟩
def nH (z:Nat):List UInt8:=128::List.replicate z 0
theorem Ap (z:Nat):nH (z+1)=nH z++[0]:=by unfold nH; rw[List.replicate_succ',List.cons_append]
theorem pN (z:Nat):(nH z).length=z+1:=by simp[nH]
structure oq (w W1 wr : World) (v : Value) (pad : List UInt8) : Prop where
 row:wr.ownsRow (w.heap.size+1) 5 1 v pad.length (pad.map au)
 below:Below W1.heap.size W1 wr
theorem oq.app {w W1 wr w':World} {v v':Value} {pad:List UInt8} {x:UInt8} {n:Nat} {cs:List Value} (h:oq w W1 wr v pad) (hs:W1.heap.size=w.heap.size+1) (h1:w'.ownsRow (w.heap.size+1) 5 1 v' (n+1) cs) (h2:wr.grownBy w' v.ownBlock) (hn:n=pad.length:=by simp[pN]) (hc:cs=pad.map au++[au x]:=by rfl):oq w W1 w' v' (pad++[x]):=by
 subst hn hc;refine⟨by simpa using h1,cJ h.below h.row h2 (by omega) (by have:=h.below.size; omega)⟩
theorem Es (c:Nat) {k s:Nat} (h:k<8) (hs:s=56-8*k):(sT c).getD k 0=UInt8.ofNat (c/2^s):=by
 subst hs;have hc:k=0\/k=1\/k=2\/k=3\/k=4\/k=5\/k=6\/k=7:=by omega
 rcases hc with rfl | rfl | rfl | rfl | rfl | rfl | rfl | rfl
 case inr.inr.inr.inr.inr.inr.inr=>simp[sT]
 all_goals rfl
theorem BW (c:Nat) {k:Nat} (h:k<8):(sT c)[k]? =some ((sT c).getD k 0):=by
 have:k<(sT c).length:=h;simp[List.getD_eq_getElem?_getD,this]
theorem iQ (y:Nat) (v:Int) (h:v=(y:Int)):Value.int .u8 (v%256)=au (UInt8.ofNat y):=by
 subst h;unfold au;rw[UInt8.toNat_ofNat'];simp
theorem qc (sb:Nat) (ty:TypeId) (rest:List Value) (data:List UInt8) (w:World) (h:gT w sb ty rest data) (hlen:data.length<576460752303423488) (hK:fp w) (hKlt:5<w.heap.size):
  Calls Tryz.prog 169 #[.pointer (some ⟨sb,0,none⟩)] w fun e w'=>e= .returned (.string ⟨(mf data).toArray⟩)/\Below w.heap.size w w':=by
 obtain⟨buf,hb64,htl,hbox⟩:=h;have HBX:=ab hbox;have HTL:=ab htl;have HK:=ab hK;have HL64:=ab hb64;have hsl:=lt_of_block hbox;obtain⟨n,hn⟩: ∃n,n=data.length:=⟨_,rfl⟩;have c72:=(cell_of_row w _ 72 _ _ _ HBX.out).trans (su _ hb64 data.length rest);rw[<-hn]at c72 hlen;have HN:=ab hn;clear hbox htl hK hb64 hn;have HSZ:=ab (Dw (eE data (data.length/64)) HL64.out data.length)
 have HONE:=ab (all_oneCell_toArray (Fj (eE data (data.length/64)) buf data.length));have HI73:=ab (show(Tryz.prog.info? 218).map (·.size)=some (bc (eE data (data.length/64)) buf data.length).length by rw[fD _ HL64.out]; kernel_rfl);have HI73b:=ab (show(Tryz.prog.info? 218).map (·.size)=some (bc (eE data (data.length/64)) buf data.length).toArray.size by rw[HSZ.out]; kernel_rfl)
 have HRG:=ab (Ba HBX.out)
 go_enter Tryz.func169,Tryz.ntmps169
 go_wp2_with (first | (refine wpList_load_mid rfl 218 _ rfl sb 0 rfl (bc (eE data (data.length/64)) buf data.length) _ HRG.out Tryz.underlying218 rfl HI73.out ?_) | (refine wpList_store_row rfl 218 _ _ rfl w.heap.size _ rfl rfl _ _ (heap_alloc_new w _) HI73b.out (HSZ.out.symm) HONE.out ?_));obtain⟨W1,hW1⟩: ∃W1,W1=(w.alloc (.cells Tryz.zeroCells218 218)).setRow w.heap.size (bc (eE data (data.length/64)) buf data.length).toArray:=⟨_,rfl⟩
 rw[<-hW1];have hsz1:W1.heap.size=w.heap.size+1:=by rw[hW1]; simp
 have HBW:=ab (show Below w.heap.size w W1 by rw[hW1]; exact below_setRow ((Below.refl _ _).alloc (Nat.le_refl _) _) (Nat.le_refl _) _);have HPB:=ab (show gT W1 w.heap.size 218 [] data from⟨buf,HL64.out,HTL.out,by rw[hW1,List.append_nil]; exact setRow_heap _ _ _ _ _ _ (heap_alloc_new w _)⟩);clear hW1;rw[<-hsz1];obtain⟨W2,hW2⟩: ∃W2,W2=W1.alloc (.cells #[.int .u8 128] 5):=⟨_,rfl⟩
 have HP0:=ab (show oq w W1 W2 (.slice (some ⟨W1.heap.size,0,none⟩) 1 1) (nH 0)from⟨by
  rw[hW2];exact World.ownsRow_lit (e:=5) (size:=1) (base:=w.heap.size+1) W1 #[.int .u8 128] 1 (by omega) (by decide) (by simp),by rw[hW2]; exact(Below.refl _ _).alloc (Nat.le_refl _) _⟩)
 rw[<-hW2];clear hW2;have HSZ1:=ab hsz1;clear hsz1;have hzn:iM n<64:=by unfold iM; omega
 go_loopw [4] (fun x wr=> ∃z:Nat,z<=iM n/\oq w W1 wr x (nH z)) (fun x _=>64-EJ x)
 case atStart=>exact⟨0,by omega,HP0.out⟩
 case round=>
  obtain⟨z,hz,hpad⟩:=hrel;obtain⟨ao,co,rfl,h1,h2⟩:=aj hpad.row;have hl:(nH z).length=z+1:=pN z;have hpd:=hpad;rw[hl]at hpd;have HPD:=ab hpd;clear hpd;rw[hl]at h1 ⊢;have HROW:=ab (show wr.ownsRow (w.heap.size+1) 5 1 (.slice ao (z+1) co) (z+1) ((nH z).map au) by have:=hpad.row; rw[hl]at this; exact this);have hbz:=hpad.below.size;clear hpad HP0
  have c72r:=(HPD.out.below.cell (p:=⟨sb,72,none⟩) (by have:=HSZ1.out; show sb<_; omega)).trans ((HBW.out.cell (p:=⟨sb,72,none⟩) hsl).trans c72)
  by_cases hzz:z<iM n
  ·have hne: ¬((n:Int)+((z:Int)+1))%64=56:=by unfold iM at hzz; omega
   have HZ:=ab (show ∀u∈[(Value.int .u8 0)],u.oneCell'=true by simp[Value.oneCell']);have hzb:z+1+1<1099511627775:=by omega
   have hzc:w.heap.size+1<=wr.heap.size:=by have:=HSZ1.out; omega
   go_wp2_with (at_builtin; (refine kq rfl _ _ rfl (w.heap.size+1) (.slice ao (z+1) co) (z+1) 1 ((nH z).map au) rfl wr [.int .u8 0] _ rfl rfl HZ.out HROW.out hzb hzc ?_); intro v' wc hown' hgrow'; have HP3:=ab (HPD.out.app (x:=0) HSZ1.out hown' hgrow' hl.symm rfl); obtain⟨ae,ce,rfl,-,-⟩:=aj hown'; clear hown' hgrow')
   go_roundw
   case rel=>exact⟨z+1,by omega,by rw[Ap]; exact HP3.out⟩
   case measure=>simp[EJ]; omega
  ·have hez:z=iM n:=by omega
   have heq:((n:Int)+((z:Int)+1))%64=56:=by rw[hez]; unfold iM; omega
   have HZE:=ab hez
   go_upto_region 6 with(fail)
   rename ((_ != _)=false)=>hcond
   clear hcond heq hez hzz;obtain⟨pz,hpz⟩: ∃pz,pz=nH z:=⟨_,rfl⟩;have HPZ:=ab hpz;have HQ0:=ab (show oq w W1 wr (.slice ao (z+1) co) (pz++(sT (n*8)).take 0) by rw[List.take_zero,List.append_nil,hpz]; exact HPD.out);clear hpz;go_wp2_with fail
   go_loopw [4,6] (fun x s wr=> ∃k:Nat,k<=8/\s= .int .i64 (56-8*(k:Int))/\oq w W1 wr x (pz++(sT (n*8)).take k)) (fun _ s _=>(intOf s+8).toNat)
   case atStart=>exact⟨0,by omega,rfl,HQ0.out⟩
   case round=>
    obtain⟨k,hk,rfl,hpad⟩:=hrel;obtain⟨aq,cq,rfl,h1q,h2q⟩:=aj hpad.row;obtain⟨pl,hpl⟩: ∃pl,pl=(pz++(sT (n*8)).take k).length:=⟨_,rfl⟩;rw[<-hpl]at hpad h1q ⊢;have HQD:=ab hpad;have HROW2:=ab (show wr.ownsRow (w.heap.size+1) 5 1 (.slice aq pl cq) pl ((pz++(sT (n*8)).take k).map au) by have:=hpad.row; rw[<-hpl]at this; exact this);have HPL:=ab hpl
    have hplb:pl<=72:=by rw[hpl,List.length_append,HPZ.out,pN]; have:=List.length_take_le k (sT (n*8)); have:(sT (n*8)).length=8:=rfl; omega
    have hbz2:=hpad.below.size;have hbz3:=HSZ1.out▸hbz2;clear hpad hpl
    by_cases hk8:k<8
    ·obtain⟨sN,hsN⟩: ∃sN:Nat,56-8*(k:Int)=(sN:Int):=⟨56-8*k,by omega⟩;rw[hsN];have hsl2:(sN:Int)<=56:=by omega
     have hmin:min sN 64=sN:=by omega
     obtain⟨x,hx⟩: ∃x,x=(sT (n*8)).getD k 0:=⟨_,rfl⟩;have HV:=ab (show Value.int .u8 ((n:Int)*8/2^sN%256)=au x by rw[hx,Es _ hk8 (by omega:sN=56-8*k)]; exact iQ _ _ rfl);have HTK:=ab (show(sT (n*8)).take (k+1)=(sT (n*8)).take k++[x] by rw[hx,List.take_add_one,BW _ hk8]; rfl);have HSN:=ab hsN;have hsn8: -8<=(sN:Int)-8:=by omega
     clear hx hsN;have HZ:=ab (show ∀u∈[(Value.int .u8 ((n:Int)*8/2^sN%256))],u.oneCell'=true by simp[Value.oneCell']);have hzb:pl+1<1099511627775:=by omega
     have hzc:w.heap.size+1<=wr.heap.size:=by have:=HSZ1.out; omega
     go_wp2_with (at_builtin; go_loud (refine kq rfl _ _ rfl (w.heap.size+1) (.slice aq pl cq) pl 1 ((pz++(sT (n*8)).take k).map au) rfl wr [.int .u8 ((n:Int)*8/2^sN%256)] _ rfl rfl HZ.out HROW2.out hzb hzc ?_); intro v' wc hown' hgrow'; go_loud (have HP3:=ab (HQD.out.app (x:=x) HSZ1.out hown' hgrow' HPL.out (by rw[HV.out]))); obtain⟨ae,ce,rfl,-,-⟩:=aj hown'; clear hown' hgrow')
     go_roundw
     case rel=>exact⟨k+1,by omega,by have:=HSN.out; congr 1; omega,by rw[HTK.out,<-List.append_assoc]; exact HP3.out⟩
     case measure=>simp[intOf]; omega
    ·obtain rfl:k=8:=by omega
     have hpp:pz++(sT (n*8)).take 8=nG data.length:=by
      rw[HPZ.out,HZE.out,<-HN.out,List.take_of_length_le (show(sT (n*8)).length<=8 from Nat.le_refl _)];unfold nG nH;rw[Nat.mod_eq_of_lt (by omega)]
     have hby:aD (· ≠w.heap.size) wr (.slice aq pl cq) (nG data.length):=by
      have h9:=bq HROW2.out;rw[hpp]at h9;have h10:pl=(nG data.length).length:=by rw[<-hpp]; exact HPL.out
      rw[h10]at h9 ⊢;exact h9.weak (fun j hj=>by show j≠w.heap.size; have:=hj.1; omega)
     have HBY:=ab hby
     have HPP:=ab hpp;clear hby hpp;have hpl2:(nG data.length).length<=80:=by rw[CY]; unfold iM; omega
     go_wp2_with fail;refine(fl w.heap.size 218 [] data (nG data.length) (.slice aq pl cq) wr ?_ HBY.out (by have:=HN.out; omega) ?_ (by have:=HSZ1.out; omega) (by omega)).mono ?_
     ·obtain⟨b1,b2,b3,b4⟩:=HPB.out;exact⟨b1,b2,b3,(HQD.out.below.block _ (lt_of_block b4)).trans b4⟩
     ·intro j x hj;rw[<-HK.out j x hj];exact World.cell?_of_block ((HQD.out.below.block _ (by have:=HSZ1.out; show 5<_; omega)).trans (HBW.out.block _ hKlt))
     ·rintro e w3 ⟨rfl,hsha,hg3⟩;obtain⟨buf2,hb1,hb2,hb3⟩:=hsha;obtain⟨vv,hvv⟩: ∃vv,vv=eE (data++nG data.length) ((data++nG data.length).length/64):=⟨_,rfl⟩;rw[<-hvv,dX]at hb3;have HB3:=ab hb3;have HVV:=ab hvv;have hz3:=hg3.size;have HBL3:=ab (show Below w.heap.size w w3 from((HBW.out.trans (HQD.out.below.mono HBW.out.size)).grown hg3 (by have:=HSZ1.out; omega) (fun k hk=>by cases hk; exact Nat.le_refl _)))
      have hzz3:w.heap.size+1<=w3.heap.size:=by have:=HSZ1.out; omega
      clear hb1 hb2 hb3 hvv hg3;obtain⟨ht9,⟨i9,z9,h91,h92,h93,h94,h95⟩,-,-⟩:=Tryz.appBytes;have hb32:i9.bytes*32<=281474976710656:=by rw[h94]; decide
      have H9:=ab (And.intro h91 (And.intro h92 (And.intro h93 hb32)));clear h91 h92 h93 h94 h95 hb32
      go_upto_region 12 with(refine wpList_make_own _ rfl _ _ 29 rfl (w.heap.size+1) 5 i9 z9 1 Tryz.underlying29 H9.out.1 H9.out.2.1 H9.out.2.2.1 .i64 .i64 32 32 rfl rfl rfl H9.out.2.2.2 (by decide) hzz3 ?_; intro w4 hown4 hg4; have HO4:=ab hown4; have HG4:=ab hg4; clear hown4 hg4)
      have HBL4:=ab (HBL3.out.trans ((eI HG4.out).mono HBL3.out.size));have HB4:=ab ((HG4.out.block _ (lt_of_block HB3.out) (by simp)).trans HB3.out);have HR4:=ab (nC HB4.out);have hzz4:w.heap.size+1<=w4.heap.size:=by have:=HG4.out.size; omega
      have HO5:=ab (show w4.ownsRow (w.heap.size+1) 5 1 (.slice (some ⟨w3.heap.size,0,none⟩) 0 32) (((vv.list.take 0).flatMap wL).length) (((vv.list.take 0).flatMap wL).map au)from HO4.out);go_wp2_with (refine wpList_load_mid rfl 216 _ rfl w.heap.size 0 rfl [.int .u32 (vv.a:Int), .int .u32 (vv.b:Int), .int .u32 (vv.c:Int), .int .u32 (vv.d:Int), .int .u32 (vv.e:Int), .int .u32 (vv.f:Int), .int .u32 (vv.g:Int), .int .u32 (vv.h:Int)] _ HR4.out Tryz.underlying216 rfl (by kernel_rfl) ?_)
      go_loopw [7,48] (fun x i wr=> ∃k:Nat,k<=8/\i= .int .i64 (k:Int)/\wr.ownsRow (w.heap.size+1) 5 1 x (((vv.list.take k).flatMap wL).length) (((vv.list.take k).flatMap wL).map au)/\Below w.heap.size w wr/\w.heap.size+1<=wr.heap.size) (fun _ i _=>8-(intOf i).toNat)
      case atStart=>exact⟨0,by omega,rfl,HO5.out,HBL4.out,hzz4⟩
      case round=>
       obtain⟨k,hk,rfl,hown,hbel,hzz5⟩:=hrel;obtain⟨asx,csx,rfl,h1s,h2s⟩:=aj hown;obtain⟨sl,hsl5⟩: ∃sl,sl=((vv.list.take k).flatMap wL).length:=⟨_,rfl⟩;rw[<-hsl5]at hown h1s ⊢;have HSL:=ab hsl5;have HOW:=ab hown;have HBE:=ab hbel;have hslb:sl<=32:=by rw[hsl5,ug,List.length_take]; omega
       clear hsl5 hown hbel
       by_cases hk8:k<8
       ·have hI: ∀w,(Instr.index 216 (.agg #[.int .u32 (vv.a:Int), .int .u32 (vv.b:Int), .int .u32 (vv.c:Int), .int .u32 (vv.d:Int), .int .u32 (vv.e:Int), .int .u32 (vv.f:Int), .int .u32 (vv.g:Int), .int .u32 (vv.h:Int)]) (.int .i64 (k:Int))).run Tryz.prog w= .ok (.int .u32 ((vv.list.getD k 0:Nat):Int)) w:=Cv vv hk8;obtain⟨y,hy⟩: ∃y,y=vv.list.getD k 0:=⟨_,rfl⟩
        rw[<-hy]at hI;have HTK:=ab (show(vv.list.take (k+1)).flatMap wL=(vv.list.take k).flatMap wL++wL y by rw[hy,GJ vv hk8,List.flatMap_append]; simp);have HZ:=ab (show ∀u∈[(Value.int .u8 ((y:Int)/16777216%256)), .int .u8 ((y:Int)/65536%256), .int .u8 ((y:Int)/256%256), .int .u8 ((y:Int)%256)],u.oneCell'=true by simp[Value.oneCell']);have HV:=ab (show [(Value.int .u8 ((y:Int)/16777216%256)), .int .u8 ((y:Int)/65536%256), .int .u8 ((y:Int)/256%256), .int .u8 ((y:Int)%256)]=(wL y).map au by
         rw[iQ (y/2^24) _ (by simp),iQ (y/2^16) _ (by simp),iQ (y/2^8) _ (by simp),iQ y _ rfl]; rfl)
        have hk8i:(k:Int)<8:=by omega
        have hslb2:sl+4<1099511627775:=by omega
        clear hy;go_wp2_with (at_builtin; go_loud (refine kq rfl _ _ rfl (w.heap.size+1) (.slice asx sl csx) sl 4 (((vv.list.take k).flatMap wL).map au) rfl wr [.int .u8 ((y:Int)/16777216%256), .int .u8 ((y:Int)/65536%256), .int .u8 ((y:Int)/256%256), .int .u8 ((y:Int)%256)] _ rfl rfl HZ.out HOW.out hslb2 hzz5 ?_); intro v' wc hown' hgrow'; have HO6:=ab hown'; have HG6:=ab hgrow'; obtain⟨ae,ce,rfl,-,-⟩:=aj hown'; clear hown' hgrow')
        go_roundw
        case rel=>
         refine⟨k+1,by omega,by simp, ?_,cJ HBE.out HOW.out HG6.out (by omega) (by omega),by have:=HG6.out.size; omega⟩;rw[HTK.out,List.length_append,yz,List.map_append,<-HV.out,<-HSL.out];exact HO6.out
        case measure=>simp[intOf]; omega
       ·obtain rfl:k=8:=by omega
        have hout:(vv.list.take 8).flatMap wL=mf data:=by
         unfold mf V8.out;rw[<-HVV.out]; rfl
        have hb8:aD (fun _=>True) wr (.slice asx sl csx) (mf data):=by
         have h9:=bq HOW.out;have h10:=HSL.out;rw[hout]at h9 h10;rw[h10]at h9 ⊢;exact h9.weak (fun _ _=>trivial)
        have hcv:=Cg hb8;have HBE2:=ab HBE.out;clear hb8 hout;go_wp2_with fail;go_ret;exact⟨rfl,HBE2.out⟩
theorem EH {bs:List UInt8} (hl:bs.length=64) {k:Nat} (hk:k<64) {b:UInt8} (hb:bs[k]? =some b) (w:World):(Instr.index 213 (.agg (bs.map au).toArray) (.int .i64 (k:Int))).run Tryz.prog w= .ok (.int .u8 (b.toNat:Int)) w:=by
 have hz:(sizeOf 5).run Tryz.prog w= .ok 1 w:=by kernel_rfl
 obtain⟨h1,rfl⟩:=List.getElem?_eq_some_iff.1 hb;simp[Instr.index,asIntOf,run_underlying Tryz.underlying213,part,hz,hl,hk]
 rfl
theorem mY {w:World} {fb o:Nat} {bs:List UInt8} {ty:TypeId} (h:w.heap[fb]? =some (.cells (bs.map au).toArray ty (0,0))) (ho:o=0:=by rfl):w.rangeAt fb o (bs.map au):=by
 subst ho;intro j x hj;rw[cell_of_row w _ _ _ _ _ h,Nat.zero_add,List.getElem?_toArray];exact hj
def cg (bs:List UInt8) (p:UInt8):List UInt8:=bs.map fun x=>x^^^p
structure kK (w : World) (bs : List UInt8) (p : UInt8) (k : Nat) (wr : World) : Prop where
 box:wr.heap[w.heap.size]? =some (.cells ((cg bs p).take k++List.replicate (64-k) 0 |>.map au).toArray 213 (0,0))
 below:Below w.heap.size w wr
theorem Gj (a b:UInt8):bits BinOp.xor IntKind.u8 (a.toNat:Int) (b.toNat:Int)=(((a^^^b).toNat:Nat):Int):=by
 rw[u8_xor_nat _ _ a.toNat_lt b.toNat_lt,UInt8.toNat_xor]
theorem kK.put {w wr:World} {bs:List UInt8} {p b:UInt8} {k:Nat} (h:kK w bs p k wr) (hl:bs.length=64) (hk:k<64) (hb:bs[k]? =some b):kK w bs p (k+1) (wr.setCell ⟨w.heap.size,k,none⟩ (au (b^^^p))):=by
 refine⟨?_,h.below.trans ⟨rfl,rfl,rfl,by simp[World.setCell],fun j hj=>heap_setCell_other wr _ j _ (by show j≠w.heap.size; omega)⟩⟩;rw[heap_setCell_same wr _ _ _ _ _ h.box]
 congr 2
 have e1:(cg bs p).take (k+1)=(cg bs p).take k++[b^^^p]:=by
  rw[List.take_add_one]
  congr 1
  unfold cg;rw[List.getElem?_map,hb]; rfl
 have e2:((cg bs p).take k).length=k:=by unfold cg; rw[List.length_take,List.length_map,hl]; omega
 rw[e1,show 64-k=(64-(k+1))+1 by omega,List.replicate_succ,List.setIfInBounds_toArray,List.map_append,List.set_append_right _ _ (by rw[List.length_map,e2]; omega),List.length_map,e2,Nat.sub_self];simp
theorem kK.here {w wr:World} {bs:List UInt8} {p:UInt8} {k:Nat} (h:kK w bs p k wr) (hl:bs.length=64) (hk:k<64):wr.cell? ⟨w.heap.size,k,none⟩=some (.int .u8 0):=by
 have e2:((cg bs p).take k).length=k:=by unfold cg; rw[List.length_take,List.length_map,hl]; omega
 rw[cell_of_row wr _ _ _ _ _ h.box,List.getElem?_toArray,List.map_append,List.getElem?_append_right (by rw[List.length_map,e2]; omega),List.length_map,e2,Nat.sub_self,show 64-k=(64-(k+1))+1 by omega]
 rfl
theorem kK.drew {w wr:World} {bs:List UInt8} {p:UInt8} {k:Nat} (h:kK w bs p k wr):kK w bs p k wr.drew:=⟨h.box,h.below.trans (Below.refl _ _).drew⟩
theorem gg (fb:Nat) (bs:List UInt8) (p:UInt8) (w:World) (hf:w.heap[fb]? =some (.cells (bs.map au).toArray 213 (0,0))) (hl:bs.length=64):
  Calls Tryz.prog 166 #[.int .u8 (p.toNat:Int), .pointer (some ⟨fb,0,none⟩)] w fun e w'=>e= .returned (.agg ((cg bs p).map au).toArray)/\Below w.heap.size w w':=by
 have HF:=ab hf;have hlt:=lt_of_block hf;clear hf
 go_enter Tryz.func166,Tryz.ntmps166
 go_upto_region 1 with(fail)
 change Code.wp _ _ _ _ (w.alloc (.cells (List.replicate 64 (Value.int .u8 0)).toArray 213))
 obtain⟨W1,hW1⟩: ∃W1,W1=w.alloc (.cells (List.replicate 64 (Value.int .u8 0)).toArray 213):=⟨_,rfl⟩;have HX0:=ab (show kK w bs p 0 W1 from⟨by rw[hW1]; exact heap_alloc_new w _,by rw[hW1]; exact(Below.refl _ _).alloc (Nat.le_refl _) _⟩);have HR:=ab (mY ((HX0.out.below.block fb hlt).trans HF.out));have HL:=ab hl;have HI:=ab (show(Tryz.prog.info? 213).map (·.size)=some (bs.map au).length by rw[List.length_map,hl]; kernel_rfl)
 rw[<-hW1];clear hW1;go_wp2_with (refine wpList_load_mid rfl 213 _ rfl fb 0 rfl (bs.map au) _ HR.out Tryz.underlying213 rfl HI.out ?_)
 go_loopw [7] (fun i wr=> ∃k:Nat,k<=64/\i= .int .i64 (k:Int)/\kK w bs p k wr) (fun i _=>64-(intOf i).toNat)
 case atStart=>exact⟨0,by omega,rfl,HX0.out⟩
 case round=>
  obtain⟨k,hk,rfl,hx⟩:=hrel;have HX:=ab hx;have hz:=hx.below.size;clear hx hl
  by_cases h64:k<64
  ·obtain⟨b,hb⟩: ∃b,bs[k]? =some b:=⟨bs[k]'(by rw[HL.out]; exact h64),List.getElem?_eq_getElem _⟩;have hI:=EH HL.out h64 hb;have ch:=HX.out.here HL.out h64;have cf:=frozen_of_row wr _ k _ _ HX.out.box;have hk64:(k:Int)<64:=by omega
   have HB:=ab hb;clear hb;go_wp2_with fail
   go_roundw
   case rel=>
    rw[Gj];exact⟨k+1,by omega,by simp,HX.out.put HL.out h64 HB.out⟩
   case measure=>simp[intOf]; omega
  ·obtain rfl:k=64:=by omega
   have hbx:wr.heap[w.heap.size]? =some (.cells ((cg bs p).map au).toArray 213 (0,0)):=by
    rw[HX.out.box,Nat.sub_self,List.replicate_zero,List.append_nil,List.take_of_length_le (by unfold cg; rw[List.length_map,HL.out]; exact Nat.le_refl _)]
   have hlen:(cg bs p).length=64:=by unfold cg; rw[List.length_map,HL.out]
   have HBX:=ab hbx;have HR2:=ab (mY hbx);have HI2:=ab (show(Tryz.prog.info? 213).map (·.size)=some ((cg bs p).map au).length by rw[List.length_map,hlen]; kernel_rfl);have HI3:=ab (show(Tryz.prog.info? 213).map (·.size)=some ((cg bs p).map au).toArray.size by rw[List.size_toArray,List.length_map,hlen]; kernel_rfl);have H1:=ab (all_oneCell_toArray (eq (cg bs p)))
   clear hbx;go_wp2_with (first | (refine wpList_load_mid rfl 213 _ rfl w.heap.size 0 rfl ((cg bs p).map au) _ HR2.out Tryz.underlying213 rfl HI2.out ?_) | (refine wpList_store_row rfl 213 _ _ rfl w.heap.size _ rfl rfl _ _ HBX.out HI3.out rfl H1.out ?_));refine bodyPost_ret (results_cell_row rfl _ _ w.heap.size _ _ _ _ rfl (setRow_heap wr _ _ _ _ _ HBX.out) Tryz.underlying213 rfl HI3.out) rfl ?_
   exact⟨rfl,below_setRow HX.out.below (Nat.le_refl _) _⟩
def BE (w:World):Prop:=w.cell? ⟨0,0,none⟩=some (.int .u8 54)/\w.cell? ⟨0,1,none⟩=some (.int .u8 92)
theorem ul (w:World) (e:TypeId) (s:ByteArray):Below w.heap.size w (Lib.bytesWorld w e s):=
 ⟨rfl,rfl,rfl,by rw[Lib.bytesWorld_size]; omega,fun k hk=>Lib.bytesWorld_at_old w e s k hk⟩
theorem sW (w:World) (s:ByteArray) (hs:s.size<=maxLen):aD (fun k=>k=w.heap.size) (Lib.bytesWorld w 5 s) (.slice (some ⟨w.heap.size,0,none⟩) s.size (grownCap w s.size 0 5)) (bl s):=by
 have e:s.size=(bl s).length:=ay s;unfold aD aS;rw[<-e];refine⟨by rw[List.length_map,e,Nat.mul_one],_,_,rfl,grownCap_ge _ _ _ _,grownCap_le_maxLen _ _ _ _ hs, .inr ⟨w.heap.size,0,rfl,rfl,fun j u hj=> ?_⟩⟩;have hlt:=(List.getElem?_eq_some_iff.1 hj).1;rw[List.length_map,<-e]at hlt;rw[Nat.zero_add,Lib.bytesWorld_cell w _ s j hlt,<-hj,List.getElem?_map];have hl2:j<s.data.toList.length:=by simpa using hlt
 show _=Option.map au (s.data.toList[j]?)
 rw[List.getElem?_eq_getElem hl2,List.getD_eq_getElem?_getD,List.getElem?_eq_getElem hl2]
 rfl
theorem rm (s:ByteArray) (w:World) (hs:s.size<=maxLen): ∃W cp,(convert 9 29 (.string s)).run Tryz.prog w= .ok (.slice (some ⟨w.heap.size,0,none⟩) s.size cp) W/\aD (fun k=>k=w.heap.size) W (.slice (some ⟨w.heap.size,0,none⟩) s.size cp) (bl s)/\Below w.heap.size w W/\W.heap.size=w.heap.size+1:=
 ⟨_,_,Lib.run_convert_string_bytes (P:=Tryz.prog) w 9 29 5 s Tryz.underlying9 Tryz.underlying29 Tryz.underlying5,sW w s hs,ul w _ s,Lib.bytesWorld_size w _ s⟩
def fX (xs:List ByteArray):List UInt8:=xs.flatMap bl
theorem gT.below {w w':World} {sb:Nat} {ty:TypeId} {rest:List Value} {data:List UInt8} (h:gT w sb ty rest data) (hb:Below w.heap.size w w'):gT w' sb ty rest data:=by
 obtain⟨b,h1,h2,h3⟩:=h;exact⟨b,h1,h2,(hb.block _ (lt_of_block h3)).trans h3⟩
theorem fp.below {w w':World} (h:fp w) (hb:Below w.heap.size w w') (hlt:5<w.heap.size):fp w':=by
 intro j x hj;rw[<-h j x hj];exact World.cell?_of_block (hb.block _ hlt)
theorem pA {xs:List ByteArray} {k:Nat} {s:ByteArray} (h:xs[k]? =some s):fX (xs.take (k+1))=fX (xs.take k)++bl s:=by
 unfold fX;rw[List.take_add_one,h,List.flatMap_append]; simp
theorem Cz {xs:List ByteArray} (k:Nat):(fX (xs.take k)).length<=(fX xs).length:=by
 unfold fX
 conv=>rhs; rw[<-List.take_append_drop k xs,List.flatMap_append,List.length_append]
 omega
theorem vZ (S:Nat->Prop) (xs:List ByteArray) (v:Value) (w:World) (hv:jh S w v xs) (hx: ∀s∈xs,s.size<=maxLen) (hn:xs.length<=1000) (hl:(fX xs).length<576460752303423488) (hI:iw w) (hK:fp w) (hKlt:5<w.heap.size):
  Calls Tryz.prog 165 #[v] w fun e w'=>e= .returned (.string ⟨(mf (fX xs)).toArray⟩)/\Below w.heap.size w w':=by
 obtain⟨hvl,a,cap,rfl,hcap,hcm,h0⟩:=hv;have HK:=ab hK;have HX:=ab hx;have H0:=ab h0;have HL:=ab hl;clear hx h0 hK hl
 go_enter Tryz.func165,Tryz.ntmps165
 go_wp2_with fail;refine(pZ _ hI).mono ?_;rintro e w1 ⟨rfl,hs1,hb1,hz1⟩;have HS1:=ab hs1;have HB1:=ab hb1;clear hs1 hb1 hI;go_wp2_with fail;obtain⟨n,hn2⟩: ∃n,n=xs.length:=⟨_,rfl⟩;have HN:=ab hn2;rw[<-hn2]at hn ⊢;clear hn2
 go_loopw [9] (fun i wr=> ∃k:Nat,k<=n/\i= .int .i64 (k:Int)/\gT wr w.heap.size 218 [] (fX (xs.take k))/\Below w.heap.size w wr/\w.heap.size<wr.heap.size) (fun i _=>n-(intOf i).toNat)
 case atStart=>exact⟨0,by omega,rfl,HS1.out,HB1.out,hz1⟩
 case round=>
  obtain⟨k,hk,rfl,hs,hb,hz⟩:=hrel;have HS:=ab hs;have HB:=ab hb;clear hs hb
  by_cases hkn:k<n
  ·have hkx:k<xs.length:=by have:=HN.out; omega
   obtain⟨s,hs⟩: ∃s,xs[k]? =some s:=⟨_,List.getElem?_eq_getElem hkx⟩;have H0x:=H0.out
   rcases H0x with h0 | ⟨b,o,rfl,hS,hc⟩
   ·omega
   ·have c0:=hc k (.string s) (by rw[List.getElem?_map,hs]; rfl);have hltb:=block_lt_of_cell c0;have c1:=(HB.out.cell (p:=⟨b,o+k,none⟩) hltb).trans c0;have hki:(k:Int)<(n:Int):=by omega
    have hsz:s.size<=maxLen:=HX.out s (List.mem_of_getElem? hs);obtain⟨W2,cp,hcv,hby,hbw,hsz2⟩:=rm s wr hsz;have HBY:=ab hby
    have HBW:=ab hbw;have HSS:=ab hs;clear hby hbw hs c0 hc;go_wp2_with fail;refine(fl w.heap.size 218 [] (fX (xs.take k)) (bl s) _ W2 (HS.out.below HBW.out) (HBY.out.weak (fun j hj=>by show j≠w.heap.size; omega)) (by have h1:=pA HSS.out; have h2:=Cz (xs:=xs) (k+1); rw[h1,List.length_append]at h2; have:=HL.out; omega) (HK.out.below (ag HB.out HBW.out) hKlt) (by have:=HBW.out.size; omega) (by omega)).mono ?_
    rintro e w3 ⟨rfl,hs3,hg3⟩;have HS3:=ab hs3;have HB3:=ab (show Below w.heap.size w w3 from(ag HB.out HBW.out).grown hg3 (by omega) (fun j hj=>by cases hj; exact Nat.le_refl _));have hz3:w.heap.size<w3.heap.size:=by have:=hg3.size; omega
    clear hs3 hg3;go_wp2_with fail
    go_roundw
    case rel=>exact⟨k+1,by omega,by simp,by rw[pA HSS.out]; exact HS3.out,HB3.out,hz3⟩
    case measure=>simp[intOf]; omega
  ·obtain rfl:k=n:=by omega
   have hall:fX (xs.take k)=fX xs:=by rw[HN.out,List.take_length]
   go_wp2_with fail;refine(qc w.heap.size 218 [] (fX (xs.take k)) wr HS.out (by rw[hall]; exact HL.out) (HK.out.below HB.out hKlt) (by omega)).mono ?_;rintro e w3 ⟨rfl,hb3⟩;have HB3:=ab (ag HB.out hb3);clear hb3;rw[hall];go_wp2_with fail;go_ret;exact⟨rfl,HB3.out⟩
theorem uI (off:Nat): ∀(xs:List Value) (k:Nat) (cs:Array Value),off+k+xs.length<=cs.size->
  ((xs.zipIdx k).foldl (fun cs p=>cs.setIfInBounds (off+p.2) p.1) cs).toList=cs.toList.take (off+k)++(xs++cs.toList.drop (off+k+xs.length))
 | [],k,cs,_=>by simp
 | x::xs,k,cs,h=>by
  rw[List.length_cons]at h;rw[List.zipIdx_cons,List.foldl_cons,uI off xs (k+1) _ (by simp; omega),Array.toList_setIfInBounds];have h1:off+k<cs.toList.length:=by simp; omega
  have h2:((cs.toList.set (off+k) x).take (off+(k+1)))=cs.toList.take (off+k)++[x]:=by
   rw[show off+(k+1)=off+k+1 by omega,List.take_add_one,List.take_set_of_le (Nat.le_refl _),List.getElem?_set_self h1]; rfl
  have h3:(cs.toList.set (off+k) x).drop (off+(k+1)+xs.length)=cs.toList.drop (off+k+(xs.length+1)):=by
   rw[List.drop_set_of_lt (by omega),show off+(k+1)+xs.length=off+k+(xs.length+1) by omega]
  rw[h2,h3,List.length_cons]; simp
theorem iS {place:Nat->Option (Nat×Nat)} {cells:Array Value} {i off size:Nat} {a:Array Value} {rest:List (Nat×Value)} (hp:place i=some (off,size)) (ha:a.size=size) (hf:off+size<=cells.size):
  Instr.fill place cells ((i, .agg a)::rest)=Instr.fill place (splice cells.toList off a.toList).toArray rest:=by
 subst ha;have hc:(Value.agg a).cells=a:=rfl;rw[Instr.fill,hp];simp only[hc];rw[if_neg (by simp; omega)]
 congr 1
 apply Array.ext'
 have h:=uI off a.toList 0 cells (by simpa using hf);have e:(a.zipIdx.foldl (fun cs (p:Value×Nat)=>cs.setIfInBounds (off+p.2) p.1) cells)=((a.toList.zipIdx 0).foldl (fun cs (p:Value×Nat)=>cs.setIfInBounds (off+p.2) p.1) cells):=by
  rw[<-Array.foldl_toList,Array.toList_zipIdx]
 show(a.zipIdx.foldl (fun cs (p:Value×Nat)=>cs.setIfInBounds (off+p.2) p.1) cells).toList=_
 rw[e,h];simp[splice]
end Go.Proofs.YtpffpjbkbaleiaaGreatDoor
namespace Go.Proofs.YtpffpjbkbaleiaaGreatDoor
open Go
theorem yM {P:Program} {ops:Array Oper} {Q:Exit->Act->World->Prop} {S:World->Prop} {dst:Option Tmp} {op:Op} {ty:TypeId} {pos:String} {aft:Array Edge} {g:Option (Nat×Bool)} {fuel:Nat} {listed:Array Bool} {a:Act} {w:World} (i:Nat) (hi:ops[i]? =some ⟨dst,op,ty,pos,aft,g⟩)
  (hw:Region.wanted ⟨dst,op,ty,pos,aft,g⟩ (yielded ops a.tmps)=true)
  (h: ∀K:Act->World->Prop,(∀a w,S w/\lD P ops Q S fuel (listed.setIfInBounds i true) a w->K a w)->wpList P #[] (Exit.then K Q) [⟨dst,op,ty,pos, #[],none⟩] a w):
  wpOp P ops Q i (fun a' w'=>S w'/\wpAnyH P .any ops Q S fuel (listed.setIfInBounds i true) a' w') a w:=by
 have hb:nP P ops (fun a' w'=>S w'/\wpAnyH P .any ops Q S fuel (listed.setIfInBounds i true) a' w') Q [⟨dst,op,ty,pos,aft,g⟩] a w:=
  bw hw (fun K hK=>h K (fun a w hh=>hK a w ⟨hh.1,hh.2.out⟩))
 unfold wpOp;simp only[hi];exact nP.out hb
open Go Go.RowKit
theorem nO {ops:Array Oper} {rest:List Oper} {o:Oper} {a:Act} {Q:Exit->Act->World->Prop} {w:World} (hgd:o.guard=none) (d s:Operand)
  (ho:o.op= .call {callee:= .builtin .copy,args:= #[d,s],argTypes:= #[29,9]}) (g off dLen dCap:Nat) (k:ByteArray) (hd:a.eval d= .slice (some ⟨g,off,none⟩) dLen dCap) (hs:a.eval s= .string k)
  (cur:List Value) (t:TypeId) (hg:w.heap[g]? =some (.cells cur.toArray t (0,0))) (hle:k.size<=dLen) (hfit:off+k.size<=cur.length)
  (h:wpList Tryz.prog ops Q rest (a.put o.dst (.int .i64 (k.size:Int))) (w.setRow g (splice cur off ((bl k).map au)).toArray)):wpList Tryz.prog ops Q (o::rest) a w:=by
 refine wpList_plain hgd fun K hK=> ?_
 have hrun:=Lib.run_copy_row_string (P:=Tryz.prog) w 29 9 o.type 5 g off dLen dCap k cur.toArray t Tryz.underlying29 (by kernel_rfl) hg hle (by simpa using hfit);unfold Oper.wp;simp[execOp,ho,resolve,invoke,builtin,hd,hs,hrun,Result.andThen];refine hK _ _ ?_;have e:splice cur off ((bl k).map au)=cur.take off++(Lib.byteCells k.data.toList++cur.drop (off+k.size)):=by
  unfold splice;rw[List.length_map,<-ay]; rfl
 rw[e]at h
 simpa [goInt]using h
theorem xQ {α:Type} (n:Nat) (x:α) (ys:List α):splice (List.replicate n x) 0 ys=ys++List.replicate (n-ys.length) x:=by
 unfold splice;rw[List.take_zero,List.nil_append,List.drop_replicate,Nat.zero_add]
theorem xx {k:List UInt8} (h:k.length<=64):dq k=k++List.replicate (64-k.length) 0:=by unfold dq; rw[if_neg (by omega)]
theorem iw.below {w0 w w':World} (h:iw w) (hb:Below w0.heap.size w w') (hlt:2<w0.heap.size):iw w':=by
 intro j x hj;rw[<-h j x hj];exact World.cell?_of_block (hb.block _ hlt)
theorem kE {w:World} {sb:Nat} {cs:List Value} {ty:TypeId} (h:w.heap[sb]? =some (.cells cs.toArray ty (0,0))):w.rangeAt sb 0 cs:=by
 intro j x hj;rw[cell_of_row w _ _ _ _ _ h,Nat.zero_add,List.getElem?_toArray];exact hj
theorem fo {ops:Array Oper} {rest:List Oper} {o:Oper} {a:Act} {w:World} {Q:Exit->Act->World->Prop} (hg:o.guard=none) (t:TypeId) (parts:Array (Nat×Operand)) (ho:o.op= .build t parts) (vs:List (Nat×Value))
  (hv:(parts.map fun(i,x)=>(i,a.eval x)).toList=vs) (c:Array Value) (hb:Tryz.prog.built t vs=some c) (h:wpList Tryz.prog ops Q rest (a.put o.dst (.agg c)) w):wpList Tryz.prog ops Q (o::rest) a w:=by
 subst hv;exact wpList_build hg t parts ho (by rw[hb]; rfl) (by rw[hb]; exact h)
def Gk :List Value:=List.replicate 8 (.int .u32 0)++(List.replicate 64 (.int .u8 0)++([.int .i64 0]++List.replicate 64 (.int .u8 0)))
theorem je :Gk.length=137:=by kernel_rfl
theorem tR {α:Type} {z a b:List α} (h:z.length=a.length+b.length):splice (splice z 0 a) a.length b=a++b:=by
 unfold splice;rw[List.take_zero,List.nil_append,Nat.zero_add,List.take_left,List.drop_append,List.drop_eq_nil_of_le (by omega),List.nil_append,List.drop_drop,List.drop_eq_nil_of_le (by omega),List.append_nil]
theorem mW (a b:List Value) (ha:a.length=73) (hb:b.length=64):Tryz.prog.built 223 [(0, .agg a.toArray),(1, .agg b.toArray)]=some (a++b).toArray:=by
 have h: ∀parts,Tryz.prog.built 223 parts=Instr.fill (fun i=>(#[(0,73),(73,64)]:Array (Nat×Nat))[i]?) Gk.toArray parts:=fun parts=>by kernel_rfl
 rw[h,iS (off:=0) (size:=73) rfl (by simpa using ha) (by rw[List.size_toArray,je]; decide),iS (off:=73) (size:=64) rfl (by simpa using hb) (by rw[List.size_toArray,length_splice _ _ _ (by simp[je,ha]),List.toList_toArray,je]; decide)];simp only[Instr.fill];rw[<-ha,tR (by rw[je,ha,hb])]
theorem re (c:List Value) (hc:c.length=137):Tryz.prog.built 225 [(0, .agg c.toArray)]=some c.toArray:=by
 have h: ∀parts,Tryz.prog.built 225 parts=Instr.fill (fun i=>(#[(0,137)]:Array (Nat×Nat))[i]?) Gk.toArray parts:=fun parts=>by kernel_rfl
 rw[h,iS (off:=0) (size:=137) rfl (by simpa using hc) (by rw[List.size_toArray,je]; decide)];simp only[Instr.fill];unfold splice;rw[List.take_zero,List.nil_append,Nat.zero_add,hc,List.drop_eq_nil_of_le (by rw[je]; decide),List.append_nil]
def mT (w:World) (mb:Nat) (key data:List UInt8):Prop:=gT w mb 225 ((cg (dq key) 92).map au) (cg (dq key) 54++data)
theorem uQ (key:ByteArray) (w:World) (hk:key.size<=64) (hI:iw w) (hK:fp w) (hP:BE w) (hKlt:5<w.heap.size) (hplt:0<w.heap.size) (hilt:2<w.heap.size):
  Calls Tryz.prog 146 #[.string key] w fun e w'=> ∃mb,e= .returned (.pointer (some ⟨mb,0,none⟩))/\w.heap.size<=mb/\mT w' mb (bl key) []/\Below w.heap.size w w':=by
 have HK:=ab hK;have HI:=ab hI;have HP:=ab hP;clear hK hI hP
 go_enter Tryz.func146,Tryz.ntmps146
 go_upto_region 4 with(fail)
 change Code.wp _ _ _ _ (w.alloc (.cells (List.replicate 64 (Value.int .u8 0)).toArray 213))
 obtain⟨W1,hW1⟩: ∃W1,W1=w.alloc (.cells (List.replicate 64 (Value.int .u8 0)).toArray 213):=⟨_,rfl⟩;rw[<-hW1];have HX1:=ab (show W1.heap[w.heap.size]? =some (.cells (List.replicate 64 (Value.int .u8 0)).toArray 213 (0,0)) by rw[hW1]; exact heap_alloc_new w _);have HB1:=ab (show Below w.heap.size w W1 by rw[hW1]; exact(Below.refl _ _).alloc (Nat.le_refl _) _);have hz1:W1.heap.size=w.heap.size+1:=by rw[hW1]; simp
 clear hW1;have HFT:=ab (show 0+key.size<=(List.replicate 64 (Value.int .u8 0)).length by simp; omega)
 go_upto_region 5 with(refine nO rfl _ _ rfl w.heap.size 0 64 64 key rfl rfl _ _ HX1.out hk HFT.out ?_)
 obtain⟨W2,hW2⟩: ∃W2,W2=W1.setRow w.heap.size (splice (List.replicate 64 (Value.int .u8 0)) 0 ((bl key).map au)).toArray:=⟨_,rfl⟩;rw[<-hW2];have HX2:=ab (show W2.heap[w.heap.size]? =some (.cells ((dq (bl key)).map au).toArray 213 (0,0)) by
  rw[hW2,setRow_heap W1 _ _ _ _ _ HX1.out,xx (by rw[<-ay]; exact hk)];rw[xQ,List.length_map,List.map_append,List.map_replicate]; rfl)
 have HB2:=ab (show Below w.heap.size w W2 by rw[hW2]; exact below_setRow HB1.out (Nat.le_refl _) _);have hz2:w.heap.size+1=W2.heap.size:=by rw[hW2,size_setRow,hz1]
 clear hW2 hz1;have HP2:=ab (show W2.cell? ⟨0,1,none⟩=some (.int .u8 92)from(HB2.out.cell (p:=⟨0,1,none⟩) hplt).trans HP.out.2);go_wp2_with fail;refine cM (fun w'=>w'.cell? ⟨0,1,none⟩=some (.int .u8 92)) (by kernel_rfl) ?_;have hS:=HP2.out;obtain⟨V,hV⟩: ∃V:World,V=W2.drew:=⟨_,rfl⟩;rw[<-hV];have HBV:=ab (show Below w.heap.size w V by rw[hV]; exact HB2.out.trans ((Below.refl _ _).drew))
 have HXV:=ab (show V.heap[w.heap.size]? =some (.cells ((dq (bl key)).map au).toArray 213 (0,0)) by rw[hV]; exact HX2.out);have hSV:V.cell? ⟨0,1,none⟩=some (.int .u8 92):=by rw[hV]; exact hS
 have hzV:w.heap.size+1=V.heap.size:=by rw[hV]; exact hz2
 clear hV hS hz2;refine af 3 rfl (by kernel_rfl) (by kernel_rfl) (by kernel_rfl) (fun _ _ _ h=>h) rfl hSV (by intro w' hw1; go_simp; rfl) ?_;simp only[Act.put,aA,aB,aC];refine af 4 rfl (by kernel_rfl) (by kernel_rfl) (by kernel_rfl) (fun _ _ _ h=>h) rfl hSV (by intro w' hw1; go_simp; rfl) ?_;simp only[Act.put,aA,aB,aC];refine af 5 rfl (by kernel_rfl) (by kernel_rfl) (by kernel_rfl) (fun _ _ _ h=>h) rfl hSV (by intro w' hw1; go_simp; rfl) ?_
 simp only[Act.put,aA,aB,aC];refine ar 0 rfl (by kernel_rfl) rfl (fun K hK=> ?_);go_wp2_with fail;refine(pZ V (HI.out.below HBV.out hilt)).mono ?_;rintro e w1 ⟨rfl,hs1,hb1,hz1⟩;have HS1:=ab hs1;have HBV1:=ab hb1;have HB1w:=ab (ag HBV.out hb1);have hS1:w1.cell? ⟨0,1,none⟩=some (.int .u8 92):=(hb1.cell (p:=⟨0,1,none⟩) (by have:=HBV.out.size; show 0<_; omega)).trans hSV
 have HX1b:=ab ((hb1.block w.heap.size (by omega)).trans HXV.out);clear hs1 hb1 hSV;go_wp2_with fail;refine⟨hS1, ?_⟩;refine af 1 rfl (by kernel_rfl) (by kernel_rfl) (by kernel_rfl) (fun _ _ _ h=>h) rfl hS1 (by intro w' hw1; go_simp; rfl) ?_;simp only[Act.put,aA,aB,aC];obtain⟨sbf,hsb1,hsb2,hsb3⟩:=HS1.out;rw[List.append_nil]at hsb3;have HBX:=ab hsb3;have hcl:=fD (eE [] (([]:List UInt8).length/64)) hsb1 ([]:List UInt8).length
 have HSB:=ab hsb1;obtain⟨sc,hsc⟩: ∃sc,sc=bc (eE [] (([]:List UInt8).length/64)) sbf ([]:List UInt8).length:=⟨_,rfl⟩;rw[<-hsc]at HBX hcl;have HSC:=ab hsc;have HCL:=ab hcl;have HI73:=ab (show(Tryz.prog.info? 218).map (·.size)=some sc.length by rw[hcl]; kernel_rfl);clear hsb1 hsb2 hsb3 hcl hsc;refine lD.of (wpAnyH_all (rs:=[2,6]) (by kernel_rfl) (by simp) fun jj hjj=> ?_)
 simp only[List.mem_cons,List.not_mem_nil,or_false]at hjj
 rcases hjj with rfl | rfl
 ·refine yM 2 rfl rfl (fun K hK=> ?_);have HRG:=ab (kE HBX.out);go_wp2_with (refine wpList_load_mid rfl 218 _ rfl V.heap.size 0 rfl sc _ HRG.out Tryz.underlying218 rfl HI73.out ?_);refine⟨hS1, ?_⟩;refine ar 6 rfl (by kernel_rfl) rfl (fun K hK=> ?_);go_wp2_with fail;refine(gg w.heap.size (dq (bl key)) 92 w1 HX1b.out (dP _)).mono ?_;rintro e w2 ⟨rfl,hb2⟩;have HBA:=ab hb2
  have HBB:=ab (ag HB1w.out hb2);have hS2:w2.cell? ⟨0,1,none⟩=some (.int .u8 92):=(hb2.cell (p:=⟨0,1,none⟩) (by have:=HB1w.out.size; show 0<_; omega)).trans hS1;clear hb2;go_wp2_with fail;refine⟨hS2, ?_⟩;obtain⟨oc,hoc⟩: ∃oc,oc=(cg (dq (bl key)) 92).map au:=⟨_,rfl⟩;have ho64:oc.length=64:=by rw[hoc]; unfold cg; rw[List.length_map,List.length_map,dP]
  rw[<-hoc];have HOC:=ab hoc;obtain⟨mc,hmc⟩: ∃mc,mc=sc++oc:=⟨_,rfl⟩;have hbs:=mW sc oc HCL.out ho64;rw[<-hmc]at hbs;have hm137:mc.length=137:=by rw[hmc,List.length_append,HCL.out,ho64]
  have hbm:=re mc hm137;have HMC:=ab hmc;clear hoc hmc ho64 hm137;refine ar 7 rfl (by kernel_rfl) rfl (fun K hK=> ?_);go_wp2_with (refine fo rfl 223 _ rfl [(0, .agg sc.toArray),(1, .agg oc.toArray)] (by kernel_rfl) mc.toArray hbs ?_);refine⟨hS2, ?_⟩;simp only[Act.put,aA,aB,aC];refine ar 8 rfl (by kernel_rfl) rfl (fun K hK=> ?_);go_wp2_with (refine fo rfl 225 _ rfl [(0, .agg mc.toArray)] (by kernel_rfl) mc.toArray hbm ?_)
  refine⟨hS2, ?_⟩;simp only[Act.put,aA,aB,aC];clear hbs hbm;refine ar 9 rfl (by kernel_rfl) rfl (fun K hK=> ?_);go_wp2_with fail;obtain⟨w3,hw3⟩: ∃w3,w3=w2.alloc (.cells mc.toArray 225):=⟨_,rfl⟩;rw[<-hw3];have HM3:=ab (show w3.heap[w2.heap.size]? =some (.cells mc.toArray 225 (0,0)) by rw[hw3]; exact heap_alloc_new _ _);have hb3:Below w2.heap.size w2 w3:=by rw[hw3]; exact(Below.refl _ _).alloc (Nat.le_refl _) _
  have HBC:=ab (ag HBB.out hb3);have hS3:w3.cell? ⟨0,1,none⟩=some (.int .u8 92):=(hb3.cell (p:=⟨0,1,none⟩) (by have:=HBB.out.size; show 0<_; omega)).trans hS2;have HX3:=ab (((hb3.block w.heap.size (by have:=HBB.out.size; have:=HB1w.out.size; have:=HBA.out.size; omega)).trans ((HBA.out.block w.heap.size (lt_of_block HX1b.out)).trans HX1b.out)));clear hw3 hb3 hS2;refine⟨hS3, ?_⟩
  refine ar 10 rfl (by kernel_rfl) rfl (fun K hK=> ?_);go_wp2_with fail;refine⟨hS3, ?_⟩;refine aV (by kernel_rfl) ?_;clear hS3;have hP0:w3.cell? ⟨0,0,none⟩=some (.int .u8 54):=(HBC.out.cell (p:=⟨0,0,none⟩) hplt).trans HP.out.1;go_wp2_with fail;refine(gg w.heap.size (dq (bl key)) 54 w3 HX3.out (dP _)).mono ?_;rintro e w4 ⟨rfl,hb4⟩;have HBD:=ab (ag HBC.out hb4)
  have HM4:=ab ((hb4.block _ (lt_of_block HM3.out)).trans HM3.out);have hlen54:(cg (dq (bl key)) 54).length=64:=by unfold cg; rw[List.length_map,dP]
  have HI64:=ab (show(Tryz.prog.info? 213).map (·.size)=some ((cg (dq (bl key)) 54).map au).toArray.size by rw[List.size_toArray,List.length_map,hlen54]; kernel_rfl);have H1x:=ab (all_oneCell_toArray (eq (cg (dq (bl key)) 54)));have HSZ64:=ab (show(List.replicate 64 (Value.int .u8 0)).toArray.size=((cg (dq (bl key)) 54).map au).toArray.size by rw[List.size_toArray,List.size_toArray,List.length_map,hlen54]; simp)
  have HNEW:=ab (show(w4.alloc (.cells (List.replicate 64 (Value.int .u8 0)).toArray 213)).heap[w4.heap.size]? =some (.cells (List.replicate 64 (Value.int .u8 0)).toArray 213 (0,0))from heap_alloc_new w4 _);clear hb4 hP0;go_wp2_with (refine wpList_store_row rfl 213 _ _ rfl w4.heap.size _ rfl rfl _ _ HNEW.out HI64.out HSZ64.out H1x.out ?_);simp only[Act.put];refine am [some 5,none] (by kernel_rfl) (by kernel_rfl) (by kernel_rfl) ?_
  simp only[aZ,List.take_succ_cons,List.take_zero,List.drop_succ_cons,List.drop_zero];obtain⟨w5,hw5⟩: ∃w5:World,w5=((w4.alloc (.cells (List.replicate 64 (Value.int .u8 0)).toArray 213)).setRow w4.heap.size ((cg (dq (bl key)) 54).map au).toArray).drew:=⟨_,rfl⟩;have HN5:=ab (show w5.heap[w4.heap.size]? =some (.cells ((cg (dq (bl key)) 54).map au).toArray 213 (0,0)) by rw[hw5]; exact setRow_heap _ _ _ _ _ _ HNEW.out)
  have hb5:Below w4.heap.size w4 w5:=by rw[hw5]; exact(below_setRow ((Below.refl _ _).alloc (Nat.le_refl _) _) (Nat.le_refl _) _).drew
  have HM5:=ab ((hb5.block _ (lt_of_block HM4.out)).trans HM4.out);have HBE:=ab (ag HBD.out hb5);have hne45:w4.heap.size≠w2.heap.size:=by have:=lt_of_block HM4.out; omega
  change tX _ _ _ _ _ _
  repeat (first | (refine aw rfl ?_; simp only[Act.put,aA,aB,aC]) | (refine aJ rfl (fun K hK=> ?_); go_simp; refine hK _ ?_; clear hK K))
  refine aI ?_;refine bw rfl (fun K hK=> ?_);go_wp2_with fail
  change Calls _ _ _ (((w4.alloc (.cells (List.replicate 64 (Value.int .u8 0)).toArray 213)).setRow w4.heap.size ((cg (dq (bl key)) 54).map au).toArray).drew) _
  rw[<-hw5];clear hw5;have hby:aD (· ≠w2.heap.size) w5 (.slice (some ⟨w4.heap.size,0,none⟩) 64 64) (cg (dq (bl key)) 54):=⟨by simp,_,_,by rw[hlen54],by omega,by unfold maxLen; omega, .inr ⟨_,_,rfl,hne45,fun j x hj=>by rw[cell_of_row w5 _ _ _ _ _ HN5.out,Nat.zero_add,List.getElem?_toArray]; exact hj⟩⟩;have hsha:gT w5 w2.heap.size 225 oc []:=⟨sbf,HSB.out,by simp,by rw[<-HSC.out,<-HMC.out]; exact HM5.out⟩
  have hge2:w.heap.size+1<=w2.heap.size:=by have:=HBA.out.size; have:=HBV1.out.size; omega
  refine(fl w2.heap.size 225 oc [] (cg (dq (bl key)) 54) _ w5 hsha hby (by rw[hlen54]; decide) (HK.out.below HBE.out hKlt) (by have:=HBE.out.size; omega) (by omega)).mono ?_;rintro e w6 ⟨rfl,hs6,hg6⟩;have HS6:=ab hs6;have HBF:=ab (HBE.out.grown hg6 HBE.out.size (fun k hk=>by cases hk; omega));clear hs6 hg6 hby hsha;go_wp2_with fail;go_ret;refine⟨_,rfl,by omega, ?_,HBF.out⟩
  unfold mT;rw[<-HOC.out,List.append_nil];exact HS6.out
 ·refine yM 6 rfl rfl (fun K hK=> ?_);go_wp2_with fail;refine(gg w.heap.size (dq (bl key)) 92 w1 HX1b.out (dP _)).mono ?_;rintro e w2 ⟨rfl,hb2⟩;have HBA:=ab hb2;have HBB:=ab (ag HB1w.out hb2);have hS2:w2.cell? ⟨0,1,none⟩=some (.int .u8 92):=(hb2.cell (p:=⟨0,1,none⟩) (by have:=HB1w.out.size; show 0<_; omega)).trans hS1;have HRG:=ab (kE ((hb2.block _ (lt_of_block HBX.out)).trans HBX.out))
  clear hb2;go_wp2_with fail;refine⟨hS2, ?_⟩;refine ar 2 rfl (by kernel_rfl) rfl (fun K hK=> ?_);go_wp2_with (refine wpList_load_mid rfl 218 _ rfl V.heap.size 0 rfl sc _ HRG.out Tryz.underlying218 rfl HI73.out ?_);refine⟨hS2, ?_⟩;obtain⟨oc,hoc⟩: ∃oc,oc=(cg (dq (bl key)) 92).map au:=⟨_,rfl⟩;have ho64:oc.length=64:=by rw[hoc]; unfold cg; rw[List.length_map,List.length_map,dP]
  rw[<-hoc];have HOC:=ab hoc;obtain⟨mc,hmc⟩: ∃mc,mc=sc++oc:=⟨_,rfl⟩;have hbs:=mW sc oc HCL.out ho64;rw[<-hmc]at hbs;have hm137:mc.length=137:=by rw[hmc,List.length_append,HCL.out,ho64]
  have hbm:=re mc hm137;have HMC:=ab hmc;clear hoc hmc ho64 hm137;refine ar 7 rfl (by kernel_rfl) rfl (fun K hK=> ?_);go_wp2_with (refine fo rfl 223 _ rfl [(0, .agg sc.toArray),(1, .agg oc.toArray)] (by kernel_rfl) mc.toArray hbs ?_);refine⟨hS2, ?_⟩;simp only[Act.put,aA,aB,aC];refine ar 8 rfl (by kernel_rfl) rfl (fun K hK=> ?_);go_wp2_with (refine fo rfl 225 _ rfl [(0, .agg mc.toArray)] (by kernel_rfl) mc.toArray hbm ?_)
  refine⟨hS2, ?_⟩;simp only[Act.put,aA,aB,aC];clear hbs hbm;refine ar 9 rfl (by kernel_rfl) rfl (fun K hK=> ?_);go_wp2_with fail;obtain⟨w3,hw3⟩: ∃w3,w3=w2.alloc (.cells mc.toArray 225):=⟨_,rfl⟩;rw[<-hw3];have HM3:=ab (show w3.heap[w2.heap.size]? =some (.cells mc.toArray 225 (0,0)) by rw[hw3]; exact heap_alloc_new _ _);have hb3:Below w2.heap.size w2 w3:=by rw[hw3]; exact(Below.refl _ _).alloc (Nat.le_refl _) _
  have HBC:=ab (ag HBB.out hb3);have hS3:w3.cell? ⟨0,1,none⟩=some (.int .u8 92):=(hb3.cell (p:=⟨0,1,none⟩) (by have:=HBB.out.size; show 0<_; omega)).trans hS2;have HX3:=ab (((hb3.block w.heap.size (by have:=HBB.out.size; have:=HB1w.out.size; have:=HBA.out.size; omega)).trans ((HBA.out.block w.heap.size (lt_of_block HX1b.out)).trans HX1b.out)));clear hw3 hb3 hS2;refine⟨hS3, ?_⟩
  refine ar 10 rfl (by kernel_rfl) rfl (fun K hK=> ?_);go_wp2_with fail;refine⟨hS3, ?_⟩;refine aV (by kernel_rfl) ?_;clear hS3;have hP0:w3.cell? ⟨0,0,none⟩=some (.int .u8 54):=(HBC.out.cell (p:=⟨0,0,none⟩) hplt).trans HP.out.1;go_wp2_with fail;refine(gg w.heap.size (dq (bl key)) 54 w3 HX3.out (dP _)).mono ?_;rintro e w4 ⟨rfl,hb4⟩;have HBD:=ab (ag HBC.out hb4)
  have HM4:=ab ((hb4.block _ (lt_of_block HM3.out)).trans HM3.out);have hlen54:(cg (dq (bl key)) 54).length=64:=by unfold cg; rw[List.length_map,dP]
  have HI64:=ab (show(Tryz.prog.info? 213).map (·.size)=some ((cg (dq (bl key)) 54).map au).toArray.size by rw[List.size_toArray,List.length_map,hlen54]; kernel_rfl);have H1x:=ab (all_oneCell_toArray (eq (cg (dq (bl key)) 54)));have HSZ64:=ab (show(List.replicate 64 (Value.int .u8 0)).toArray.size=((cg (dq (bl key)) 54).map au).toArray.size by rw[List.size_toArray,List.size_toArray,List.length_map,hlen54]; simp)
  have HNEW:=ab (show(w4.alloc (.cells (List.replicate 64 (Value.int .u8 0)).toArray 213)).heap[w4.heap.size]? =some (.cells (List.replicate 64 (Value.int .u8 0)).toArray 213 (0,0))from heap_alloc_new w4 _);clear hb4 hP0;go_wp2_with (refine wpList_store_row rfl 213 _ _ rfl w4.heap.size _ rfl rfl _ _ HNEW.out HI64.out HSZ64.out H1x.out ?_);simp only[Act.put];refine am [some 5,none] (by kernel_rfl) (by kernel_rfl) (by kernel_rfl) ?_
  simp only[aZ,List.take_succ_cons,List.take_zero,List.drop_succ_cons,List.drop_zero];obtain⟨w5,hw5⟩: ∃w5:World,w5=((w4.alloc (.cells (List.replicate 64 (Value.int .u8 0)).toArray 213)).setRow w4.heap.size ((cg (dq (bl key)) 54).map au).toArray).drew:=⟨_,rfl⟩;have HN5:=ab (show w5.heap[w4.heap.size]? =some (.cells ((cg (dq (bl key)) 54).map au).toArray 213 (0,0)) by rw[hw5]; exact setRow_heap _ _ _ _ _ _ HNEW.out)
  have hb5:Below w4.heap.size w4 w5:=by rw[hw5]; exact(below_setRow ((Below.refl _ _).alloc (Nat.le_refl _) _) (Nat.le_refl _) _).drew
  have HM5:=ab ((hb5.block _ (lt_of_block HM4.out)).trans HM4.out);have HBE:=ab (ag HBD.out hb5);have hne45:w4.heap.size≠w2.heap.size:=by have:=lt_of_block HM4.out; omega
  change tX _ _ _ _ _ _
  repeat (first | (refine aw rfl ?_; simp only[Act.put,aA,aB,aC]) | (refine aJ rfl (fun K hK=> ?_); go_simp; refine hK _ ?_; clear hK K))
  refine aI ?_;refine bw rfl (fun K hK=> ?_);go_wp2_with fail
  change Calls _ _ _ (((w4.alloc (.cells (List.replicate 64 (Value.int .u8 0)).toArray 213)).setRow w4.heap.size ((cg (dq (bl key)) 54).map au).toArray).drew) _
  rw[<-hw5];clear hw5;have hby:aD (· ≠w2.heap.size) w5 (.slice (some ⟨w4.heap.size,0,none⟩) 64 64) (cg (dq (bl key)) 54):=⟨by simp,_,_,by rw[hlen54],by omega,by unfold maxLen; omega, .inr ⟨_,_,rfl,hne45,fun j x hj=>by rw[cell_of_row w5 _ _ _ _ _ HN5.out,Nat.zero_add,List.getElem?_toArray]; exact hj⟩⟩;have hsha:gT w5 w2.heap.size 225 oc []:=⟨sbf,HSB.out,by simp,by rw[<-HSC.out,<-HMC.out]; exact HM5.out⟩
  have hge2:w.heap.size+1<=w2.heap.size:=by have:=HBA.out.size; have:=HBV1.out.size; omega
  refine(fl w2.heap.size 225 oc [] (cg (dq (bl key)) 54) _ w5 hsha hby (by rw[hlen54]; decide) (HK.out.below HBE.out hKlt) (by have:=HBE.out.size; omega) (by omega)).mono ?_;rintro e w6 ⟨rfl,hs6,hg6⟩;have HS6:=ab hs6;have HBF:=ab (HBE.out.grown hg6 HBE.out.size (fun k hk=>by cases hk; omega));clear hs6 hg6 hby hsha;go_wp2_with fail;go_ret;refine⟨_,rfl,by omega, ?_,HBF.out⟩
  unfold mT;rw[<-HOC.out,List.append_nil];exact HS6.out
structure sO (w : World) : Prop where
 init:iw w
 kons:fp w
 pads:BE w
 ilt:2<w.heap.size
 klt:5<w.heap.size
 plt:0<w.heap.size
theorem sO.below {w w':World} (h:sO w) (hb:Below w.heap.size w w'):sO w':=
 ⟨h.init.below hb h.ilt,h.kons.below hb h.klt,⟨(hb.cell (p:=⟨0,0,none⟩) h.plt).trans h.pads.1,(hb.cell (p:=⟨0,1,none⟩) h.plt).trans h.pads.2⟩,Nat.lt_of_lt_of_le h.ilt hb.size,Nat.lt_of_lt_of_le h.klt hb.size,Nat.lt_of_lt_of_le h.plt hb.size⟩
theorem qy (mb:Nat) (key data xs:List UInt8) (xv:Value) (w:World) (h:mT w mb key data) (hx:aD (· ≠mb) w xv xs) (hlen:64+data.length+xs.length<1152921504606846976) (hE:sO w) (hne:mb≠5):
  Calls Tryz.prog 147 #[.pointer (some ⟨mb,0,none⟩),xv] w fun e w'=>e= .returned (.tuple #[])/\mT w' mb key (data++xs)/\w.grownBy w' (some mb):=by
 have HH:=ab h;have HX:=ab hx;have HE:=ab hE;clear h hx hE
 go_enter Tryz.func147,Tryz.ntmps147
 go_wp2_with fail;refine(fl mb 225 _ _ xs xv w HH.out HX.out (by rw[List.length_append]; unfold cg; rw[List.length_map,dP]; omega) HE.out.kons HE.out.klt hne).mono ?_;rintro e w1 ⟨rfl,h1,h2⟩;have H1:=ab h1;have H2:=ab h2;clear h1 h2;go_wp2_with fail
 go_end0
 refine⟨rfl, ?_,H2.out⟩;unfold mT;rw[<-List.append_assoc];exact H1.out
theorem Gi (k d:List UInt8):wu k d=mf (fX [⟨(cg (dq k) 92).toArray⟩,⟨(mf (cg (dq k) 54++d)).toArray⟩]):=by
 unfold fX wu;rw[List.flatMap_cons,List.flatMap_cons,List.flatMap_nil,List.append_nil,ff,ff]
 rfl
theorem Ab {w:World} {mb:Nat} {key data:List UInt8} (h:mT w mb key data): ∃C:List Value,w.heap[mb]? =some (.cells C.toArray 225 (0,0))/\ ∀w',w'.heap[mb]? =some (.cells C.toArray 225 (0,0))->aD (fun _=>True) w' (.slice (some ⟨mb,73,none⟩) 64 64) (cg (dq key) 92):=by
 obtain⟨buf,h1,h2,h3⟩:=h;refine⟨_,h3,fun w' hw=> ?_⟩;have hl:(cg (dq key) 92).length=64:=by unfold cg; rw[List.length_map,dP]
 refine⟨by simp,_,_,by rw[hl],by omega,by unfold maxLen; omega, .inr ⟨mb,73,rfl,trivial,fun j x hj=> ?_⟩⟩;rw[cell_of_row w' _ _ _ _ _ hw,List.getElem?_toArray,List.getElem?_append_right (by rw[fD _ h1]; omega),fD _ h1,show 73+j-73=j by omega];exact hj
theorem uR (mb:Nat) (key data:List UInt8) (w:World) (h:mT w mb key data) (hlen:64+data.length<288230376151711744) (hE:sO w):
  Calls Tryz.prog 148 #[.pointer (some ⟨mb,0,none⟩)] w fun e w'=>e= .returned (.string ⟨(wu key data).toArray⟩)/\Below w.heap.size w w':=by
 obtain⟨C,hC,hout⟩:=Ab h;have HH:=ab h;have HE:=ab hE;have HC:=ab hC;have HOUT:=ab hout;have hmlt:=lt_of_block hC;clear h hE hC hout
 go_enter Tryz.func148,Tryz.ntmps148
 go_wp2_with fail;refine cM (fun w'=>w'.heap[mb]? =some (.cells C.toArray 225 (0,0))) (by kernel_rfl) ?_;obtain⟨V,hV⟩: ∃V:World,V=w.drew:=⟨_,rfl⟩;rw[<-hV];have HBV:=ab (show Below w.heap.size w V by rw[hV]; exact(Below.refl _ _).drew);have hSV:V.heap[mb]? =some (.cells C.toArray 225 (0,0)):=by rw[hV]; exact HC.out
 have HHV:=ab (show gT V mb 225 ((cg (dq key) 92).map au) (cg (dq key) 54++data) by rw[hV]; exact HH.out);clear hV;refine af 0 rfl (by kernel_rfl) (by kernel_rfl) (by kernel_rfl) (fun _ _ _ h=>h) rfl hSV (by intro w' hw1; go_simp; rfl) ?_;simp only[Act.put,aA,aB,aC];refine af 1 rfl (by kernel_rfl) (by kernel_rfl) (by kernel_rfl) (fun _ _ _ h=>h) rfl hSV (by intro w' hw1; go_simp; rfl) ?_
 simp only[Act.put,aA,aB,aC];refine af 2 rfl (by kernel_rfl) (by kernel_rfl) (by kernel_rfl) (fun _ _ _ h=>h) rfl hSV (by intro w' hw1; go_simp; rfl) ?_;simp only[Act.put,aA,aB,aC];refine af 3 rfl (by kernel_rfl) (by kernel_rfl) (by kernel_rfl) (fun _ _ _ h=>h) rfl hSV (by intro w' hw1; go_simp; rfl) ?_;simp only[Act.put,aA,aB,aC];refine af 4 rfl (by kernel_rfl) (by kernel_rfl) (by kernel_rfl) (fun _ _ _ h=>h) rfl hSV (by intro w' hw1; go_simp; rfl) ?_
 simp only[Act.put,aA,aB,aC];have hcv: ∀w':World,w'.heap[mb]? =some (.cells C.toArray 225 (0,0))->(convert 29 9 (.slice (some ⟨mb,73,none⟩) 64 64)).run Tryz.prog w'= .ok (.string ⟨(cg (dq key) 92).toArray⟩) w':=fun w' hw=>Cg (HOUT.out w' hw)
 refine af 5 rfl (by kernel_rfl) (by kernel_rfl) (by kernel_rfl) (fun _ _ _ h=>h) rfl hSV (by intro w' hw1; have hcv2:=hcv w' hw1; go_simp; rfl) ?_;simp only[Act.put,aA,aB,aC];clear hcv;refine af 6 rfl (by kernel_rfl) (by kernel_rfl) (by kernel_rfl) (fun _ _ _ h=>h) rfl hSV (by intro w' hw1; go_simp; rfl) ?_;simp only[Act.put,aA,aB,aC];refine af 7 rfl (by kernel_rfl) (by kernel_rfl) (by kernel_rfl) (fun _ _ _ h=>h) rfl hSV (by intro w' hw1; go_simp; rfl) ?_
 simp only[Act.put,aA,aB,aC];refine af 8 rfl (by kernel_rfl) (by kernel_rfl) (by kernel_rfl) (fun _ _ _ h=>h) rfl hSV (by intro w' hw1; go_simp; rfl) ?_;simp only[Act.put,aA,aB,aC];refine af 9 rfl (by kernel_rfl) (by kernel_rfl) (by kernel_rfl) (fun _ _ _ h=>h) rfl hSV (by intro w' hw1; go_simp; rfl) ?_;simp only[Act.put,aA,aB,aC];refine ar 10 rfl (by kernel_rfl) rfl (fun K hK=> ?_)
 go_wp2_with fail;refine(qc mb 225 _ _ V HHV.out (by rw[List.length_append]; unfold cg; rw[List.length_map,dP]; omega) (HE.out.below HBV.out).kons (HE.out.below HBV.out).klt).mono ?_;rintro e w1 ⟨rfl,hb1⟩;have HB1:=ab (ag HBV.out hb1);have hS1:w1.heap[mb]? =some (.cells C.toArray 225 (0,0)):=(hb1.block mb (lt_of_block hSV)).trans hSV;clear hb1 hSV;go_wp2_with fail
 refine⟨hS1, ?_⟩;refine ar 11 rfl (by kernel_rfl) rfl (fun K hK=> ?_);obtain⟨so,hso⟩: ∃so:ByteArray,so=⟨(cg (dq key) 92).toArray⟩:=⟨_,rfl⟩;obtain⟨si,hsi⟩: ∃si:ByteArray,si=⟨(mf (cg (dq key) 54++data)).toArray⟩:=⟨_,rfl⟩;have HSO:=ab hso;have HSI:=ab hsi;rw[<-hso,<-hsi];clear hso hsi;go_wp2_with fail;obtain⟨w2,hw2⟩: ∃w2,w2=w1.alloc (.cells #[.string so, .string si] 9):=⟨_,rfl⟩
 rw[<-hw2];have hb2:Below w1.heap.size w1 w2:=by rw[hw2]; exact(Below.refl _ _).alloc (Nat.le_refl _) _
 have HB2:=ab (ag HB1.out hb2);have hS2:w2.heap[mb]? =some (.cells C.toArray 225 (0,0)):=(hb2.block mb (lt_of_block hS1)).trans hS1;have HSTR:=ab (show jh (fun _=>True) w2 (.slice (some ⟨w1.heap.size,0,none⟩) 2 2) [so,si]from⟨by simp,_,_,rfl,by simp,by unfold maxLen; omega, .inr ⟨_,_,rfl,trivial,fun j x hj=>by
  rw[hw2,cell_of_row _ _ _ _ _ _ (heap_alloc_new w1 _),Nat.zero_add]; simpa using hj⟩⟩)
 clear hw2 hb2 hS1;refine⟨hS2, ?_⟩;refine ar 12 rfl (by kernel_rfl) rfl (fun K hK=> ?_);go_wp2_with fail;have hE2:=HE.out.below HB2.out;have hl64:so.size=64:=by rw[HSO.out,ay,ff]; unfold cg; rw[List.length_map,dP]
 have hl32:si.size=32:=by rw[HSI.out,ay,ff,qa]
 refine(vZ (fun _=>True) [so,si] _ w2 HSTR.out (fun s hs=>by
  simp only[List.mem_cons,List.not_mem_nil,or_false]at hs;unfold maxLen
  rcases hs with rfl | rfl<;> omega) (by simp) (by unfold fX; rw[List.flatMap_cons,List.flatMap_cons,List.flatMap_nil,List.append_nil,List.length_append,<-ay,<-ay,hl64,hl32]; decide) hE2.init hE2.kons hE2.klt).mono ?_
 rintro e w3 ⟨rfl,hb3⟩;have HB3:=ab (ag HB2.out hb3);have hS3:w3.heap[mb]? =some (.cells C.toArray 225 (0,0)):=(hb3.block mb (lt_of_block hS2)).trans hS2;rw[HSO.out,HSI.out,<-Gi];clear hb3 hS2 hE2 hl64 hl32;go_wp2_with fail;refine⟨hS3, ?_⟩;refine ar 13 rfl (by kernel_rfl) rfl (fun K hK=> ?_);go_wp2_with fail;refine⟨hS3, ?_⟩;refine aV (by kernel_rfl) ?_;go_wp2_with fail
 go_ret;exact⟨rfl,HB3.out⟩
theorem ni (S:Nat->Prop) (key:ByteArray) (xs:List UInt8) (xv:Value) (w:World) (hk:key.size<=64) (hx:aD S w xv xs) (hlen:xs.length<281474976710656) (hE:sO w):
  Calls Tryz.prog 116 #[.string key,xv] w fun e w'=>e= .returned (.string ⟨(wu (bl key) xs).toArray⟩)/\Below w.heap.size w w':=by
 have HX:=ab hx;have HE:=ab hE;clear hx hE
 go_enter Tryz.func116,Tryz.ntmps116
 go_wp2_with fail;refine(uQ key w hk HE.out.init HE.out.kons HE.out.pads HE.out.klt HE.out.plt HE.out.ilt).mono ?_;rintro e w1 ⟨mb,rfl,hmb,hm,hb⟩;have HM:=ab hm;have HB:=ab hb;clear hm hb;go_wp2_with fail;refine(qy mb (bl key) [] xs xv w1 HM.out ?_ (by simp; omega) (HE.out.below HB.out) (by have:=HE.out.klt; omega)).mono ?_
 ·have h2:=aS.mono (T:=fun k=>k≠mb) HX.out (fun k hk _=>by show k≠mb; omega) (by omega);exact aS.below h2 (by omega) HB.out
 ·rintro e w2 ⟨rfl,hm2,hg2⟩;rw[List.nil_append]at hm2;have HM2:=ab hm2;have HB2:=ab (HB.out.grown hg2 HB.out.size (fun k hk=>by cases hk; omega));clear hm2 hg2;go_wp2_with fail;refine(uR mb (bl key) xs w2 HM2.out (by omega) (HE.out.below HB2.out)).mono ?_;rintro e w3 ⟨rfl,hb3⟩;have HB3:=ab (ag HB2.out hb3);clear hb3;go_wp2_with fail;go_ret;exact⟨rfl,HB3.out⟩
end Go.Proofs.YtpffpjbkbaleiaaGreatDoor
