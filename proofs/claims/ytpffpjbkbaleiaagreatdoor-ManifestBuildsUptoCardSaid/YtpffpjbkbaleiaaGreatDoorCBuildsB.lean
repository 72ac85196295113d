/- Texts of this proof, one after the other: PathA, PathB, ItemA, ItemB, ItemC, ItemD, Last, ItemE, ShaC, ShaD, ShaE, ShaF, HmacA, Built, Opr, HmacB, R3A. -/
import Derived.Test.YtpffpjbkbaleiaaGreatDoorCBuildsA
set_option maxRecDepth 100000
set_option maxHeartbeats 8000000
namespace Go.Proofs.YtpffpjbkbaleiaaGreatDoor
open Go.RowKit
theorem FV {s:ByteArray} {p q:Nat} (h: ∀j,j<p->j<s.size->32<=(s.get! j).toNat) (h2: ∀j,p<=j->j<q->128<=(s.get! j).toNat): ∀j,j<q->j<s.size->32<=(s.get! j).toNat:=by
 intro j hj hs
 rcases Nat.lt_or_ge j p with h' | h'
 ·exact h j h' hs
 ·have:=h2 j h' hj; omega
theorem mI (s:ByteArray) (j:Nat) (h:j<s.size):s.get! j=(bl s)[j]'(by rw[<-am]; exact h):=by
 have e:s.get! j=s.data[j]! :=rfl;have h2:j<s.data.size:=h;rw[e,getElem!_pos s.data j h2];simp[bl]
theorem Br {s:ByteArray} (h: ∀j,j<s.size->32<=(s.get! j).toNat):lN (bl s)=true:=by
 unfold lN;rw[List.all_eq_true];intro c hc;obtain⟨j,hj,rfl⟩:=List.getElem_of_mem hc;have hj2:j<s.size:=by rw[am]; exact hj
 have:=h j hj2;rw[mI s j hj2]at this
 simpa using this
theorem xy {s:ByteArray} {j:Nat} (hj:j<s.size) (h:(s.get! j).toNat<32):lN (bl s)=false:=by
 unfold lN;rw[List.all_eq_false];rw[mI s j hj]at h;exact⟨(bl s)[j]'(by rw[<-am]; exact hj),List.getElem_mem _,by rw[decide_eq_true_eq]; omega⟩
theorem qw (s:ByteArray) (pos:Nat) (h:pos<s.size):
  ((s.get! pos).toNat<128/\Utf8.decode s pos=((s.get! pos).toNat,1))\/(128<=(s.get! pos).toNat/\128<=(Utf8.decode s pos).1):=by
 have e:=get_at s pos h;rw[Nat.add_zero]at e
 rcases Nat.lt_or_ge (s.get! pos).toNat 128 with h1 | h1
 ·exact .inl ⟨h1,by rw[decode_ascii s pos h (by rw[<-e]; exact h1),<-e]⟩
 ·exact .inr ⟨h1,(decode_high s pos h (by rw[<-e]; exact h1)).1⟩
theorem zr (s:ByteArray) (w:World) (he:iV w) (hs:s.size<=9223372036854775807):
  Calls Tryz.prog 160 #[.string s] w fun e w'=>e= .returned (.bool (rR (bl s)))/\Below w.heap.size w w':=by
 have HE:=aa he;clear he
 go_enter Tryz.func160,Tryz.ntmps160
 go_wp2
 go_loopw [4] (fun _ wr=> ∃pos:Nat,wr=w.iter s pos/\ ∀j,j<pos->j<s.size->32<=(s.get! j).toNat) (fun _ wr=>s.size-wr.iterPos w.heap.size)
 case atStart=>exact⟨0,rfl,fun j hj=>by omega⟩
 case round=>
  obtain⟨pos,rfl,hlow⟩:=hrel;have HL:=aa hlow;clear hlow
  by_cases hp:pos<s.size
  ·have hnx: ∀ty,(Instr.next (.pointer (some ⟨w.heap.size,0,none⟩)) true ty).run Tryz.prog (w.iter s pos)=_:=fun ty=>run_next_any w s pos ty hp
   go_wp2
   ·go_ret;refine⟨aD ?_,bH⟩;have hlt:((Utf8.decode s pos).1:Int)<32:=by assumption
    have hd:=qw s pos hp;have hd2:(s.get! pos).toNat<32:=by
     rcases hd with⟨_,h2⟩ | ⟨_,h2⟩
     ·rw[h2]at hlt; simp only at hlt; omega
     ·omega
    simp[rR,xy hp hd2]
   ·go_roundw
    case rel=>
     refine⟨pos+(Utf8.decode s pos).2,rfl, ?_⟩;have hge:(32:Int)<=(Utf8.decode s pos).1:=by assumption
     rcases qw s pos hp with⟨h1,h2⟩ | ⟨h1,h2⟩
     ·intro j hj hjs;rw[h2]at hge hj
      rcases Nat.lt_or_ge j pos with h3 | h3
      ·exact HL.o j h3 hjs
      ·rw[show j=pos by simp at hj; omega]; simp at hge; omega
     ·exact FV HL.o (wJ s pos hp h1).2
    case measure=>
     rw[World.iterPos_iter,World.iterPos_iter];have:=Lib.width_pos s pos;omega
  ·have hnx: ∀ty,(Instr.next (.pointer (some ⟨w.heap.size,0,none⟩)) true ty).run Tryz.prog (w.iter s pos)=_:=fun ty=>run_next_end w s pos ty hp
   go_wp2_with (go_at_call 181; refine(pJ s _ (HE.o.below (bH)) hs).mono ?_; rintro e w' ⟨rfl,hb⟩);go_ret;refine⟨aD ?_,ab (bH) hb⟩;simp only[rR,Br (fun j hj=>HL.o j (by omega) hj),Bool.true_and]
theorem kG (s:ByteArray) (w:World) (he:iV w) (hs:s.size<=9223372036854775807):
  Calls Tryz.prog 128 #[.string s] w fun e w'=>e= .returned (.bool (dm (bl s)))/\Below w.heap.size w w':=by
 have HE:=aa he;clear he
 go_enter Tryz.func128,Tryz.ntmps128
 go_wp2_with (first
  | (go_at_call 134; refine(nk _ _ _).mono ?_; rintro e w' ⟨rfl,rfl⟩)
  | (go_at_call 160; refine(zr _ _ HE.o hs).mono ?_; rintro e w' ⟨rfl,hb⟩))
 all_goals (go_ret; refine⟨aD ?_,by first | exact Below.refl _ _ | exact hb⟩)
 all_goals (rw[Bool.eq_iff_iff]; simp_all [dm,cA,am])
 all_goals first | omega | (intros; omega)
def GB (s:ByteArray) (w:World) (e:Ending) (w':World):Prop:=
 ∃v xs,e= .returned (.tuple #[v, .int .i64 0])/\xs.map bl=aW 47 (bl s)/\fQ (w.heap.size<= ·) w' v xs/\Below w.heap.size w w'
def El (w:World) (e:Ending) (w':World):Prop:=e= .returned (.tuple #[.slice none 0 0, .int .i64 1])/\Below w.heap.size w w'
def Em (s:ByteArray) (w:World) (e:Ending) (w':World):Prop:=(bq (bl s)=true/\GB s w e w')\/(bq (bl s)=false/\El w e w')
theorem xY {w:World} {xs:List Value} {e:TypeId} {k:Nat} {x:Value} (hx:xs[k]? =some x):(w.alloc (.cells xs.toArray e)).cell? ⟨w.heap.size,k,none⟩=some x:=by
 have h:=heap_alloc_new w (.cells xs.toArray e);simp only[World.cell?,h];simp[hx]
theorem Bs {xs:List ByteArray} {k:Nat} {x:ByteArray} (hx:xs[k]? =some x):(xs.map Value.string)[k]? =some (.string x):=by simp[hx]
theorem DL {xs:List ByteArray} {s:ByteArray} (hx:xs.map bl=aW 47 (bl s)) (h1:(bl s).length<=512) (h2:xs.length<=16) (h: ∀(j:Nat) x,j<xs.length->xs[j]? =some x->dm (bl x)=true):bq (bl s)=true:=by
 have hl:(aW 47 (bl s)).length=xs.length:=by rw[<-hx]; simp
 have ha:(aW 47 (bl s)).all dm=true:=by
  rw[<-hx,List.all_map,List.all_eq_true];intro x hm;obtain⟨j,hj,rfl⟩:=List.getElem_of_mem hm;exact h j _ hj (by simp)
 simp[bq,h1,hl,h2,ha]
theorem uy {xs:List ByteArray} {s:ByteArray} {j:Nat} {x:ByteArray} (hx:xs.map bl=aW 47 (bl s)) (h:xs[j]? =some x) (hc:dm (bl x)=false):bq (bl s)=false:=by
 have ha:(aW 47 (bl s)).all dm=false:=by
  rw[<-hx,List.all_map,List.all_eq_false];exact⟨x,List.mem_of_getElem? h,by simp[hc]⟩
 simp[bq,ha]
theorem DO {xs:List ByteArray} {s:ByteArray} (hx:xs.map bl=aW 47 (bl s)) (h: ¬xs.length<=16):bq (bl s)=false:=by
 have hl:(aW 47 (bl s)).length=xs.length:=by rw[<-hx]; simp
 simp[bq,hl,h]
theorem Aq {s:ByteArray} (h: ¬(bl s).length<=512):bq (bl s)=false:=by simp[bq,h]
theorem nA (c:UInt8) (l:List UInt8): ∀p∈aW c l,p.length<=l.length:=by
 induction l with
 | nil=>simp[aW]
 | cons b l ih=>
  unfold aW
  split
  ·intro p hp; rcases List.mem_cons.1 hp with rfl | hp
   ·simp
   ·have:=ih p hp; simp; omega
  ·split
   ·rename_i h t e;rw[e]at ih;intro p hp; rcases List.mem_cons.1 hp with rfl | hp
    ·have:=ih h (by simp); simp; omega
    ·have:=ih p (by simp[hp]); simp; omega
   ·intro p hp; simp at hp; simp[hp]
theorem ue {xs:List ByteArray} {s:ByteArray} {c:UInt8} {j:Nat} {x:ByteArray} (hx:xs.map bl=aW c (bl s)) (h:xs[j]? =some x):x.size<=s.size:=by
 rw[am,am];exact nA c (bl s) (bl x) (by rw[<-hx]; exact List.mem_map.2 ⟨x,List.mem_of_getElem? h,rfl⟩)
theorem FQ {w w':World} {xs:List ByteArray} {e:TypeId} (hl:xs.length<=maxLen) (hb:Below (w.heap.size+1) (w.alloc (.cells (xs.map Value.string).toArray e)) w'):
  fQ (w.heap.size<= ·) w' (.slice (some ⟨w.heap.size,0,none⟩) xs.length xs.length) xs:=by
 refine⟨by simp,some ⟨w.heap.size,0,none⟩,xs.length,rfl,Nat.le_refl _,hl, .inr ⟨w.heap.size,0,rfl,Nat.le_refl _,fun j u hu=> ?_⟩⟩;rw[hb.cell (p:=⟨w.heap.size,0+j,none⟩) (by simp),Nat.zero_add];exact xY hu
theorem lB (s:ByteArray) (w:World) (he:iV w):Calls Tryz.prog 82 #[.string s] w (Em s w):=by
 have HE:=aa he;clear he
 by_cases h5:s.size<=512
 ·go_enter Tryz.func82,Tryz.ntmps82
  go_wp2_with fail;refine(DM s 47 w HE.o (by omega)).mono ?_;rintro e w' ⟨xs,hx,rfl,rfl⟩;have hxl:xs.length<=513:=by
   have h1:(aW 47 (bl s)).length=xs.length:=by rw[<-hx]; simp
   have h2:=jz 47 (bl s);rw[<-am]at h2;omega
  have HX:=aa hx;clear hx
  by_cases h16:xs.length<=16
  ·go_wp2_with fail
   go_loopw [17] (fun i wr=> ∃k:Nat,k<=xs.length/\i= .int .i64 k/\Below (w.heap.size+1) (w.alloc (.cells (xs.map Value.string).toArray 9)) wr/\ ∀(j:Nat) x,j<k->xs[j]? =some x->dm (bl x)=true) (fun i _=>xs.length-(intOf i).toNat)
   case atStart=>exact⟨0,Nat.zero_le _,rfl,Below.refl _ _,fun j x hj=>by omega⟩
   case round=>
    obtain⟨k,hk,rfl,hb,hall⟩:=hrel;have HA:=aa hall;clear hall
    by_cases hlt:k<xs.length
    ·obtain⟨x,hx⟩: ∃x,xs[k]? =some x:=⟨xs[k],by simp[hlt]⟩;have hcell:wr.cell? ⟨w.heap.size,k,none⟩=some (.string x):=(hb.cell (p:=⟨w.heap.size,k,none⟩) (by simp)).trans (xY (Bs hx));have hxs:x.size<=9223372036854775807:=by have:=ue HX.o hx; omega
     have HK:=aa hx;have HB:=aa hb;clear hx hb
     cases hc:dm (bl x)
     ·have HC:=aa hc;clear hc;go_wp2_with (go_at_call 128; refine(kG x wr (HE.o.below (ab (bH) (by simpa using HB.o))) hxs).mono ?_; rintro e w' ⟨rfl,hb2⟩; rw[HC.o])
      go_ret2
      refine .inr ⟨uy HX.o HK.o HC.o,rfl, ?_⟩;exact ab (ab (bH) (by simpa using HB.o)) hb2
     ·have HC:=aa hc;clear hc;go_wp2_with (go_at_call 128; refine(kG x wr (HE.o.below (ab (bH) (by simpa using HB.o))) hxs).mono ?_; rintro e w' ⟨rfl,hb2⟩; rw[HC.o])
      go_roundw
      case rel=>
       refine⟨k+1,by omega,by go_num,HB.o.trans (hb2.mono (by have:=HB.o.size; simpa using this)),fun j x' hj hx'=> ?_⟩
       rcases Nat.lt_or_ge j k with h | h
       ·exact HA.o j x' h hx'
       ·obtain rfl:j=k:=by omega
        have:=HK.o.symm.trans hx'
        cases this
        exact HC.o
      case measure=>simp[intOf]; omega
    ·have HB:=aa hb;clear hb
     go_wp2
     go_ret2
     refine .inl ⟨DL HX.o (by rw[<-am]; exact h5) h16 (fun j x hj hx=>HA.o j x (by omega) hx),_,xs,rfl,HX.o,FQ (by unfold maxLen; omega) HB.o, ?_⟩;exact ab (bH) (by simpa using HB.o)
  ·go_wp2_with fail
   go_ret2
   exact .inr ⟨DO HX.o h16,rfl,bH⟩
 ·go_enter Tryz.func82,Tryz.ntmps82
  go_wp2_with fail
  go_ret2
  exact .inr ⟨Aq (by rw[<-am]; exact h5),rfl,Below.refl _ _⟩
theorem oN (s:ByteArray) (w:World) (he:iV w):
  Calls Tryz.prog 119 #[.string s] w fun e w'=>e= .returned (.bool (bq (bl s)))/\Below w.heap.size w w':=by
 go_enter Tryz.func119,Tryz.ntmps119
 go_wp2_with fail;refine(lB s w he).mono ?_;rintro e w' (⟨hv,v,xs,rfl,-,-,hb⟩ | ⟨hv,rfl,hb⟩)
 ·go_wp2
  go_ret;exact⟨aD (by rw[hv]),hb⟩
 ·go_wp2
  go_ret;exact⟨aD (by rw[hv]),hb⟩
def gV (c:Int):Int:=if c=47 then -1 else c
theorem FC (c:Int) (w:World) (h0:0<=c) (h1:c<=255):Calls Tryz.prog 150 #[.int .u8 c] w fun e w'=>e= .returned (.int .i64 (gV c))/\w=w':=by
 by_cases h:c=47
 ·subst h
  go_enter Tryz.func150,Tryz.ntmps150
  go_wp2
  go_ret;exact⟨rfl,rfl⟩
 ·have hr:gV c=c:=if_neg h;have HR:=aa hr;clear hr;have h2:(c == 47)=false:=by simpa using h
  go_enter Tryz.func150,Tryz.ntmps150
  go_wp2
  go_ret;exact⟨bt HR.o.symm,rfl⟩
theorem GL (l r:List UInt8) (h:l=[]\/r=[]):cb l r=Lib.compareInt (l.length:Int) r.length:=by
 rcases h with rfl | rfl
 ·cases r
  ·simp[cb,Lib.compareInt]
  ·rw[cb,Lib.compareInt,if_pos (by simp<;> omega)]
 ·cases l
  ·simp[cb,Lib.compareInt]
  ·rw[cb,Lib.compareInt,if_neg (by simp<;> omega),if_pos (by simp<;> omega)]
theorem qt (x y:Int) (k:Int):Lib.compareInt (x-k) (y-k)=Lib.compareInt x y:=by
 unfold Lib.compareInt;have h1:(x-k<y-k)<->(x<y):=by omega
 have h2:(x-k>y-k)<->(x>y):=by omega
 simp only[h1,h2]
theorem pP {l r:List UInt8} {k:Nat} (hk1:k<=l.length) (hk2:k<=r.length) (h:k=l.length\/k=r.length):cb (l.drop k) (r.drop k)=Lib.compareInt (l.length:Int) r.length:=by
 rw[GL _ _ (by rcases h with rfl | rfl<;> simp)];rw[List.length_drop,List.length_drop,<-qt (l.length:Int) r.length k]
 congr 1<;> omega
theorem wA {l r:List UInt8} {k:Nat} (hl:k<l.length) (hr:k<r.length) (h:l[k]=r[k]):cb (l.drop k) (r.drop k)=cb (l.drop (k+1)) (r.drop (k+1)):=by
 rw[List.drop_eq_getElem_cons hl,List.drop_eq_getElem_cons hr,cb,if_pos h]
theorem qr {l r:List UInt8} {k:Nat} (hl:k<l.length) (hr:k<r.length) (h:l[k]≠r[k]):cb (l.drop k) (r.drop k)=Lib.compareInt (de l[k]) (de r[k]):=by
 rw[List.drop_eq_getElem_cons hl,List.drop_eq_getElem_cons hr,cb,if_neg h]
theorem eW (s:ByteArray) (k:Nat) (h:k<s.size):s[k]=(bl s)[k]'(by rw[<-am]; exact h):=by
 exact(Array.getElem_toList (xs:=s.data) h).symm
theorem nL (c:UInt8):gV c.toNat=de c:=by
 unfold gV de
 by_cases h:c=47
 ·subst h; rfl
 ·rw[if_neg h,if_neg];intro e; apply h; apply UInt8.toNat_inj.1; have:c.toNat=47:=by omega
  rw[this]; rfl
theorem wF (a b:ByteArray) (w:World) (ha:a.size<=9223372036854775807):
  Calls Tryz.prog 118 #[.string a, .string b] w fun e w'=>e= .returned (.int .i64 (cb (bl a) (bl b)))/\Below w.heap.size w w':=by
 go_enter Tryz.func118,Tryz.ntmps118
 go_wp2_with fail;obtain⟨m,hm⟩: ∃m:Nat,min (a.size:Int) (b.size:Int)=m:=⟨min a.size b.size,by omega⟩;have hm1:m<=a.size:=by omega
 have hm2:m<=b.size:=by omega
 have hm3:m=a.size\/m=b.size:=by omega
 rw[hm];have HM:=aa hm3;clear hm hm3
 go_loopw [12] (fun i wr=> ∃k:Nat,k<=m/\i= .int .i64 k/\Below w.heap.size w wr/\cb (bl a) (bl b)=cb ((bl a).drop k) ((bl b).drop k)) (fun i _=>m-(intOf i).toNat)
 case atStart=>exact⟨0,Nat.zero_le _,rfl,Below.refl _ _,rfl⟩
 case round=>
  obtain⟨k,hk,rfl,hbw,hc⟩:=hrel;have HC:=aa hc;have HB:=aa hbw;clear hc hbw
  by_cases hlt:k<m
  ·have h1:(k:Int)<(a.size:Int):=by omega
   have h2:(k:Int)<(b.size:Int):=by omega
   have h3:k<a.size:=by omega
   have h4:k<b.size:=by omega
   by_cases hq:a[k]=b[k]
   ·have hq2:(((a[k]).toNat:Int) != (b[k]).toNat)=false:=by simp[hq]
    have HQ:=aa hq;clear hq;go_wp2_with fail
    go_quiet (fail)
    go_wp2_with fail
    go_roundw
    case rel=>
     refine⟨k+1,by omega,by go_num,cw HB.o nq, ?_⟩;rw[HC.o];refine wA (by rw[<-am]; exact h3) (by rw[<-am]; exact h4) ?_;rw[<-eW,<-eW]; exact HQ.o
    case measure=>simp[intOf]; omega
   ·have hq2:(((a[k]).toNat:Int) != (b[k]).toNat)=true:=by
     rw[bne_iff_ne]; intro e; apply hq; exact UInt8.toNat_inj.1 (by omega)
    have HQ:=aa hq;clear hq;go_wp2_with fail
    go_quiet (fail)
    go_wp2_with fail;have hW: ∃W,W=wr.drewN nq/\Below w.heap.size w W:=⟨_,rfl,cw HB.o nq⟩;obtain⟨W,hWe,hWb⟩:=hW;rw[<-hWe];have HB2:=aa hWb;clear hWe hWb HB;have hr1:=(a[k]).toNat_lt;have hr2:=(b[k]).toNat_lt
    go_quiet ((first | (go_at_call 150; refine fm (FC _ _ (by omega) (by omega))) | (go_at_call 151; refine fm (kS _ _ _))))
    go_wp2_with fail;go_ret;refine⟨bt ?_,cw HB2.o _⟩;rw[nL,nL,HC.o,qr (by rw[<-am]; exact h3) (by rw[<-am]; exact h4) (by rw[<-eW,<-eW]; exact HQ.o),<-eW,<-eW]
  ·go_wp2_with (go_at_call 151; refine(kS _ _ _).mono ?_; rintro e w' ⟨rfl,rfl⟩);go_ret;refine⟨bt ?_,HB.o⟩;have hM:=HM.o;rw[HC.o,pP (by rw[<-am]; omega) (by rw[<-am]; omega) (by rw[<-am,<-am]; omega),<-am,<-am]
theorem zR (s:ByteArray) (w:World) (he:iV w) (hv:bq (bl s)=true):
  Calls Tryz.prog 72 #[.string s] w fun e w'=>e= .returned (.tuple #[.string ⟨(aH (bl s)).toArray⟩, .bool true])/\Below w.heap.size w w':=by
 have HV:=aa hv;have h5:s.size<=512:=by simp only[bq,Bool.and_eq_true,decide_eq_true_eq]at hv; rw[am]; exact hv.1.1
 have hl:(aH (bl s)).length<=s.size:=by rw[nJ,List.length_take,am]; omega
 clear hv
 go_enter Tryz.func72,Tryz.ntmps72
 go_wp2_with fail;refine(oN s w he).mono ?_;rintro e w1 ⟨rfl,hb1⟩;rw[HV.o];have HB1:=aa hb1;clear hb1;go_wp2_with fail;refine(sE s w1 (by omega)).mono ?_;rintro e w2 ⟨rfl,rfl⟩;obtain⟨n,hn⟩: ∃n:Nat,n=(aH (bl s)).length:=⟨_,rfl⟩;have hmax:max (iu (bl s)) 0=(n:Int):=by
  unfold iu
  split
  ·omega
  ·rename_i h; rw[hn,iO _ h]; rfl
 have hle:n<=s.size:=by omega
 have HN:=aa hn;clear hn hl;go_wp2_with fail
 go_ret2
 refine⟨?_,HB1.o⟩;have e:s.extract 0 n=⟨(aH (bl s)).toArray⟩:=fE (by rw[jY,ed (aH (bl s)),HN.o,List.drop_zero,<-nJ]);rw[<-e]; rfl
def yH (data:List UInt8) (most:Nat) (s:RS):List UInt8×RS:=rv [] (eN data s.off most) s
def pZ (data:List UInt8) (s:RS):Nat×RS:=rv 0 (km data s.off) s
def smP (data:List UInt8) (s:RS):List UInt8×RS:=rv [] (fw data s.off 32) s
def wC (data:List UInt8) (most:Nat) (s:RS):Nat×RS:=rv 0 (iL data s.off most) s
def jW (n:Nat):Int:=wrap64 (n:Int)
def nM (data:List UInt8) (s:RS):aV×RS:=
 (⟨⟨(smP data s).1.toArray⟩,jW (pZ data (smP data s).2).1,jW (pZ data (pZ data (smP data s).2).2).1⟩,(pZ data (pZ data (smP data s).2).2).2)
theorem FY (n:Nat):(Lit.int .i64 (jW n)).wf=true:=by
 exact wrap64_wf _
def gL (r:aV):Bool:=decide (r.name.size=32) && decide (0<=r.gen) && decide (r.gen<=1099511627776) && decide (0<=r.size) && decide (r.size<=32768)
theorem nX (r:aV) (w:World) (hr:bK r):Calls Tryz.prog 77 #[bU r] w fun e w'=>e= .returned (.bool (gL r))/\Below w.heap.size w w':=by
 obtain⟨n,g,s⟩:=r;obtain⟨h1,h2,h3⟩:=hr;unfold maxLen at h1;simp only[bU,gL]at *
 go_enter Tryz.func77,Tryz.ntmps77
 go_wp2_with fail
 all_goals (go_ret; refine⟨aD ?_,bH⟩; rw[Bool.eq_iff_iff]; simp; omega)
theorem JK (rb:Nat) (v:Value) (data:List UInt8) (s:RS) (w:World) (hr:mZ w rb v data s):
  Calls Tryz.prog 113 #[.pointer (some ⟨rb,0,none⟩)] w fun e w'=> ∃bs s1,smP data s=(bs,s1)/\e= .returned (.string ⟨bs.toArray⟩)/\mZ w' rb v data s1/\w.grownBy w' (some rb):=
 (Iz rb v data s w hr).mono fun _ _ ⟨h1,h2,h3⟩=>⟨_,_,rfl,h1,h2,h3⟩
theorem rT (rb:Nat) (v:Value) (data:List UInt8) (s:RS) (w:World) (hr:mZ w rb v data s):
  Calls Tryz.prog 61 #[.pointer (some ⟨rb,0,none⟩)] w fun e w'=> ∃n s1,pZ data s=(n,s1)/\e= .returned (.int .u64 (n:Int))/\mZ w' rb v data s1/\w.grownBy w' (some rb):=
 (Gc rb v data s w hr).mono fun _ _ ⟨h1,h2,h3⟩=>⟨_,_,rfl,h1,h2,h3⟩
theorem FX (rb:Nat) (v:Value) (data:List UInt8) (s:RS) (most:Nat) (w:World) (hr:mZ w rb v data s) (hm:most<=2000000):
  Calls Tryz.prog 60 #[.pointer (some ⟨rb,0,none⟩), .int .i64 (most:Int)] w fun e w'=> ∃bs s1,yH data most s=(bs,s1)/\e= .returned (.string ⟨bs.toArray⟩)/\mZ w' rb v data s1/\w.grownBy w' (some rb):=
 (FW rb v data s most w hr hm).mono fun _ _ ⟨h1,h2,h3⟩=>⟨_,_,rfl,h1,h2,h3⟩
theorem Be (rb:Nat) (v:Value) (data:List UInt8) (s:RS) (most:Nat) (w:World) (hr:mZ w rb v data s) (hm:most<=2000000):
  Calls Tryz.prog 59 #[.pointer (some ⟨rb,0,none⟩), .int .i64 (most:Int)] w fun e w'=> ∃n s1,wC data most s=(n,s1)/\e= .returned (.int .i64 (n:Int))/\mZ w' rb v data s1/\w.grownBy w' (some rb):=
 (Cn rb v data s most w hr hm).mono fun _ _ ⟨h1,h2,h3⟩=>⟨_,_,rfl,h1,h2,h3⟩
theorem gU {w w':World} {r b:Nat} {o:Obj} (hg:w.grownBy w' (some r)) (h:w.heap[b]? =some o) (hne:b≠r):w'.heap[b]? =some o:=
 (hg.block b ((Array.getElem?_eq_some_iff.1 h).1) (by simpa using hne)).trans h
theorem fD {w:World} {b:Nat} {o:Obj} (h:w.heap[b]? =some o) (x:Obj):(w.alloc x).heap[b]? =some o:=by
 rw[Below.heap_alloc _ _ _ ((Array.getElem?_eq_some_iff.1 h).1)]; exact h
theorem dD {w:World} {b k:Nat} {cs:Array Value} {t:TypeId} (h:w.heap[b]? =some (.cells cs t (0,0))) (x:Value):(w.setCell ⟨b,k,none⟩ x).heap[b]? =some (.cells (cs.setIfInBounds k x) t (0,0)):=by
 simp only[World.setCell,Array.getElem?_modify,if_true,h,Option.map_some]; rfl
theorem DE {w:World} {b c k:Nat} {o:Obj} (h:w.heap[b]? =some o) (hne:b≠c) (x:Value):(w.setCell ⟨c,k,none⟩ x).heap[b]? =some o:=by
 rw[Below.heap_setCell _ _ _ _ hne]; exact h
theorem FM {w w':World} {r:Option Nat} (hg:w.grownBy w' r):w.heap.size<=w'.heap.size:=hg.size
theorem ir {w w':World} {r:Option Nat} {b:Nat} (h:w.grownBy w' r) (hb:w.heap.size<=b) {k:Nat} (x:Value):w.grownBy (w'.setCell ⟨b,k,none⟩ x) r:=
 ⟨h.os,h.tape,h.output,by have:=h.size; simpa [World.setCell]using this,fun i hi hn=>by rw[Below.heap_setCell _ _ _ _ (by show i≠b; omega)]; exact h.block i hi hn⟩
def IM (data:List UInt8) (rb:Nat) (v:Value) (s:RS) (w:World) (e:Ending) (w':World):Prop:=
 ∃r s1,nM data s=(r,s1)/\e= .returned (bU r)/\mZ w' rb v data s1/\w.grownBy w' (some rb)/\bK r
theorem Iw (data:List UInt8) (s:RS):(smP data s).1.length<=32:=by
 unfold smP rv fw
 split
 ·split
  ·rename_i x o h
   split at h
   ·simp at h
   ·simp only[Except.ok.injEq,Prod.mk.injEq]at h;obtain⟨rfl,rfl⟩:=h
    simp; omega
  ·simp
 ·simp
theorem BH (data:List UInt8) (s:RS):bK (nM data s).1:=⟨by
 have:=Iw data s
 show ByteArray.size ⟨_⟩<=_
 unfold maxLen;simp[ByteArray.size]; omega,FY _,FY _⟩
theorem px (rb:Nat) (v:Value) (data:List UInt8) (s:RS) (w:World) (hr:mZ w rb v data s):
  Calls Tryz.prog 62 #[.pointer (some ⟨rb,0,none⟩)] w (IM data rb v s w):=by
 have HR:=aa hr;have hlt:=aX.lt hr;clear hr
 go_enter Tryz.func62,Tryz.ntmps62
 go_wp2_with fail;refine(JK rb v data s _ (aX.below HR.o (bH))).mono ?_;rintro e w1 ⟨bs,s1,hp1,rfl,h1,h2⟩;have HP1:=aa hp1;have H1:=aa h1;have hz:=FM h2;simp at hz;have HB:=aa (gU h2 (heap_alloc_new w _) (by omega));have HG:=aa (aG (cI (bH) (some rb)) h2);clear hp1 h1 h2;go_wp2_with fail;refine(rT rb v data s1 _ (aX.below H1.o (bH))).mono ?_
 rintro e w2 ⟨g,s2,hp2,rfl,h1,h2⟩;have HP2:=aa hp2;have H2:=aa h1;have HX:=aa (gU h2 (heap_alloc_new w1 _) (by omega));have HB2:=aa (gU h2 (fD HB.o _) (by omega));have HG2:=aa (aG HG.o (aG (cI (bH) (some rb)) h2));have hz2:=FM h2;simp at hz2;have k1:=aB (k:=1) HX.o;have f1:=ah (k:=1) HX.o;simp only[cr]at k1;clear hp2 h1 h2 HB HG H1
 go_wp2_with fail;obtain⟨w3,hw3⟩: ∃w3,w3=w2.setCell ⟨w1.heap.size,1,none⟩ (.int .i64 (wrap64 (g:Int))):=⟨_,rfl⟩;rw[<-hw3];have H3:=aa (show mZ w3 rb v data s2 by rw[hw3]; exact aX.setOther HR.o H2.o (by omega) _);have x3:=dD (k:=1) HX.o (.int .i64 (wrap64 (g:Int)));have y3:=DE (k:=1) HB2.o (show w.heap.size≠w1.heap.size by omega) (.int .i64 (wrap64 (g:Int)))
 rw[<-hw3]at x3 y3;simp only[List.setIfInBounds_toArray,List.set_cons_succ,List.set_cons_zero]at x3;have HX3:=aa x3;have HB3:=aa y3;clear x3 y3;have HG3:=aa (show w.grownBy w3 (some rb) by rw[hw3]; exact ir HG2.o (by omega) _);have hz3:w2.heap.size=w3.heap.size:=by rw[hw3]; simp[World.setCell]
 clear hw3 k1 f1 HX HB2 HG2 H2;refine(rT rb v data s2 _ H3.o).mono ?_;rintro e w4 ⟨z,s3,hp3,rfl,h1,h2⟩;have HP3:=aa hp3;have H4:=aa h1;have hz4:=FM h2;have HX4:=aa (gU h2 HX3.o (by omega));have HB4:=aa (gU h2 HB3.o (by omega));have HG4:=aa (aG HG3.o h2);have k0:=aB (k:=0) HX4.o;have k1:=aB (k:=1) HX4.o;have k2:=aB (k:=2) HX4.o;have f2:=ah (k:=2) HX4.o
 have b0:=aB (k:=0) HB4.o;have b1:=aB (k:=1) HB4.o;have b2:=aB (k:=2) HB4.o;have g0:=ah (k:=0) HB4.o;have g1:=ah (k:=1) HB4.o;have g2:=ah (k:=2) HB4.o;simp at k0 k1 k2 b0 b1 b2;clear hp3 h1 h2 HX3 HB3 HG3 H3;go_wp2_with fail;have e1:nM data s=(⟨⟨bs.toArray⟩,wrap64 (g:Int),wrap64 (z:Int)⟩,s3):=by simp only[nM,HP1.o,HP2.o,HP3.o,jW]
 refine bodyPost_ret (v:=bU ⟨⟨bs.toArray⟩,wrap64 (g:Int),wrap64 (z:Int)⟩) (by simp[results,Tryz.results62,go_sem,bU,b0,b1,b2]) rfl ⟨_,_,e1,rfl, ?_, ?_, ?_⟩
 ·exact aX.setOther HR.o (aX.setOther HR.o (aX.setOther HR.o (aX.setOther HR.o H4.o (by omega) _) (by omega) _) (by omega) _) (by omega) _
 ·exact ir (ir (ir (ir HG4.o (by omega) _) (by omega) _) (by omega) _) (by omega) _
 ·have:=BH data s;rw[e1]at this; exact this
def gQ (l:List aV):Int:=l.foldl (fun a r=>wrap64 (a+r.size)) 0
theorem uB (l:List aV) (r:aV):gQ (l++[r])=wrap64 (gQ l+r.size):=by unfold gQ; rw[List.foldl_append]; rfl
theorem bS {α:Type} {l:List α} {k:Nat} {x:α} (h:l[k]? =some x):l.take (k+1)=l.take k++[x]:=by
 obtain⟨hk,rfl⟩:=List.getElem?_eq_some_iff.1 h;exact List.take_succ_eq_append_getElem hk
theorem jn {S:Nat->Prop} {w w':World} {a:Option Addr} {n cap:Nat} {rs:List aV} (hv:bw S w (.slice a n cap) rs) (hb:Below w.heap.size w w') {k:Nat} {r:aV} (hr:rs[k]? =some r):
  ∃b o,a=some ⟨b,o,none⟩/\bK r/\w'.cell? ⟨b,o+k*3,none⟩=some (.string r.name)/\w'.cell? ⟨b,o+k*3+1,none⟩=some (.int .i64 r.gen)/\w'.cell? ⟨b,o+k*3+2,none⟩=some (.int .i64 r.size):=by
 obtain⟨a',cap',hv',_,_,hx⟩:=aU.shape hv lZ.len
 cases hv'
 obtain⟨b,o,c,rfl,_,⟨rfl,hok⟩,_,hcl⟩:=hx k r hr;have q0:=hcl 0 (by omega);have q1:=hcl 1 (by omega);have q2:=hcl 2 (by omega);simp only[dC,vN,Nat.add_zero,<-Nat.add_assoc]at q0 q1 q2;exact⟨b,o,rfl,hok,(hb.cell (aP q0)).trans q0,(hb.cell (aP q1)).trans q1,(hb.cell (aP q2)).trans q2⟩
theorem oL (S:Nat->Prop) (v:Value) (rs:List aV) (w:World) (hv:bw S w v rs):Calls Tryz.prog 63 #[v] w fun e w'=>e= .returned (.int .i64 (gQ rs))/\Below w.heap.size w w':=by
 obtain⟨a,cap,rfl,hc,hm,-⟩:=aU.shape hv lZ.len;unfold maxLen at hm;have HV:=aa hv;clear hv
 go_enter Tryz.func63,Tryz.ntmps63
 go_wp2_with fail
 go_loopw [3,5,8] (fun sm p i wr=> ∃k:Nat,k<=rs.length/\i= .int .i64 k/\sm= .int .i64 (gQ (rs.take k))/\Below w.heap.size w wr) (fun _ _ i _=>rs.length-(intOf i).toNat)
 case atStart=>exact⟨0,Nat.zero_le _,rfl,rfl,Below.refl _ _⟩
 case round=>
  obtain⟨k,hk,rfl,rfl,hb⟩:=hrel;have HB:=aa hb;clear hb
  by_cases hlt:k<rs.length
  ·obtain⟨r,hr⟩: ∃r,rs[k]? =some r:=⟨rs[k],by simp[hlt]⟩;obtain⟨b,o,rfl,-,q0,q1,q2⟩:=jn HV.o HB.o hr;have HS:=aa (show gQ (rs.take (k+1))=wrap64 (gQ (rs.take k)+r.size) by rw[bS hr,uB]);clear hr;go_wp2_with fail
   go_roundw
   case rel=>exact⟨k+1,by omega,by go_num,by rw[HS.o],HB.o.alloc HB.o.size _⟩
   case measure=>simp[intOf]; omega
  ·go_wp2_with fail;go_ret;exact⟨bt (by rw[List.take_of_length_le (by omega)]),HB.o⟩
structure aI where
 name:ByteArray
 kind:Int
 mode:Int
 time:Int
 size:Int
 link:ByteArray
 chunks:List aV
 node:aV
deriving DecidableEq
def cg (cv:Value) (it:aI):List Value:=[.string it.name, .int .i64 it.kind, .int .i64 it.mode, .int .i64 it.time, .int .i64 it.size, .string it.link,cv, .string it.node.name, .int .i64 it.node.gen, .int .i64 it.node.size]
def mq (cv:Value) (it:aI):Value:= .agg #[.string it.name, .int .i64 it.kind, .int .i64 it.mode, .int .i64 it.time, .int .i64 it.size, .string it.link,cv, .string it.node.name, .int .i64 it.node.gen, .int .i64 it.node.size]
def lC (r:aV):Bool:=gL r && decide (1<=r.size)
def fA (it:aI):Bool:=it.chunks.all lC && (decide (it.size=gQ it.chunks) && decide (it.size<=1048576))
theorem dN (r:aV) (b:Bool) (w:World) (hr:bK r) (h:gL r=b):Calls Tryz.prog 77 #[bU r] w fun e w'=>e= .returned (.bool b)/\Below w.heap.size w w':=by
 rw[<-h]; exact nX r w hr
theorem Ev {α:Type} {p:α->Bool} {l:List α} {k:Nat} {x:α} (h:(l.take k).all p=true) (hx:l[k]? =some x) (hp:p x=true):(l.take (k+1)).all p=true:=by
 rw[bS hx,List.all_append,h]; simp[hp]
theorem Eu {α:Type} {p:α->Bool} {l:List α} {k:Nat} {x:α} (hx:l[k]? =some x) (hp:p x=false):l.all p=false:=by
 rw[List.all_eq_false];exact⟨x,List.mem_of_getElem? hx,by rw[hp]; simp⟩
theorem pI (S:Nat->Prop) (it:aI) (cv:Value) (w:World) (hcv:bw S w cv it.chunks):Calls Tryz.prog 135 #[mq cv it] w fun e w'=>e= .returned (.bool (fA it))/\Below w.heap.size w w':=by
 obtain⟨a,cap,rfl,hc,hm,-⟩:=aU.shape hcv lZ.len;unfold maxLen at hm;unfold mq
 go_enter Tryz.func135,Tryz.ntmps135
 go_wp2_with fail;obtain⟨W,hW⟩: ∃W,W=w.alloc (.cells #[.string it.name, .int .i64 it.kind, .int .i64 it.mode, .int .i64 it.time, .int .i64 it.size, .string it.link, .slice a it.chunks.length cap, .string it.node.name, .int .i64 it.node.gen, .int .i64 it.node.size] 28):=⟨_,rfl⟩;rw[<-hW];have HBW:=aa (show Below w.heap.size w W by rw[hW]; exact bH);have HBX:=aa (show W.heap[w.heap.size]? =some (.cells #[.string it.name, .int .i64 it.kind, .int .i64 it.mode, .int .i64 it.time, .int .i64 it.size, .string it.link, .slice a it.chunks.length cap, .string it.node.name, .int .i64 it.node.gen, .int .i64 it.node.size] 28 (0,0)) by rw[hW]; exact heap_alloc_new w _)
 have hsz:W.heap.size=w.heap.size+1:=by rw[hW]; simp
 have HSZ:=aa hsz;have HV:=aa (show bw S W (.slice a it.chunks.length cap) it.chunks from aU.below hcv (by omega) HBW.o (fun _ _ _ h=>h));clear hW hcv hsz
 go_loopw [4,8] (fun p i wr=> ∃k:Nat,k<=it.chunks.length/\i= .int .i64 k/\(it.chunks.take k).all lC=true/\Below W.heap.size W wr) (fun _ i _=>it.chunks.length-(intOf i).toNat)
 case atStart=>exact⟨0,Nat.zero_le _,rfl,rfl,Below.refl _ _⟩
 case round=>
  obtain⟨k,hk,rfl,hal,hb⟩:=hrel;have HB:=aa hb;have HA:=aa hal;clear hb hal
  by_cases hlt:k<it.chunks.length
  ·obtain⟨r,hr⟩: ∃r,it.chunks[k]? =some r:=⟨it.chunks[k],by simp[hlt]⟩;obtain⟨b,o,rfl,hok,q0,q1,q2⟩:=jn HV.o HB.o hr;have HR:=aa hr;have HO:=aa hok;clear hr hok
   cases hvr:gL r
   ·have HF:=aa (show fA it=false by unfold fA; rw[Eu HR.o (by simp[lC,hvr])]; rfl);have HVR:=aa hvr;clear hvr;go_wp2_with (go_at_call 77; refine(dN r false _ HO.o HVR.o).mono ?_; rintro e w1 ⟨rfl,hb1⟩; have HB1:=aa (ab ((HB.o).alloc HB.o.size _) hb1); clear hb1);go_ret;exact⟨aD (by rw[HF.o]),HBW.o.trans (HB1.o.mono (by have:=HSZ.o; omega))⟩
   ·have HVR:=aa hvr;clear hvr
    by_cases hs:r.size<1
    ·have HF:=aa (show fA it=false by unfold fA; rw[Eu HR.o (by simp[lC,HVR.o]; omega)]; rfl);go_wp2_with (go_at_call 77; refine(dN r true _ HO.o HVR.o).mono ?_; rintro e w1 ⟨rfl,hb1⟩; have d2:w1.cell? ⟨wr.heap.size,2,none⟩=some (.int .i64 r.size):=(hb1.cell (p:=⟨wr.heap.size,2,none⟩) (by simp)).trans (aB (heap_alloc_new wr _)); have HB1:=aa (ab ((HB.o).alloc HB.o.size _) hb1); clear hb1)
     go_ret;exact⟨aD (by rw[HF.o]),HBW.o.trans (HB1.o.mono (by have:=HSZ.o; omega))⟩
    ·go_wp2_with (go_at_call 77; refine(dN r true _ HO.o HVR.o).mono ?_; rintro e w1 ⟨rfl,hb1⟩; have d2:w1.cell? ⟨wr.heap.size,2,none⟩=some (.int .i64 r.size):=(hb1.cell (p:=⟨wr.heap.size,2,none⟩) (by simp)).trans (aB (heap_alloc_new wr _)); have HB1:=aa (ab ((HB.o).alloc HB.o.size _) hb1); clear hb1)
     go_roundw
     case rel=>exact⟨k+1,by omega,by go_num,Ev HA.o HR.o (by simp[lC,HVR.o]; omega),HB1.o⟩
     case measure=>simp[intOf]; omega
  ·have hall:it.chunks.all lC=true:=by
    have:=HA.o
    rwa [List.take_of_length_le (by omega)]at this
   have HALL:=aa hall;have HBXr:=aa ((HB.o.block w.heap.size (by have:=HSZ.o; omega)).trans HBX.o);have c4:=aB (k:=4) HBXr.o;have c6:=aB (k:=6) HBXr.o;simp only[cr]at c4 c6;have HVr:=aa (show bw S wr (.slice a it.chunks.length cap) it.chunks from aU.below HV.o (by omega) HB.o (fun _ _ _ h=>h));clear hall;go_wp2_with fail;refine bE (fun w'=>w'.cell? ⟨w.heap.size,4,none⟩=some (.int .i64 it.size)/\w'.cell? ⟨w.heap.size,6,none⟩=some (.slice a it.chunks.length cap)) (by kernel_rfl) ?_
   iterate 4 (refine aJ rfl (by kernel_rfl) (fun _ _ _ h=>h) rfl (by go_simp) (by rintro w' ⟨hw1,hw2⟩; go_simp; rfl) ?_; simp only[Act.put,aZ,bg,bh])
   refine an 4 rfl (by kernel_rfl) rfl (fun K hK=> ?_);go_wp2_with (go_at_call 63; refine(oL S _ it.chunks _ (aU.below HVr.o (by omega) ((Below.refl _ _).drew) (fun _ _ _ h=>h))).mono ?_; rintro e w1 ⟨rfl,hb1⟩; have HB1:=aa hb1; clear hb1);have d4:w1.cell? ⟨w.heap.size,4,none⟩=some (.int .i64 it.size):=(HB1.o.cell (p:=⟨w.heap.size,4,none⟩) (aP (a:=⟨w.heap.size,4,none⟩) c4)).trans c4
   have d6:w1.cell? ⟨w.heap.size,6,none⟩=some (.slice a it.chunks.length cap):=(HB1.o.cell (p:=⟨w.heap.size,6,none⟩) (aP (a:=⟨w.heap.size,6,none⟩) c6)).trans c6;refine⟨⟨d4,d6⟩, ?_⟩;have HEND:=aa (show Below w.heap.size w w1 from HBW.o.trans ((ab HB.o (((Below.refl _ _).drew).trans HB1.o)).mono (by have:=HSZ.o; omega)))
   by_cases he:it.size=gQ it.chunks
   ·have e1:(it.size == gQ it.chunks)=true:=by simp[he]
    iterate 7 (refine aJ rfl (by kernel_rfl) (fun _ _ _ h=>h) rfl (by go_simp) (by rintro w' ⟨hw1,hw2⟩; go_simp; rfl) ?_; simp only[Act.put,aZ,bg,bh])
    refine aM (by kernel_rfl) ?_;have HE:=aa he;clear he;go_wp2_with fail;go_ret;refine⟨aD ?_,HEND.o⟩;unfold fA;rw[HALL.o]; simp[HE.o]
   ·have e1:(it.size == gQ it.chunks)=false:=by simp[he]
    refine ay 5 rfl (by kernel_rfl) (by kernel_rfl) (by kernel_rfl) (fun _ _ _ h=>h) rfl (by go_simp) (by rintro w' ⟨hw1,hw2⟩; go_simp; rfl) ?_;simp only[Act.put,aZ,bg,bh];refine ay 6 rfl (by kernel_rfl) (by kernel_rfl) (by kernel_rfl) (fun _ _ _ h=>h) rfl (by go_simp) (by rintro w' ⟨hw1,hw2⟩; go_simp; rfl) ?_;simp only[Act.put,aZ,bg,bh];refine nu 7 rfl (by kernel_rfl) (by kernel_rfl) (by kernel_rfl) (fun _ _ _ h=>h) rfl (by go_simp) ?_
    simp only[Act.put,aZ,bg,bh];refine nu 8 rfl (by kernel_rfl) (by kernel_rfl) (by kernel_rfl) (fun _ _ _ h=>h) rfl (by go_simp) ?_;simp only[Act.put,aZ,bg,bh];refine nu 9 rfl (by kernel_rfl) (by kernel_rfl) (by kernel_rfl) (fun _ _ _ h=>h) rfl (by go_simp) ?_;simp only[Act.put,aZ,bg,bh];refine ay 10 rfl (by kernel_rfl) (by kernel_rfl) (by kernel_rfl) (fun _ _ _ h=>h) rfl (by go_simp) (by rintro w' ⟨hw1,hw2⟩; go_simp; rfl) ?_
    simp only[Act.put,aZ,bg,bh];refine ay 11 rfl (by kernel_rfl) (by kernel_rfl) (by kernel_rfl) (fun _ _ _ h=>h) rfl (by go_simp) (by rintro w' ⟨hw1,hw2⟩; go_simp; rfl) ?_;simp only[Act.put,aZ,bg,bh];refine aM (by kernel_rfl) ?_;have HE:=aa he;clear he;go_wp2_with fail;go_ret;refine⟨aD ?_,HEND.o⟩;unfold fA;rw[HALL.o]; simp[HE.o]
def bG :aV:=⟨⟨#[]⟩,0,0⟩
def nW (it:aI):Bool:=(bq (bl it.name) && !(bl it.name).contains 47) && (decide (0<=it.mode) && decide (it.mode<=511) && decide (0<=it.time))
def fg (it:aI):Bool:=
 if it.kind=1 then decide (it.link.size=0) && decide (it.node=bG) && fA it
 else if it.kind=2 then decide (it.link.size=0) && decide (it.size=0) && decide (it.chunks.length=0) && gL it.node
 else if it.kind=3 then(decide (it.size=0) && decide (it.chunks.length=0) && decide (it.node=bG)) && (decide (1<=it.link.size) && decide (it.link.size<=512) && !(bl it.link).contains 0)
 else false
def ep (it:aI):Bool:=nW it && fg it
structure df (it : aI) : Prop where
 nm:it.name.size<=maxLen
 lk:it.link.size<=maxLen
 nd:bK it.node
theorem gM (s:ByteArray) (b:Bool) (w:World) (he:iV w) (h:bq (bl s)=b):Calls Tryz.prog 119 #[.string s] w fun e w'=>e= .returned (.bool b)/\Below w.heap.size w w':=by
 rw[<-h]; exact oN s w he
theorem kT (s:ByteArray) (b:Bool) (w:World) (h:(bl s).contains 47=b):Calls Tryz.prog 134 #[.string s, .string ⟨#[47]⟩] w fun e w'=>e= .returned (.bool b)/\w=w':=by
 rw[<-h]; exact nk s 47 w
theorem sB (s:ByteArray) (w:World):Calls Tryz.prog 136 #[.string s, .int .u8 0] w fun e w'=>e= .returned (.int .i64 (Lib.indexByte (bl s) 0))/\w=w':=
 (Tryz.strings_IndexByte s 0 w).mono fun _ _ ⟨he,hw⟩=>⟨he,hw.symm⟩
theorem sS (S:Nat->Prop) (it:aI) (cv:Value) (w:World) (hcv:bw S w cv it.chunks) (hok:df it) (henv:iV w):Calls Tryz.prog 96 #[mq cv it] w fun e w'=>e= .returned (.bool (ep it))/\Below w.heap.size w w':=by
 obtain⟨a,cap,rfl,hc,hm,-⟩:=aU.shape hcv lZ.len;unfold maxLen at hm;have HV:=aa hcv;have HO:=aa hok;have HE:=aa henv;have hq1:=hok.nm;have hq2:=hok.lk;unfold maxLen at hq1 hq2;have heq: ∀w,(Op.equalIn 10000 26 (.agg #[.string it.node.name, .int .i64 it.node.gen, .int .i64 it.node.size]) (.agg #[.string ⟨#[]⟩, .int .i64 0, .int .i64 0])).run Tryz.prog w= .ok (decide (it.node=bG)) w:=fun w=>Bi it.node bG w
 have HL:=aa (show it.link.toList=[]<->it.link.size=0 by rw[cA,am]; simp);clear hcv hok henv;unfold mq
 cases hv:bq (bl it.name)
 ·have HVP:=aa hv;clear hv
  go_enter Tryz.func96,Tryz.ntmps96
  go_wp2_with fail;obtain⟨W,hW⟩: ∃W,W=w.alloc (.cells #[.string it.name, .int .i64 it.kind, .int .i64 it.mode, .int .i64 it.time, .int .i64 it.size, .string it.link, .slice a it.chunks.length cap, .string it.node.name, .int .i64 it.node.gen, .int .i64 it.node.size] 28):=⟨_,rfl⟩;rw[<-hW];have HBW:=aa (show Below w.heap.size w W by rw[hW]; exact bH);have HBX:=aa (show W.heap[w.heap.size]? =some (.cells #[.string it.name, .int .i64 it.kind, .int .i64 it.mode, .int .i64 it.time, .int .i64 it.size, .string it.link, .slice a it.chunks.length cap, .string it.node.name, .int .i64 it.node.gen, .int .i64 it.node.size] 28 (0,0)) by rw[hW]; exact heap_alloc_new w _)
  clear hW;refine(gM it.name false _ (HE.o.below HBW.o) HVP.o).mono ?_;rintro e w1 ⟨rfl,hb1⟩;have HB1:=aa (ab HBW.o hb1);clear hb1;go_wp2_with fail;go_ret;exact⟨aD (by simp[ep,nW,HVP.o]),HB1.o⟩
 ·have HVP:=aa hv;clear hv
  cases hcn:(bl it.name).contains 47
  ·have HCN:=aa hcn;clear hcn
   by_cases hmt:0<=it.mode/\it.mode<=511/\0<=it.time
   ·have HH:=aa (show ep it=fg it by obtain⟨x1,x2,x3⟩:=hmt; unfold ep nW; rw[HVP.o,HCN.o]; simp[x1,x2,x3]);obtain⟨hm1,hm2,hm3⟩:=hmt
    go_enter Tryz.func96,Tryz.ntmps96
    go_wp2_with fail;obtain⟨W,hW⟩: ∃W,W=w.alloc (.cells #[.string it.name, .int .i64 it.kind, .int .i64 it.mode, .int .i64 it.time, .int .i64 it.size, .string it.link, .slice a it.chunks.length cap, .string it.node.name, .int .i64 it.node.gen, .int .i64 it.node.size] 28):=⟨_,rfl⟩;rw[<-hW];have HBW:=aa (show Below w.heap.size w W by rw[hW]; exact bH);have HBX:=aa (show W.heap[w.heap.size]? =some (.cells #[.string it.name, .int .i64 it.kind, .int .i64 it.mode, .int .i64 it.time, .int .i64 it.size, .string it.link, .slice a it.chunks.length cap, .string it.node.name, .int .i64 it.node.gen, .int .i64 it.node.size] 28 (0,0)) by rw[hW]; exact heap_alloc_new w _)
    clear hW;refine(gM it.name true _ (HE.o.below HBW.o) HVP.o).mono ?_;rintro e w1 ⟨rfl,hb1⟩;have HBXr:=aa ((hb1.block w.heap.size ((Array.getElem?_eq_some_iff.1 HBX.o).1)).trans HBX.o);have HB1:=aa (ab HBW.o hb1);have hlt1:w.heap.size<w1.heap.size:=(Array.getElem?_eq_some_iff.1 HBXr.o).1;obtain⟨c0,c1,c2,c3,c4,c5,c6,c7,c8,c9,_⟩:=aj HBXr.o;simp only[Nat.zero_add,Nat.reduceAdd]at c1 c2 c3 c4 c5 c6 c7 c8 c9
    clear hb1 HBX;go_wp2_with fail;refine(kT it.name false _ HCN.o).mono ?_;rintro e w2 ⟨rfl,rfl⟩
    by_cases hk1:it.kind=1
    ·have e1:(it.kind == 1)=true:=by simp[hk1]
     have HK:=aa (show fg it=(decide (it.link.size=0) && decide (it.node=bG) && fA it) by unfold fg; rw[if_pos hk1]);clear hk1;have HVA:=aa (show bw S (w1.alloc (.cells #[.string ⟨#[]⟩, .int .i64 0, .int .i64 0] 26)) (.slice a it.chunks.length cap) it.chunks from aU.below HV.o (by omega) (HB1.o.alloc HB1.o.size _) (fun _ _ _ h=>h));go_wp2_with fail
     ·have hvc:=pI S ⟨it.name,it.kind,it.mode,it.time,it.size,it.link,it.chunks,bG⟩ (.slice a it.chunks.length cap) _ HVA.o;simp only[mq,fA]at hvc;refine hvc.mono ?_;rintro e w3 ⟨rfl,hb3⟩;have HB3:=aa (ab (HB1.o.alloc HB1.o.size _) hb3);have hl:it.link.size=0:=HL.o.1 (by assumption);have hn:it.node=bG:=by assumption
      have HLN:=aa (And.intro hl hn);clear hb3 hl hn;go_wp2_with fail;go_ret;exact⟨aD (by rw[HH.o,HK.o]; simp[HLN.o.1,HLN.o.2]; rfl),HB3.o⟩
     all_goals (
      go_ret;refine⟨aD ?_,HB1.o.alloc HB1.o.size _⟩;rw[HH.o,HK.o];refine(Bool.eq_false_iff.2 fun hh=> ?_).symm;simp only[Bool.and_eq_true,decide_eq_true_eq]at hh;obtain⟨⟨x1,x2⟩,x3⟩:=hh
      first | exact absurd x2 (by assumption) | exact absurd (HL.o.2 x1) (by assumption))
    ·have e1:(it.kind == 1)=false:=by simp[hk1]
     by_cases hk2:it.kind=2
     ·have e2:(it.kind == 2)=true:=by simp[hk2]
      have HK:=aa (show fg it=(decide (it.link.size=0) && decide (it.size=0) && decide (it.chunks.length=0) && gL it.node) by unfold fg; rw[if_neg hk1,if_pos hk2]);clear hk1 hk2;go_wp2_with fail
      ·refine(nX it.node _ HO.o.nd).mono ?_;rintro e w3 ⟨rfl,hb3⟩;have HB3:=aa (ab (HB1.o.alloc HB1.o.size _) hb3);have hl:it.link.size=0:=HL.o.1 (by assumption);have hs:it.size=0:=by assumption
       have hn:it.chunks=[]:=by assumption
       have HLN:=aa (And.intro hl (And.intro hs hn));clear hb3 hl hn hs;go_wp2_with fail;go_ret;exact⟨aD (by rw[HH.o,HK.o]; simp[HLN.o.1,HLN.o.2.1,HLN.o.2.2]),HB3.o⟩
      all_goals (
       go_ret;refine⟨aD ?_,HB1.o.alloc HB1.o.size _⟩;rw[HH.o,HK.o];refine(Bool.eq_false_iff.2 fun hh=> ?_).symm;simp only[Bool.and_eq_true,decide_eq_true_eq]at hh;obtain⟨⟨⟨x1,x2⟩,x3⟩,x4⟩:=hh
       first | exact absurd (List.eq_nil_of_length_eq_zero x3) (by assumption) | exact absurd x2 (by assumption) | exact absurd (HL.o.2 x1) (by assumption))
     ·have e2:(it.kind == 2)=false:=by simp[hk2]
      by_cases hk3:it.kind=3
      ·have e3:(it.kind == 3)=true:=by simp[hk3]
       have HK:=aa (show fg it=((decide (it.size=0) && decide (it.chunks.length=0) && decide (it.node=bG)) && (decide (1<=it.link.size) && decide (it.link.size<=512) && !(bl it.link).contains 0)) by unfold fg; rw[if_neg hk1,if_neg hk2,if_pos hk3]);clear hk1 hk2 hk3;go_wp2_with fail
       any_goals (
        go_ret;refine⟨aD ?_,HB1.o.alloc HB1.o.size _⟩;rw[HH.o,HK.o];refine(Bool.eq_false_iff.2 fun hh=> ?_).symm;simp only[Bool.and_eq_true,decide_eq_true_eq]at hh;obtain⟨⟨⟨x1,x2⟩,x3⟩,⟨x4,x5⟩,x6⟩:=hh
        first
         | exact absurd x1 (by assumption)
         | exact absurd (List.eq_nil_of_length_eq_zero x2) (by assumption)
         | (exfalso; have hn:(!decide (it.node=bG))=true:=(by assumption); simp[x3]at hn)
         | omega)
       refine(sB it.link _).mono ?_;rintro e w3 ⟨rfl,rfl⟩;have hs:it.size=0:=by assumption
       have hch:it.chunks=[]:=by assumption
       have hn:(!decide (it.node=bG))=false:=by assumption
       have hl1:1<=(it.link.size:Int):=by assumption
       have hl2:(it.link.size:Int)<=512:=by assumption
       have HLN:=aa (And.intro hs (And.intro hch (And.intro hn (And.intro hl1 hl2))));go_wp2_with fail;go_ret;refine⟨aD ?_,HB1.o.alloc HB1.o.size _⟩;obtain⟨y1,y2,y3,y4,y5⟩:=HLN.o;have y6:it.node=bG:=by simpa using y3
       rw[HH.o,HK.o,<-fF];have z1:decide (1<=it.link.size)=true:=by simp; omega
       have z2:decide (it.link.size<=512)=true:=by simp; omega
       rw[z1,z2];simp[y1,y2,y6];rw[Bool.eq_iff_iff]; simp
      ·have e3:(it.kind == 3)=false:=by simp[hk3]
       have HK:=aa (show fg it=false by unfold fg; rw[if_neg hk1,if_neg hk2,if_neg hk3]);clear hk1 hk2 hk3;go_wp2_with fail;go_ret;exact⟨aD (by rw[HH.o,HK.o]),HB1.o.alloc HB1.o.size _⟩
   ·have HF:=aa (show ep it=false by
     have:(decide (0<=it.mode) && decide (it.mode<=511) && decide (0<=it.time))=false:=by
      rw[Bool.eq_false_iff]; simp; omega
     unfold ep nW; rw[this]; simp)
    go_enter Tryz.func96,Tryz.ntmps96
    go_wp2_with fail;obtain⟨W,hW⟩: ∃W,W=w.alloc (.cells #[.string it.name, .int .i64 it.kind, .int .i64 it.mode, .int .i64 it.time, .int .i64 it.size, .string it.link, .slice a it.chunks.length cap, .string it.node.name, .int .i64 it.node.gen, .int .i64 it.node.size] 28):=⟨_,rfl⟩;rw[<-hW];have HBW:=aa (show Below w.heap.size w W by rw[hW]; exact bH);have HBX:=aa (show W.heap[w.heap.size]? =some (.cells #[.string it.name, .int .i64 it.kind, .int .i64 it.mode, .int .i64 it.time, .int .i64 it.size, .string it.link, .slice a it.chunks.length cap, .string it.node.name, .int .i64 it.node.gen, .int .i64 it.node.size] 28 (0,0)) by rw[hW]; exact heap_alloc_new w _)
    clear hW;refine(gM it.name true _ (HE.o.below HBW.o) HVP.o).mono ?_;rintro e w1 ⟨rfl,hb1⟩;have HBXr:=aa ((hb1.block w.heap.size ((Array.getElem?_eq_some_iff.1 HBX.o).1)).trans HBX.o);have HB1:=aa (ab HBW.o hb1);have hlt1:w.heap.size<w1.heap.size:=(Array.getElem?_eq_some_iff.1 HBXr.o).1;obtain⟨c0,c1,c2,c3,c4,c5,c6,c7,c8,c9,_⟩:=aj HBXr.o;simp only[Nat.zero_add,Nat.reduceAdd]at c1 c2 c3 c4 c5 c6 c7 c8 c9
    clear hb1 HBX;go_wp2_with fail;refine(kT it.name false _ HCN.o).mono ?_;rintro e w2 ⟨rfl,rfl⟩;have HM3:=aa hmt;clear hmt
    rcases Int.lt_or_le it.mode 0 with h1 | h1
    ·go_wp2_with fail;go_ret;exact⟨aD (by rw[HF.o]),HB1.o⟩
    ·rcases Int.lt_or_le 511 it.mode with h2 | h2
     ·go_wp2_with fail;go_ret;exact⟨aD (by rw[HF.o]),HB1.o⟩
     ·have h3:it.time<0:=by have:=HM3.o; omega
      go_wp2_with fail;go_ret;exact⟨aD (by rw[HF.o]),HB1.o⟩
  ·have HCN:=aa hcn;clear hcn
   go_enter Tryz.func96,Tryz.ntmps96
   go_wp2_with fail;obtain⟨W,hW⟩: ∃W,W=w.alloc (.cells #[.string it.name, .int .i64 it.kind, .int .i64 it.mode, .int .i64 it.time, .int .i64 it.size, .string it.link, .slice a it.chunks.length cap, .string it.node.name, .int .i64 it.node.gen, .int .i64 it.node.size] 28):=⟨_,rfl⟩;rw[<-hW];have HBW:=aa (show Below w.heap.size w W by rw[hW]; exact bH);have HBX:=aa (show W.heap[w.heap.size]? =some (.cells #[.string it.name, .int .i64 it.kind, .int .i64 it.mode, .int .i64 it.time, .int .i64 it.size, .string it.link, .slice a it.chunks.length cap, .string it.node.name, .int .i64 it.node.gen, .int .i64 it.node.size] 28 (0,0)) by rw[hW]; exact heap_alloc_new w _)
   clear hW;refine(gM it.name true _ (HE.o.below HBW.o) HVP.o).mono ?_;rintro e w1 ⟨rfl,hb1⟩;have HBXr:=aa ((hb1.block w.heap.size ((Array.getElem?_eq_some_iff.1 HBX.o).1)).trans HBX.o);have HB1:=aa (ab HBW.o hb1);have hlt1:w.heap.size<w1.heap.size:=(Array.getElem?_eq_some_iff.1 HBXr.o).1;obtain⟨c0,c1,c2,c3,c4,c5,c6,c7,c8,c9,_⟩:=aj HBXr.o;simp only[Nat.zero_add,Nat.reduceAdd]at c1 c2 c3 c4 c5 c6 c7 c8 c9
   clear hb1 HBX;go_wp2_with fail;refine(kT it.name true _ HCN.o).mono ?_;rintro e w2 ⟨rfl,rfl⟩;go_wp2_with fail;go_ret;exact⟨aD (by unfold ep nW; rw[HCN.o]; simp),HB1.o⟩
def fH (S:Nat->Prop) (w:World) (c:List Value) (it:aI):Prop:= ∃cv,c=cg cv it/\bw S w cv it.chunks/\df it
theorem fH.len {S:Nat->Prop} {w:World} (c:List Value) (it:aI) (h:fH S w c it):c.length=10:=by obtain⟨cv,rfl,_⟩:=h; rfl
def bI (S:Nat->Prop) (w:World) (v:Value) (l:List aI):Prop:=aU S w 10 (fH S w) v l
theorem bI.below {S:Nat->Prop} {w w':World} {v:Value} {l:List aI} (h:bI S w v l) (hb:Below w.heap.size w w'):bI S w' v l:=
 aU.below h (by omega) hb (fun c x _ ⟨cv,h1,h2,h3⟩=>⟨cv,h1,aU.below h2 (by omega) hb (fun _ _ _ h=>h),h3⟩)
theorem gG {S:Nat->Prop} {w w':World} {a:Option Addr} {n cap:Nat} {l:List aI} (hv:bI S w (.slice a n cap) l) (hb:Below w.heap.size w w') {k:Nat} {it:aI} (hr:l[k]? =some it):
  ∃b o ca cc,a=some ⟨b,o,none⟩/\df it/\bw S w' (.slice ca it.chunks.length cc) it.chunks/\b<w.heap.size/\S b/\ ∀j,j<10->w'.cell? ⟨b,o+k*10+j,none⟩=(cg (.slice ca it.chunks.length cc) it)[j]? :=by
 obtain⟨a',cap',hv',_,_,hx⟩:=aU.shape hv fH.len
 cases hv'
 obtain⟨b,o,c,rfl,hS,⟨cv,rfl,hrf,hok⟩,_,hcl⟩:=hx k it hr;have q0:=hcl 0 (by omega);have hlt:b<w.heap.size:=aP (a:=⟨b,o+(k*10+0),none⟩) (v:= .string it.name) q0;obtain⟨ca,cc,rfl,_,_,_⟩:=aU.shape hrf lZ.len;refine⟨b,o,ca,cc,rfl,hok,aU.below hrf (by omega) hb (fun _ _ _ h=>h),hlt,hS,fun j hj=> ?_⟩;rw[Nat.add_assoc];exact(hb.cell (p:=⟨b,o+(k*10+j),none⟩) hlt).trans (hcl j hj)
def GZ (a b:ByteArray):Bool:=Op.bytesLess a.toList b.toList
def kj (p:Option ByteArray) (n:ByteArray):Bool:=match p with
 | none=>true
 | some q=>GZ q n
def eu :Option ByteArray->List aI->Bool
 | _,[]=>true
 | p,it::r=>ep it && kj p it.name && eu (some it.name) r
def eq (l:List aI):Bool:=decide (l.length<=4096) && eu none l
def kJ (l:List aI) (k:Nat):Option ByteArray:=match k with
 | 0=>none
 | k+1=>l[k]?.map aI.name
theorem De {l:List aI} {k:Nat} {it:aI} (hk:1<=k) (h:l[k-1]? =some it):kJ l k=some it.name:=by
 cases k with
 | zero=>omega
 | succ k=>
  simp only[Nat.add_sub_cancel]at h;simp[kJ,h]
theorem jp {l:List aI} {k:Nat} {it:aI} (h:l[k]? =some it):eu (kJ l k) (l.drop k)=(ep it && kj (kJ l k) it.name && eu (kJ l (k+1)) (l.drop (k+1))):=by
 obtain⟨hk,rfl⟩:=List.getElem?_eq_some_iff.1 h;rw[List.drop_eq_getElem_cons hk]
 show(ep l[k] && kj (kJ l k) l[k].name && eu (some l[k].name) _)=_
 simp[kJ,hk]
theorem io (S:Nat->Prop) (it:aI) (cv:Value) (b:Bool) (w:World) (hcv:bw S w cv it.chunks) (hok:df it) (henv:iV w) (h:ep it=b):Calls Tryz.prog 96 #[mq cv it] w fun e w'=>e= .returned (.bool b)/\Below w.heap.size w w':=by
 rw[<-h]; exact sS S it cv w hcv hok henv
theorem sU (S:Nat->Prop) (l:List aI) (v:Value) (w:World) (hv:bI S w v l) (henv:iV w):Calls Tryz.prog 47 #[v] w fun e w'=>e= .returned (.bool (eq l))/\Below w.heap.size w w':=by
 obtain⟨a,cap,rfl,hc,hm,-⟩:=aU.shape hv fH.len;unfold maxLen at hm;have HV:=aa hv;have HE:=aa henv;clear hv henv
 by_cases hbig:4096<l.length
 ·have HF:=aa (show eq l=false by
   unfold eq;have:decide (l.length<=4096)=false:=by simp; omega
   rw[this]; rfl)
  go_enter Tryz.func47,Tryz.ntmps47
  go_wp2_with fail;go_ret;exact⟨aD (by rw[HF.o]),Below.refl _ _⟩
 ·have HN:=aa (show eq l=eu none l by
   unfold eq;have:decide (l.length<=4096)=true:=by simp; omega
   rw[this]; rfl)
  go_enter Tryz.func47,Tryz.ntmps47
  go_wp2_with fail
  go_loopw [3,4,10] (fun x p i wr=> ∃k:Nat,k<=l.length/\i= .int .i64 k/\eu none l=eu (kJ l k) (l.drop k)/\Below w.heap.size w wr) (fun _ _ i _=>l.length-(intOf i).toNat)
  case atStart=>exact⟨0,Nat.zero_le _,rfl,rfl,Below.refl _ _⟩
  case round=>
   obtain⟨k,hk,rfl,hal,hb⟩:=hrel;have HB:=aa hb;have HA:=aa hal;clear hb hal
   by_cases hlt:k<l.length
   ·obtain⟨it,hr⟩: ∃it,l[k]? =some it:=⟨l[k],by simp[hlt]⟩;obtain⟨b,o,ca,cc,rfl,hok,hrf,hbl,-,hcl⟩:=gG HV.o HB.o hr;have HR:=aa hr;have HO:=aa hok;have HRF:=aa hrf;have q0:=hcl 0 (by omega);have q1:=hcl 1 (by omega);have q2:=hcl 2 (by omega);have q3:=hcl 3 (by omega);have q4:=hcl 4 (by omega);have q5:=hcl 5 (by omega);have q6:=hcl 6 (by omega);have q7:=hcl 7 (by omega)
    have q8:=hcl 8 (by omega);have q9:=hcl 9 (by omega);simp only[cg,vN,Nat.add_zero]at q0 q1 q2 q3 q4 q5 q6 q7 q8 q9;clear hr hok hrf hcl;have hbw:=HB.o.size
    cases hvi:ep it
    ·have HVI:=aa hvi;clear hvi;have HF:=aa (show eu none l=false by rw[HA.o,jp HR.o,HVI.o]; rfl);go_wp2_with fail;refine az [some 1,none,some 16] (by kernel_rfl) (by kernel_rfl) (by kernel_rfl) ?_;simp only[bC,List.take_succ_cons,List.take_zero,List.drop_succ_cons,List.drop_zero]
     repeat (first | (refine aK rfl ?_; simp only[Act.put,aZ,bg,bh]) | (refine aS rfl (fun K hK=> ?_); go_simp; refine hK _ ?_; clear hK K))
     refine aR ?_;have HV2:=aa (show bw S (wr.alloc (.cells #[.string it.name, .int .i64 it.kind, .int .i64 it.mode, .int .i64 it.time, .int .i64 it.size, .string it.link, .slice ca it.chunks.length cc, .string it.node.name, .int .i64 it.node.gen, .int .i64 it.node.size] 28)).drew (.slice ca it.chunks.length cc) it.chunks from aU.below HRF.o (by omega) ((bH).drew) (fun _ _ _ h=>h))
     have HE2:=aa (show iV (wr.alloc (.cells #[.string it.name, .int .i64 it.kind, .int .i64 it.mode, .int .i64 it.time, .int .i64 it.size, .string it.link, .slice ca it.chunks.length cc, .string it.node.name, .int .i64 it.node.gen, .int .i64 it.node.size] 28)).drew from HE.o.below ((HB.o.alloc HB.o.size _).drew));refine bJ rfl (fun K hK=> ?_);go_wp2_with (go_at_call 96; refine(io S it (.slice ca it.chunks.length cc) false _ HV2.o HO.o HE2.o HVI.o).mono ?_; rintro e w1 ⟨rfl,hb1⟩)
     have HB1:=aa (ab ((HB.o.alloc HB.o.size _).drew) hb1);have HB1r:=aa (((Below.refl _ _).alloc (Nat.le_refl _) (.cells #[.string it.name, .int .i64 it.kind, .int .i64 it.mode, .int .i64 it.time, .int .i64 it.size, .string it.link, .slice ca it.chunks.length cc, .string it.node.name, .int .i64 it.node.gen, .int .i64 it.node.size] 28)).drew.trans (hb1.mono (by simp)));have n0:w1.cell? ⟨wr.heap.size,0,none⟩=some (.string it.name):=(hb1.cell (p:=⟨wr.heap.size,0,none⟩) (by simp)).trans (aB (heap_alloc_new wr _))
     clear hb1
     repeat (first | (refine aK rfl ?_; simp only[Act.put,aZ,bg,bh]) | (refine aS rfl (fun K hK=> ?_); go_simp; refine hK _ ?_; clear hK K))
     refine aR ?_;go_wp2_with fail;go_ret;exact⟨aD (by rw[HN.o,HF.o]),HB1.o⟩
    ·have HVI:=aa hvi;clear hvi
     by_cases hk0:k<=0
     ·have HF:=aa (show eu none l=eu (kJ l (k+1)) (l.drop (k+1)) by
       obtain rfl:k=0:=by omega
       rw[HA.o,jp HR.o,HVI.o]; simp[kJ,kj])
      have ek:decide (0<k)=false:=by simp; omega
      go_wp2_with fail;refine az [some 1,none,some 16] (by kernel_rfl) (by kernel_rfl) (by kernel_rfl) ?_;simp only[bC,List.take_succ_cons,List.take_zero,List.drop_succ_cons,List.drop_zero]
      repeat (first | (refine aK rfl ?_; simp only[Act.put,aZ,bg,bh]) | (refine aS rfl (fun K hK=> ?_); go_simp; refine hK _ ?_; clear hK K))
      refine aR ?_;have HV2:=aa (show bw S (wr.alloc (.cells #[.string it.name, .int .i64 it.kind, .int .i64 it.mode, .int .i64 it.time, .int .i64 it.size, .string it.link, .slice ca it.chunks.length cc, .string it.node.name, .int .i64 it.node.gen, .int .i64 it.node.size] 28)).drew (.slice ca it.chunks.length cc) it.chunks from aU.below HRF.o (by omega) ((bH).drew) (fun _ _ _ h=>h))
      have HE2:=aa (show iV (wr.alloc (.cells #[.string it.name, .int .i64 it.kind, .int .i64 it.mode, .int .i64 it.time, .int .i64 it.size, .string it.link, .slice ca it.chunks.length cc, .string it.node.name, .int .i64 it.node.gen, .int .i64 it.node.size] 28)).drew from HE.o.below ((HB.o.alloc HB.o.size _).drew));refine bJ rfl (fun K hK=> ?_);go_wp2_with (go_at_call 96; refine(io S it (.slice ca it.chunks.length cc) true _ HV2.o HO.o HE2.o HVI.o).mono ?_; rintro e w1 ⟨rfl,hb1⟩)
      have HB1:=aa (ab ((HB.o.alloc HB.o.size _).drew) hb1);have HB1r:=aa (((Below.refl _ _).alloc (Nat.le_refl _) (.cells #[.string it.name, .int .i64 it.kind, .int .i64 it.mode, .int .i64 it.time, .int .i64 it.size, .string it.link, .slice ca it.chunks.length cc, .string it.node.name, .int .i64 it.node.gen, .int .i64 it.node.size] 28)).drew.trans (hb1.mono (by simp)));have n0:w1.cell? ⟨wr.heap.size,0,none⟩=some (.string it.name):=(hb1.cell (p:=⟨wr.heap.size,0,none⟩) (by simp)).trans (aB (heap_alloc_new wr _))
      clear hb1
      repeat (first | (refine aK rfl ?_; simp only[Act.put,aZ,bg,bh]) | (refine aS rfl (fun K hK=> ?_); go_simp; refine hK _ ?_; clear hK K))
      refine aR ?_;go_wp2_with fail
      go_roundw
      case rel=>exact⟨k+1,by omega,by go_num,HF.o,HB1.o⟩
      case measure=>simp[intOf]; omega
     ·obtain⟨ip,hrp⟩: ∃ip,l[k-1]? =some ip:=⟨l[k-1],by simp⟩;obtain⟨b2,o2,ca2,cc2,e2,-,-,-,-,hcl2⟩:=gG HV.o HB.o hrp
      cases e2
      have p0:=hcl2 0 (by omega);simp only[cg,List.getElem?_cons_zero,Nat.add_zero]at p0;have HPR:=aa (show kJ l k=some ip.name from De (by omega) hrp);clear hcl2 hrp;have hb0:(0:Int)<=(k:Int)-1:=by omega
      have hbn:(k:Int)-1<(l.length:Int):=by omega
      have ek:decide (0<k)=true:=by simp; omega
      cases hlt2:GZ ip.name it.name
      ·have e3:Op.bytesLess ip.name.toList it.name.toList=false:=hlt2;have HF:=aa (show eu none l=false by rw[HA.o,jp HR.o,HVI.o,HPR.o]; simp[kj,hlt2]);clear hlt2;go_wp2_with fail;refine az [some 1,none,some 16] (by kernel_rfl) (by kernel_rfl) (by kernel_rfl) ?_;simp only[bC,List.take_succ_cons,List.take_zero,List.drop_succ_cons,List.drop_zero]
       repeat (first | (refine aK rfl ?_; simp only[Act.put,aZ,bg,bh]) | (refine aS rfl (fun K hK=> ?_); go_simp; refine hK _ ?_; clear hK K))
       refine aR ?_;have HV2:=aa (show bw S (wr.alloc (.cells #[.string it.name, .int .i64 it.kind, .int .i64 it.mode, .int .i64 it.time, .int .i64 it.size, .string it.link, .slice ca it.chunks.length cc, .string it.node.name, .int .i64 it.node.gen, .int .i64 it.node.size] 28)).drew (.slice ca it.chunks.length cc) it.chunks from aU.below HRF.o (by omega) ((bH).drew) (fun _ _ _ h=>h))
       have HE2:=aa (show iV (wr.alloc (.cells #[.string it.name, .int .i64 it.kind, .int .i64 it.mode, .int .i64 it.time, .int .i64 it.size, .string it.link, .slice ca it.chunks.length cc, .string it.node.name, .int .i64 it.node.gen, .int .i64 it.node.size] 28)).drew from HE.o.below ((HB.o.alloc HB.o.size _).drew));refine bJ rfl (fun K hK=> ?_);go_wp2_with (go_at_call 96; refine(io S it (.slice ca it.chunks.length cc) true _ HV2.o HO.o HE2.o HVI.o).mono ?_; rintro e w1 ⟨rfl,hb1⟩)
       have HB1:=aa (ab ((HB.o.alloc HB.o.size _).drew) hb1);have HB1r:=aa (((Below.refl _ _).alloc (Nat.le_refl _) (.cells #[.string it.name, .int .i64 it.kind, .int .i64 it.mode, .int .i64 it.time, .int .i64 it.size, .string it.link, .slice ca it.chunks.length cc, .string it.node.name, .int .i64 it.node.gen, .int .i64 it.node.size] 28)).drew.trans (hb1.mono (by simp)));have n0:w1.cell? ⟨wr.heap.size,0,none⟩=some (.string it.name):=(hb1.cell (p:=⟨wr.heap.size,0,none⟩) (by simp)).trans (aB (heap_alloc_new wr _))
       clear hb1;have p1:w1.cell? ⟨b,o+(k-1)*10,none⟩=some (.string ip.name):=(HB1r.o.cell (p:=⟨b,o+(k-1)*10,none⟩) (by show b<wr.heap.size; omega)).trans p0;have hs1:IntKind.i64.wrap ((k:Int)-1)=(k:Int)-1:=IntWalk.i64_in _ (by omega);have hs2:((k:Int)-1).toNat=k-1:=by omega
       have hs3:(1:Int)<=(k:Int):=by omega
       have hs4:1<=k:=by omega
       have hs5:0<k:=by omega
       repeat (first | (refine aK rfl ?_; simp only[Act.put,aZ,bg,bh]) | (refine aS rfl (fun K hK=> ?_); go_simp; refine hK _ ?_; clear hK K))
       refine aR ?_;clear hs1 hs2;go_wp2_with fail;go_ret;exact⟨aD (by rw[HN.o,HF.o]),HB1.o⟩
      ·have e3:Op.bytesLess ip.name.toList it.name.toList=true:=hlt2;have HF:=aa (show eu none l=eu (kJ l (k+1)) (l.drop (k+1)) by rw[HA.o,jp HR.o,HVI.o,HPR.o]; simp[kj,hlt2]);clear hlt2;go_wp2_with fail;refine az [some 1,none,some 16] (by kernel_rfl) (by kernel_rfl) (by kernel_rfl) ?_;simp only[bC,List.take_succ_cons,List.take_zero,List.drop_succ_cons,List.drop_zero]
       repeat (first | (refine aK rfl ?_; simp only[Act.put,aZ,bg,bh]) | (refine aS rfl (fun K hK=> ?_); go_simp; refine hK _ ?_; clear hK K))
       refine aR ?_;have HV2:=aa (show bw S (wr.alloc (.cells #[.string it.name, .int .i64 it.kind, .int .i64 it.mode, .int .i64 it.time, .int .i64 it.size, .string it.link, .slice ca it.chunks.length cc, .string it.node.name, .int .i64 it.node.gen, .int .i64 it.node.size] 28)).drew (.slice ca it.chunks.length cc) it.chunks from aU.below HRF.o (by omega) ((bH).drew) (fun _ _ _ h=>h))
       have HE2:=aa (show iV (wr.alloc (.cells #[.string it.name, .int .i64 it.kind, .int .i64 it.mode, .int .i64 it.time, .int .i64 it.size, .string it.link, .slice ca it.chunks.length cc, .string it.node.name, .int .i64 it.node.gen, .int .i64 it.node.size] 28)).drew from HE.o.below ((HB.o.alloc HB.o.size _).drew));refine bJ rfl (fun K hK=> ?_);go_wp2_with (go_at_call 96; refine(io S it (.slice ca it.chunks.length cc) true _ HV2.o HO.o HE2.o HVI.o).mono ?_; rintro e w1 ⟨rfl,hb1⟩)
       have HB1:=aa (ab ((HB.o.alloc HB.o.size _).drew) hb1);have HB1r:=aa (((Below.refl _ _).alloc (Nat.le_refl _) (.cells #[.string it.name, .int .i64 it.kind, .int .i64 it.mode, .int .i64 it.time, .int .i64 it.size, .string it.link, .slice ca it.chunks.length cc, .string it.node.name, .int .i64 it.node.gen, .int .i64 it.node.size] 28)).drew.trans (hb1.mono (by simp)));have n0:w1.cell? ⟨wr.heap.size,0,none⟩=some (.string it.name):=(hb1.cell (p:=⟨wr.heap.size,0,none⟩) (by simp)).trans (aB (heap_alloc_new wr _))
       clear hb1;have p1:w1.cell? ⟨b,o+(k-1)*10,none⟩=some (.string ip.name):=(HB1r.o.cell (p:=⟨b,o+(k-1)*10,none⟩) (by show b<wr.heap.size; omega)).trans p0;have hs1:IntKind.i64.wrap ((k:Int)-1)=(k:Int)-1:=IntWalk.i64_in _ (by omega);have hs2:((k:Int)-1).toNat=k-1:=by omega
       have hs3:(1:Int)<=(k:Int):=by omega
       have hs4:1<=k:=by omega
       have hs5:0<k:=by omega
       repeat (first | (refine aK rfl ?_; simp only[Act.put,aZ,bg,bh]) | (refine aS rfl (fun K hK=> ?_); go_simp; refine hK _ ?_; clear hK K))
       refine aR ?_;clear hs1 hs2;go_wp2_with fail
       go_roundw
       case rel=>exact⟨k+1,by omega,by go_num,HF.o,HB1.o⟩
       case measure=>simp[intOf]; omega
   ·go_wp2_with fail;go_ret;exact⟨aD (by rw[HN.o,HA.o,List.drop_of_length_le (by omega)]; simp[eu]),HB.o⟩
end Go.Proofs.YtpffpjbkbaleiaaGreatDoor
namespace Go.Proofs.YtpffpjbkbaleiaaGreatDoor
open Go
section
variable {P : Program} {md : Region.Mode} {Q : Exit → Act → World → Prop}
def sV (P:Program) (ops:Array Oper) (m:Nat) (Q:Exit->Act->World->Prop):Exit->Act->World->Prop
 | .normal,a,w=>wpOp P ops Q m (fun a' w'=>Q .normal a' w') a w
 | e,a,w=>Q e a w
def xp (md:Region.Mode) (L:List Oper):Bool:=
 yW md L.toArray (L.length-1) && decide (0<L.length) &&
 ((List.range L.length).all fun i=>match L[i]? with | some x=>x.after.all (fun e=>decide (e.on<i)) && (match x.guard with | none=>true | some (j,_)=>decide (j<i)) | none=>true)
theorem vz {L:List Oper} {i:Nat} (hi:i<L.length-1):L.dropLast.toArray[i]? =L.toArray[i]? :=by
 simp[hi]
theorem Gj {L:List Oper} {i m:Nat} (hi:i<L.length-1) (hg: ∀(x:Oper) (j:Nat) (b:Bool),L[i]? =some x->x.guard=some (j,b)->j<i) {K:Act->World->Prop} {a:Act} {w:World}
  (h:wpOp P L.dropLast.toArray (sV P L.toArray m Q) i K a w):wpOp P L.toArray Q i K a w:=by
 unfold wpOp at h ⊢;rw[vz hi]at h
 cases hx:L.toArray[i]? with
 | none=>rw[hx]at h; exact h
 | some x=>
  rw[hx]at h;simp only at h ⊢;have hw:Region.wanted x (yielded L.dropLast.toArray a.tmps)=Region.wanted x (yielded L.toArray a.tmps):=by
   unfold Region.wanted
   cases hgd:x.guard with
   | none=>rfl
   | some p=>
    obtain⟨j,b⟩:=p;have hj:=hg x j b (by simpa using hx) hgd;simp only[yielded];rw[vz (by omega)]
  rw[hw]at h
  split at h
  ·rename_i hh;rw[if_pos hh];exact h
  ·rename_i hh;rw[if_neg hh];exact h
theorem uJ {ops:Array Oper} {listed:Array Bool} {a:Act} {w:World} (hr:Region.ready md ops listed=[]) (h:Q .normal a w): ∀fuel,wpAny P md ops Q fuel listed a w
 | 0=>⟨hr,h⟩
 | _+1=>⟨fun _=>h,by rw[hr]; simp⟩
theorem lS {L:List Oper} {i:Nat} {listed:Array Bool} (hi:i<L.length-1):i∈Region.ready md L.dropLast.toArray listed<->i∈Region.ready md L.toArray listed:=by
 rw[mem_ready,mem_ready,vz hi]
theorem Bm {listed:Array Bool} {i:Nat} (hi:i<listed.size) (h:listed.getD i true=true):listed.getD i false=true:=by
 simp[hi]at h ⊢; exact h
theorem lq {L:List Oper} {i:Nat} {listed:Array Bool} (h:i∈Region.ready md L.toArray listed):i<L.length:=by
 obtain⟨_,o,ho,_⟩:=mem_ready.1 h
 simpa using (Array.getElem?_eq_some_iff.1 ho).1
theorem Et {L:List Oper} {listed:Array Bool} (hs:listed.size=L.length) (hback: ∀(i:Nat) (x:Oper),L[i]? =some x-> ∀e∈x.after,e.on<i) (hr:Region.ready md L.dropLast.toArray listed=[]):
  ∀(n i:Nat),i<n->i<L.length-1->listed.getD i true=true
 | 0,i,hn,_=>by omega
 | n+1,i,hn,hi=>by
  cases hg:listed.getD i true with
  | true=>rfl
  | false=>
   exfalso
   obtain⟨x,hx⟩: ∃x,L[i]? =some x:=⟨L[i]'(by omega),by simp⟩;have:i∈Region.ready md L.dropLast.toArray listed:=by
    rw[lS hi,mem_ready];refine⟨hg,x,by simpa using hx,fun e he _=> ?_⟩;have hb:=hback i x hx e he;exact Bm (by omega) (Et hs hback hr n e.on (by omega) (by omega))
   rw[hr]at this
   cases this
theorem AX {L:List Oper} (hc:yW md L.toArray (L.length-1)=true) (hpos:0<L.length) (hback: ∀(i:Nat) (x:Oper),L[i]? =some x-> ∀e∈x.after,e.on<i) (hg: ∀(i:Nat) (x:Oper) (j:Nat) (b:Bool),L[i]? =some x->x.guard=some (j,b)->j<i):
  ∀(fuel:Nat) (listed:Array Bool) (a:Act) (w:World),HeadInv md L.toArray (L.length-1) listed->wpAny P md L.dropLast.toArray (sV P L.toArray (L.length-1) Q) fuel listed a w->wpAny P md L.toArray Q (fuel+1) listed a w:=by
 have hlast: ∀listed:Array Bool,HeadInv md L.toArray (L.length-1) listed->Region.ready md L.dropLast.toArray listed=[]->(L.length-1)∈Region.ready md L.toArray listed:=fun listed inv hr=>by
  have hs:listed.size=L.length:=by simpa using inv.size
  obtain⟨x,hx⟩: ∃x,L[L.length-1]? =some x:=⟨L[L.length-1]'(by omega),by simp⟩;rw[mem_ready];refine⟨inv.tail _ (Nat.le_refl _) (by simp; omega),x,by simpa using hx,fun e he _=> ?_⟩;have hb:=hback _ x hx e he;exact Bm (by omega) (Et hs hback hr L.length e.on (by omega) (by omega))
 have hne: ∀listed:Array Bool,HeadInv md L.toArray (L.length-1) listed->Region.ready md L.toArray listed≠[]:=fun listed inv e=>by
  cases hr:Region.ready md L.dropLast.toArray listed with
  | nil=>have:=hlast listed inv hr; rw[e]at this; cases this
  | cons i r=>
   have hi:i∈Region.ready md L.dropLast.toArray listed:=by rw[hr]; simp
   have hlt:=lq hi;simp only[List.length_dropLast]at hlt;rw[lS hlt,e]at hi
   cases hi
 have hfin: ∀listed:Array Bool,HeadInv md L.toArray (L.length-1) listed->(L.length-1)∈Region.ready md L.toArray listed->Region.ready md L.dropLast.toArray listed=[]/\Region.ready md L.toArray (listed.setIfInBounds (L.length-1) true)=[]:=fun listed inv hm=>by
  have hs:listed.size=L.length:=by simpa using inv.size
  have hall: ∀i,i<L.length-1->listed.getD i true=true:=fun i hi=>by
   cases hgd:listed.getD i true with
   | true=>rfl
   | false=>exact absurd hm (oq hc inv _ i rfl hi hgd _ (Nat.le_refl _))
  constructor
  ·rw[List.eq_nil_iff_forall_not_mem];intro i hi;have hlt:=lq hi;simp only[List.length_dropLast]at hlt;have:=(mem_ready.1 hi).1;rw[hall i hlt]at this
   cases this
  ·rw[List.eq_nil_iff_forall_not_mem];intro i hi;have hlt:=lq hi;have h1:=(mem_ready.1 hi).1
   by_cases e:i=L.length-1
   ·rw[e]at h1;simp[hs]at h1
   ·rw[getD_set_ne true (Ne.symm e),hall i (by omega)]at h1
    cases h1
 intro fuel
 induction fuel with
 | zero=>
  intro listed a w inv h;refine⟨fun e=>absurd e (hne listed inv),fun i hi=> ?_⟩;have hlt:=lq hi
  by_cases e:i=L.length-1
  ·subst e;exact wpOp_mono (fun a' w' h'=>uJ (hfin listed inv hi).2 h' 0) h.2
  ·have:=(lS (by omega)).2 hi;rw[h.1]at this
   cases this
 | succ fuel ih=>
  intro listed a w inv h;refine⟨fun e=>absurd e (hne listed inv),fun i hi=> ?_⟩;have hlt:=lq hi
  by_cases e:i=L.length-1
  ·subst e;exact wpOp_mono (fun a' w' h'=>uJ (hfin listed inv hi).2 h' (fuel+1)) (h.1 (hfin listed inv hi).1)
  ·have hi':i<L.length-1:=by omega
   refine Gj hi' (fun x j b hx hgd=>hg i x j b hx hgd) (wpOp_mono (fun a' w' h'=>ih _ a' w' (inv.set hi hi') h') (h.2 i ((lS hi').2 hi)))
theorem wX {ops:Array Oper} {m:Nat} :HeadInv md ops m (Array.replicate ops.size false):=by
 refine⟨by simp,fun j oj hj hl=> ?_,fun t _ ht=>by simp[ht]⟩;have:=(Array.getElem?_eq_some_iff.1 hj).1;simp[this]at hl
theorem bN {id:Nat} {a:Act} {w:World} {L:List Oper} (S:World->Prop) (hm:P.follows .mixedOrders=true) (hB:xp .any L=true)
  (h:lI P L.dropLast.toArray (sV P L.toArray (L.length-1) Q) S (L.length-1) (Array.replicate L.length false) a w.drew):(Code.region id L.toArray true).wp P Q a w:=by
 simp only[xp,Bool.and_eq_true,decide_eq_true_eq]at hB;obtain⟨⟨hc,hpos⟩,hall⟩:=hB;have hall': ∀(i:Nat) (x:Oper),L[i]? =some x->(∀e∈x.after,e.on<i)/\ ∀j b,x.guard=some (j,b)->j<i:=fun i x hx=>by
  have:=List.all_eq_true.1 hall i (List.mem_range.2 (List.getElem?_eq_some_iff.1 hx).1);rw[hx]at this;simp only[Bool.and_eq_true]at this;refine⟨fun e he=> ?_,fun j b hg=> ?_⟩
  ·have:=Array.all_eq_true'.1 this.1 e he
   simpa using this
  ·have:=this.2;rw[hg]at this
   simpa using this
 refine wp_region_any hm ?_;have:=AX hc hpos (fun i x hx=>(hall' i x hx).1) (fun i x j b hx=>(hall' i x hx).2 j b) (L.length-1) _ a w.drew wX (wpAny_of_held _ _ _ _ (by simpa using h.out));rw[show L.length-1+1=L.length by omega]at this
 simpa using this
theorem bX {L:List Oper} {m:Nat} {a:Act} {w:World} {dst:Option Tmp} {op:Op} {ty:TypeId} {pos:String} {aft:Array Edge} {g:Option (Nat×Bool)} (hi:L[m]? =some ⟨dst,op,ty,pos,aft,g⟩) (hw:Region.wanted ⟨dst,op,ty,pos,aft,g⟩ (yielded L.toArray a.tmps)=true)
  (h: ∀K:Act->World->Prop,(∀a w,Q .normal a w->K a w)->wpList P #[] (Exit.then K Q) [⟨dst,op,ty,pos, #[],none⟩] a w):sV P L.toArray m Q .normal a w:=by
 show wpOp P L.toArray Q m _ a w
 have hb:sq P L.toArray (fun a' w'=>Q .normal a' w') Q [⟨dst,op,ty,pos,aft,g⟩] a w:=bJ hw (fun K hK=>h K (fun a w hh=>hK a w hh));unfold wpOp;have hi':L.toArray[m]? =some ⟨dst,op,ty,pos,aft,g⟩:=by simpa using hi
 simp only[hi'];exact sq.out hb
end
end Go.Proofs.YtpffpjbkbaleiaaGreatDoor
namespace Go.Proofs.YtpffpjbkbaleiaaGreatDoor
open Go.RowKit
theorem Tryz.appBytes :eH Tryz.prog 29 5 1 1:=eH.mk' (z:= .int .u8 0) Tryz.underlying29 (by kernel_rfl) rfl (by decide) (by decide)
theorem Tryz.appRefs :eH Tryz.prog 24 26 3 32:=eH.mk' (z:= .agg #[.string ⟨#[]⟩, .int .i64 0, .int .i64 0]) Tryz.underlying24 (by kernel_rfl) rfl (by decide) (by decide)
theorem Tryz.appItems :eH Tryz.prog 22 28 10 120:=eH.mk' (z:= .agg #[.string ⟨#[]⟩, .int .i64 0, .int .i64 0, .int .i64 0, .int .i64 0, .string ⟨#[]⟩, .slice none 0 0, .string ⟨#[]⟩, .int .i64 0, .int .i64 0]) Tryz.underlying22 (by kernel_rfl) rfl (by decide) (by decide)
def ar (S:Nat->Prop) (w:World) (v:Value) (bs:List UInt8):Prop:=aL S w 1 v bs.length (bs.map ak)
def Jt (bs:List UInt8) (w:World) (e:Ending) (w':World):Prop:= ∃rb dv,e= .returned (.pointer (some ⟨rb,0,none⟩))/\w.heap.size<=rb/\mZ w' rb dv bs ⟨0,0,0⟩/\Below w.heap.size w w'
theorem ci (bs:List UInt8): ∀u∈bs.map ak,u.oneCell'=true:=fun u hu=>by
 obtain⟨b,_,rfl⟩:=List.mem_map.1 hu
 rfl
theorem sH (S:Nat->Prop) (bs:List UInt8) (v:Value) (w:World) (hv:ar S w v bs) (hl:bs.length<=32768):Calls Tryz.prog 58 #[v] w (Jt bs w):=by
 obtain⟨_,a,cap,rfl,hn,hm,-⟩:=id hv;unfold maxLen at hm;have HV:=aa (show aL S (w.alloc (.cells #[] 5)) 1 (.slice a bs.length cap) bs.length (bs.map ak)from aL.below hv (by omega) (bH));have HO:=aa (World.ownsRow_made (base:=w.heap.size) (e:=5) (size:=1) w #[] 0 (Nat.le_refl _) (by unfold maxLen; omega) rfl);clear hv
 go_enter Tryz.func58,Tryz.ntmps58
 go_wp2_with (at_builtin; go_must (refine bD Tryz.appBytes rfl _ _ rfl w.heap.size _ 0 [] rfl HO.o _ bs.length (bs.map ak) rfl HV.o (ci bs) (by omega) (by simp) ?_); intro v5 w5 hown5 hgrow5; rw[Nat.zero_add,List.nil_append]at hown5; have HO5:=aa hown5; obtain⟨a5,c5,rfl,hn5,hm5⟩:=ai hown5; have HB5:=aa (show Below w.heap.size w w5 from aF ((Below.refl w.heap.size w).alloc (Nat.le_refl _) _) HO.o hgrow5 (Nat.le_refl _) (by simp)); clear hown5 hgrow5)
 go_ret;refine⟨w5.heap.size,_,rfl,HB5.o.size,⟨heap_alloc_new w5 _, ?_,Nat.zero_le _,Nat.zero_le _,hl⟩,HB5.o.alloc HB5.o.size _⟩;have hr:=aL.below (aO HO5.o) (by omega) ((Below.refl w5.heap.size w5).alloc (Nat.le_refl _) (.cells #[.slice a5 bs.length c5, .int .i64 0, .int .i64 0, .int .i64 0] 165));refine hr.weak (fun k hk e=> ?_);have:=(HO5.o.lt k hk.2).2;omega
def ee (data:List UInt8) (s0:RS):Nat->List aV×RS
 | 0=>([],s0)
 | k+1=>((ee data s0 k).1++[(nM data (ee data s0 k).2).1],(nM data (ee data s0 k).2).2)
def lf (data:List UInt8) (nm:List UInt8) (kd md td:Nat) (s:RS):Option (aI×RS):=
 if jW kd=1 then some (⟨⟨nm.toArray⟩,jW kd,jW md,jW td,gQ (ee data (wC data 963 s).2 (wC data 963 s).1).1,⟨#[]⟩,(ee data (wC data 963 s).2 (wC data 963 s).1).1,bG⟩,(ee data (wC data 963 s).2 (wC data 963 s).1).2)
 else if jW kd=2 then some (⟨⟨nm.toArray⟩,jW kd,jW md,jW td,0,⟨#[]⟩,[],(nM data s).1⟩,(nM data s).2)
 else if jW kd=3 then some (⟨⟨nm.toArray⟩,jW kd,jW md,jW td,0,⟨(yH data 512 s).1.toArray⟩,[],bG⟩,(yH data 512 s).2)
 else none
def je (data:List UInt8) (s:RS):Option (aI×RS):=
 lf data (yH data 64 s).1 (pZ data (yH data 64 s).2).1 (pZ data (pZ data (yH data 64 s).2).2).1 (pZ data (pZ data (pZ data (yH data 64 s).2).2).2).1 (pZ data (pZ data (pZ data (yH data 64 s).2).2).2).2
theorem zx {data:List UInt8} {s s2 s3 s4 s5:RS} {nm:List UInt8} {kd md td:Nat} (h1:yH data 64 s=(nm,s2)) (h2:pZ data s2=(kd,s3)) (h3:pZ data s3=(md,s4)) (h4:pZ data s4=(td,s5)):je data s=lf data nm kd md td s5:=by
 have e1:(yH data 64 s).1=nm:=by rw[h1]
 have e2:(yH data 64 s).2=s2:=by rw[h1]
 have e3:(pZ data s2).1=kd:=by rw[h2]
 have e4:(pZ data s2).2=s3:=by rw[h2]
 have e5:(pZ data s3).1=md:=by rw[h3]
 have e6:(pZ data s3).2=s4:=by rw[h3]
 have e7:(pZ data s4).1=td:=by rw[h4]
 have e8:(pZ data s4).2=s5:=by rw[h4]
 unfold je;rw[e2,e4,e6,e1,e3,e5,e7,e8]
theorem zu {data:List UInt8} {s s1 s2:RS} {nm:List UInt8} {kd md td n:Nat} {ch:List aV} (hk:jW kd=1) (h1:wC data 963 s=(n,s1)) (h2:ee data s1 n=(ch,s2)):lf data nm kd md td s=some (⟨⟨nm.toArray⟩,jW kd,jW md,jW td,gQ ch,⟨#[]⟩,ch,bG⟩,s2):=by
 have e1:(wC data 963 s).1=n:=by rw[h1]
 have e2:(wC data 963 s).2=s1:=by rw[h1]
 have e3:(ee data s1 n).1=ch:=by rw[h2]
 have e4:(ee data s1 n).2=s2:=by rw[h2]
 unfold lf;rw[if_pos hk,e1,e2,e3,e4]
theorem CB {data:List UInt8} {s s1:RS} {nm:List UInt8} {kd md td:Nat} {r:aV} (hk:jW kd=2) (h1:nM data s=(r,s1)):lf data nm kd md td s=some (⟨⟨nm.toArray⟩,jW kd,jW md,jW td,0,⟨#[]⟩,[],r⟩,s1):=by
 have e1:(nM data s).1=r:=by rw[h1]
 have e2:(nM data s).2=s1:=by rw[h1]
 have hk1: ¬jW kd=1:=by rw[hk]; omega
 unfold lf;rw[if_neg hk1,if_pos hk,e1,e2]
theorem zv {data:List UInt8} {s s1:RS} {nm lk:List UInt8} {kd md td:Nat} (hk:jW kd=3) (h1:yH data 512 s=(lk,s1)):lf data nm kd md td s=some (⟨⟨nm.toArray⟩,jW kd,jW md,jW td,0,⟨lk.toArray⟩,[],bG⟩,s1):=by
 have e1:(yH data 512 s).1=lk:=by rw[h1]
 have e2:(yH data 512 s).2=s1:=by rw[h1]
 have hk1: ¬jW kd=1:=by rw[hk]; omega
 have hk2: ¬jW kd=2:=by rw[hk]; omega
 unfold lf;rw[if_neg hk1,if_neg hk2,if_pos hk,e1,e2]
theorem zw {data:List UInt8} {s:RS} {nm:List UInt8} {kd md td:Nat} (hk1: ¬jW kd=1) (hk2: ¬jW kd=2) (hk3: ¬jW kd=3):lf data nm kd md td s=none:=by
 unfold lf;rw[if_neg hk1,if_neg hk2,if_neg hk3]
def fl (data:List UInt8) (s0:RS):Nat->Option (List aI×RS)
 | 0=>some ([],s0)
 | k+1=>(fl data s0 k).bind fun p=>(je data p.2).map fun q=>(p.1++[q.1],q.2)
def dT (data:List UInt8):Option (List aI):=
 if 32768<data.length then none else
 (fl data (wC data 4096 ⟨0,0,0⟩).2 (wC data 4096 ⟨0,0,0⟩).1).bind fun p=>if qC data p.2=0/\eq p.1=true then some p.1 else none
theorem jf (data:List UInt8) (s0:RS) (k:Nat):fl data s0 (k+1)=(fl data s0 k).bind fun p=>(je data p.2).map fun q=>(p.1++[q.1],q.2):=rfl
theorem xe {data:List UInt8} {s0:RS} {k:Nat} (h:fl data s0 k=none): ∀n,k<=n->fl data s0 n=none:=by
 intro n hn
 induction n with
 | zero=>
  obtain rfl:k=0:=by omega
  exact h
 | succ n ih=>
  by_cases e:k=n+1
  ·rw[<-e]; exact h
  ·rw[jf,ih (by omega),Option.bind_none]
theorem Ca {α β γ:Type} {x:Option α} {f:α->Option β} {g:α->β->γ} {a:α} {b:β} (h:x=some a) (h1:f a=some b):(x.bind fun p=>(f p).map fun q=>g p q)=some (g a b):=by subst h; rw[Option.bind_some,h1]; rfl
theorem Cb {α β γ:Type} {x:Option α} {f:α->Option β} {g:α->β->γ} {a:α} (h:x=some a) (h1:f a=none):(x.bind fun p=>(f p).map fun q=>g p q)=none:=by subst h; rw[Option.bind_some,h1]; rfl
theorem lh {data:List UInt8} {s0 s s1:RS} {k:Nat} {l:List aI} {it:aI} (h:fl data s0 k=some (l,s)) (h1:je data s=some (it,s1)):fl data s0 (k+1)=some (l++[it],s1):=by
 rw[jf]; exact Ca (f:=fun p:List aI×RS=>je data p.2) (g:=fun p q=>(p.1++[q.1],q.2)) h h1
theorem xf {data:List UInt8} {s0 s:RS} {k:Nat} {l:List aI} (h:fl data s0 k=some (l,s)) (h1:je data s=none):fl data s0 (k+1)=none:=by
 rw[jf]; exact Cb (f:=fun p:List aI×RS=>je data p.2) (g:=fun p q=>(p.1++[q.1],q.2)) h h1
theorem qo (data:List UInt8) (s0:RS): ∀k,(ee data s0 k).1.length=k
 | 0=>rfl
 | k+1=>by rw[ee]; simp[qo data s0 k]
theorem tg (data:List UInt8) (s0:RS): ∀k,∀r∈(ee data s0 k).1,bK r
 | 0=>by simp[ee]
 | k+1=>fun r hr=>by
  rw[ee]at hr;simp only[List.mem_append,List.mem_singleton]at hr
  rcases hr with hr | rfl
  ·exact tg data s0 k r hr
  ·exact BH _ _
theorem vd (data:List UInt8) (most:Nat) (s:RS):(wC data most s).1<=most:=by
 unfold wC rv
 split
 ·split
  ·rename_i x o h;exact(oy h).1
  ·exact Nat.zero_le _
 ·exact Nat.zero_le _
theorem BP (data:List UInt8) (most:Nat) (s:RS):(yH data most s).1.length<=most:=by
 unfold yH rv
 split
 ·split
  ·rename_i x o h;unfold eN at h
   split at h
   ·simp at h
   ·rename_i n o' hn;unfold fw at h
    split at h
    ·simp at h
    ·simp only[Except.ok.injEq,Prod.mk.injEq]at h;obtain⟨rfl,rfl⟩:=h;have:=(oy hn).1
     simp; omega
  ·exact Nat.zero_le _
 ·exact Nat.zero_le _
structure eM (rb ib : Nat) (wr wc : World) (dv : Value) (data : List UInt8) (s : RS) (cs : Array Value) : Prop where
 rd:mZ wc rb dv data s
 rd0: ∃s0,mZ wr rb dv data s0
 box:wc.heap[ib]? =some (.cells cs 28 (0,0))
 grown:wr.grownBy wc (some rb)
 ge:wr.heap.size<=ib
theorem eM.lt {rb ib:Nat} {wr wc:World} {dv:Value} {data:List UInt8} {s:RS} {cs:Array Value} (h:eM rb ib wr wc dv data s cs):rb<wr.heap.size:=by
 obtain⟨s0,h0⟩:=h.rd0;exact aX.lt h0
theorem eM.call {rb ib:Nat} {wr wc w':World} {dv:Value} {data:List UInt8} {s s':RS} {cs:Array Value} (h:eM rb ib wr wc dv data s cs) (h1:mZ w' rb dv data s') (h2:wc.grownBy w' (some rb)):eM rb ib wr w' dv data s' cs:=
 ⟨h1,h.rd0,gU h2 h.box (by have:=h.lt; have:=h.ge; omega),aG h.grown h2,h.ge⟩
theorem eM.set {rb ib:Nat} {wr wc:World} {dv:Value} {data:List UInt8} {s:RS} {cs:Array Value} (h:eM rb ib wr wc dv data s cs) (k:Nat) (x:Value):eM rb ib wr (wc.setCell ⟨ib,k,none⟩ x) dv data s (cs.setIfInBounds k x):=by
 obtain⟨s0,h0⟩:=h.rd0;exact⟨aX.setOther h0 h.rd h.ge x,h.rd0,dD h.box x,ir h.grown h.ge x,h.ge⟩
theorem eM.below {rb ib:Nat} {wr wc w':World} {dv:Value} {data:List UInt8} {s:RS} {cs:Array Value} (h:eM rb ib wr wc dv data s cs) (hb:Below wc.heap.size wc w'):eM rb ib wr w' dv data s cs:=
 ⟨aX.below h.rd hb,h.rd0,(hb.block ib ((Array.getElem?_eq_some_iff.1 h.box).1)).trans h.box,aG h.grown (cI hb _),h.ge⟩
theorem eM.start {rb:Nat} {wr w2:World} {dv:Value} {data:List UInt8} {s s2:RS} (h0:mZ wr rb dv data s) (h1:mZ w2 rb dv data s2) (h2:wr.grownBy w2 (some rb)) (cs:Array Value):
  eM rb w2.heap.size wr (w2.alloc (.cells cs 28)) dv data s2 cs:=
 ⟨aX.below h1 (bH),⟨s,h0⟩,heap_alloc_new w2 _,aG h2 (cI (bH) _),h2.size⟩
theorem eM.cell {rb ib:Nat} {wr wc:World} {dv:Value} {data:List UInt8} {s:RS} {cs:Array Value} (h:eM rb ib wr wc dv data s cs) (k:Nat):wc.cell? ⟨ib,k,none⟩=cs[k]? :=aB h.box
theorem eM.free {rb ib:Nat} {wr wc:World} {dv:Value} {data:List UInt8} {s:RS} {cs:Array Value} (h:eM rb ib wr wc dv data s cs) (k:Nat):wc.frozen? ⟨ib,k,none⟩=false:=ah h.box
theorem aX.keep {w1 wc w':World} {rb:Nat} {v:Value} {data:List UInt8} {off last off0 last0:Nat} {err err0:Int} (h0:aX w1 rb v data off0 last0 err0) (h:aX wc rb v data off last err) (hs: ∀k,k<w1.heap.size->w'.heap[k]? =wc.heap[k]?):aX w' rb v data off last err:=by
 have h1:=h0.lt;have hr0:=h0.row.mono (T:=fun k=>k≠rb/\k<w1.heap.size) (fun k hk hS=>⟨hS,hk⟩) (by omega);obtain⟨_,a0,cap0,hv0,_,_,h00⟩:=hr0;obtain⟨hl,a,cap,hv,hn,hm,h2⟩:=h.row;refine⟨(hs rb h1).trans h.box,⟨hl,a,cap,hv,hn,hm, ?_⟩,h.le,h.ls,h.small⟩
 rcases h2 with h2 | ⟨bk,o,rfl,hk,hc⟩
 ·exact .inl h2
 ·rcases h00 with h00 | ⟨bk0,o0,rfl,hk0,_⟩
  ·exact .inl h00
  ·rw[hv0]at hv
   cases hv
   refine .inr ⟨bk,o,rfl,hk,fun j u hj=> ?_⟩;rw[<-hc j u hj];exact World.cell?_of_block (hs bk hk0.2)
theorem eM.app {rb ib:Nat} {wr wc w':World} {dv:Value} {data:List UInt8} {s:RS} {cs:Array Value} {r:Option Nat} (h:eM rb ib wr wc dv data s cs) (h2:wc.grownBy w' r) (hr: ∀k,r=some k->ib<k):eM rb ib wr w' dv data s cs:=by
 obtain⟨s0,h0⟩:=h.rd0;have hg:=h.grown.size;have hge:=h.ge;refine⟨aX.keep h0 h.rd (fun k hk=>h2.block k (by omega) (fun e=>by have:=hr k e.symm; omega)),h.rd0, ?_, ?_,h.ge⟩
 ·exact(h2.block ib ((Array.getElem?_eq_some_iff.1 h.box).1) (fun e=>by have:=hr ib e.symm; omega)).trans h.box
 ·refine⟨h2.os.trans h.grown.os,h2.tape.trans h.grown.tape,h2.output.trans h.grown.output,Nat.le_trans hg h2.size,fun k hk hn=> ?_⟩;rw[h2.block k (by omega) (fun e=>by have:=hr k e.symm; omega)];exact h.grown.block k hk hn
theorem wv {data:List UInt8} {s0 s s1:RS} {k:Nat} {l:List aV} {r:aV} (h:ee data s0 k=(l,s)) (h1:nM data s=(r,s1)):ee data s0 (k+1)=(l++[r],s1):=by
 have e1:(ee data s0 k).1=l:=by rw[h]
 have e2:(ee data s0 k).2=s:=by rw[h]
 have e3:(nM data s).1=r:=by rw[h1]
 have e4:(nM data s).2=s1:=by rw[h1]
 rw[ee,e1,e2,e3,e4]
theorem lr {r:aV} : ∀u∈dC r,u.oneCell'=true:=by
 intro u hu;simp only[dC,List.mem_cons,List.not_mem_nil,or_false]at hu
 rcases hu with rfl | rfl | rfl<;> rfl
theorem ul : ∀ {rs:List aV},(∀r∈rs,bK r)->bR lZ (rs.flatMap dC) rs
 | [],_=>rfl
 | r::rs,h=>⟨dC r,rs.flatMap dC,rfl,⟨rfl,h r (by simp)⟩,ul (fun x hx=>h x (by simp[hx]))⟩
theorem kt {w:World} {base:Nat} {v:Value} {rs:List aV} (h:w.ownsRow base 26 3 v rs.length (rs.flatMap dC)) (hok: ∀r∈rs,bK r):bw (fun k=>base<=k/\v.ownBlock=some k) w v rs:=
 ⟨rs.flatMap dC,aO h,ul hok⟩
structure qa (w1 : World) (rb : Nat) (wr : World) (dv v : Value) (data : List UInt8) (s : RS) (l : List aI) : Prop where
 rd:mZ wr rb dv data s
 rd1: ∃s0,mZ w1 rb dv data s0
 row: ∃cells,wr.ownsRow w1.heap.size 28 10 v l.length cells/\bR (fH (fun k=>w1.heap.size<=k/\v.ownBlock≠some k) wr) cells l
 grown:w1.grownBy wr (some rb)
theorem bw.same {S T:Nat->Prop} {w w':World} {v:Value} {rs:List aV} (h:bw S w v rs) (hs: ∀k,k<w.heap.size->S k->T k/\w'.heap[k]? =w.heap[k]?):bw T w' v rs:=by
 obtain⟨cells,hr,hin⟩:=h;have h2:=hr.mono (T:=fun k=>k<w.heap.size/\S k) (fun k hk hS=>⟨hk,hS⟩) (by omega);have h3:=h2.same (w':=w') (fun k hk=>(hs k hk.1 hk.2).2);exact⟨cells,h3.weak (fun k hk=>(hs k hk.1 hk.2).1),hin⟩
theorem fH.same {S T:Nat->Prop} {w w':World} {c:List Value} {it:aI} (h:fH S w c it) (hs: ∀k,k<w.heap.size->S k->T k/\w'.heap[k]? =w.heap[k]?):fH T w' c it:=by
 obtain⟨cv,h1,h2,h3⟩:=h;exact⟨cv,h1,h2.same hs,h3⟩
theorem eZ {a:Option Addr} {n c:Nat} {it:aI} : ∀u∈cg (.slice a n c) it,u.oneCell'=true:=by
 intro u hu;simp only[cg,List.mem_cons,List.not_mem_nil,or_false]at hu
 rcases hu with rfl | rfl | rfl | rfl | rfl | rfl | rfl | rfl | rfl | rfl<;> rfl
theorem qa.added {rb ib:Nat} {w1 wr wc w':World} {dv v v':Value} {data:List UInt8} {s s':RS} {l:List aI} {it:aI} {cv:Value} {cells:List Value} (h:qa w1 rb wr dv v data s l) (hm:eM rb ib wr wc dv data s' (cg cv it).toArray)
  (hcv:bw (wr.heap.size<= ·) wc cv it.chunks) (hok:df it) (hrow:bR (fH (fun k=>w1.heap.size<=k/\v.ownBlock≠some k) wr) cells l) (hown:wr.ownsRow w1.heap.size 28 10 v l.length cells)
  (h1:w'.ownsRow w1.heap.size 28 10 v' (l.length+1) (cells++cg cv it)) (h2:wc.grownBy w' v.ownBlock) (h3: ∀k,v'.ownBlock=some k->v.ownBlock=some k\/wc.heap.size<=k):qa w1 rb w' dv v' data s' (l++[it]):=by
 have hlt:=hm.lt;have hgs:=hm.grown.size;have hg1:=h.grown.size;obtain⟨s0,h0⟩:=h.rd1;have hlt1:=aX.lt h0;have hown0: ∀k,v.ownBlock=some k->w1.heap.size<=k/\k<wr.heap.size:=fun k hk=>hown.lt k hk
 refine⟨?_,h.rd1,⟨cells++cg cv it,by simpa using h1, ?_⟩, ?_⟩
 ·exact aX.keep h0 hm.rd (fun k hk=>h2.block k (by omega) (fun e=>by have:=hown0 k e.symm; omega))
 ·refine bR.snoc (hrow.mono (fun c x _ hx=>hx.same (fun k hk hS=>⟨⟨hS.1,fun e=> ?_⟩, ?_⟩))) ⟨cv,rfl,hcv.same (fun k hk hS=>⟨⟨by omega,fun e=> ?_⟩, ?_⟩),hok⟩
  ·rcases h3 k e with e | e
   ·have:=hown0 k e; omega
   ·omega
  ·exact h2.block k hk (fun e=>by have:=hown0 k e.symm; omega)
  ·rcases h3 k e with e | e
   ·exact hS.2 e
   ·omega
  ·rw[h2.block k (by omega) (fun e=>hS.2 e.symm)];exact hm.grown.block k hk (by simp; omega)
 ·refine⟨h2.os.trans (hm.grown.os.trans h.grown.os),h2.tape.trans (hm.grown.tape.trans h.grown.tape),h2.output.trans (hm.grown.output.trans h.grown.output),Nat.le_trans hg1 (Nat.le_trans hgs h2.size),fun k hk hn=> ?_⟩;rw[h2.block k (by omega) (fun e=>by have:=hown0 k e.symm; omega),hm.grown.block k (by omega) hn];exact h.grown.block k hk hn
def vS (data:List UInt8) (w:World) (e:Ending) (w':World):Prop:=Below w.heap.size w w'/\match dT data with
 | none=>e= .returned (.tuple #[.slice none 0 0, .int .i64 3])
 | some l=> ∃v,e= .returned (.tuple #[v, .int .i64 0])/\bI (w.heap.size<= ·) w' v l
theorem zA {data:List UInt8} (h:32768<data.length):dT data=none:=by unfold dT; rw[if_pos h]
theorem tJ {data:List UInt8} (h: ¬32768<data.length) {n:Nat} {s1:RS} (h1:wC data 4096 ⟨0,0,0⟩=(n,s1)):dT data=(fl data s1 n).bind fun p=>if qC data p.2=0/\eq p.1=true then some p.1 else none:=by
 unfold dT; rw[if_neg h,h1]
theorem xg {data:List UInt8} (h: ¬32768<data.length) {n:Nat} {s1:RS} (h1:wC data 4096 ⟨0,0,0⟩=(n,s1)) (h2:fl data s1 n=none):dT data=none:=by
 rw[tJ h h1,h2]; rfl
theorem xh {data:List UInt8} (h: ¬32768<data.length) {n:Nat} {s1 s2:RS} {l:List aI} (h1:wC data 4096 ⟨0,0,0⟩=(n,s1)) (h2:fl data s1 n=some (l,s2)):dT data=if qC data s2=0/\eq l=true then some l else none:=by
 rw[tJ h h1,h2]; rfl
theorem dU {w w':World} {base:Nat} {e:TypeId} {sz:Nat} {v:Value} {n:Nat} {xs:List Value} (h:w.ownsRow base e sz v n xs) (hb:Below w.heap.size w w'):w'.ownsRow base e sz v n xs:=
 h.kept (cI hb none) (by cases v.ownBlock<;> simp)
open Go Go.RowKit
def bp (v:V8) (buf:List UInt8) (n:Nat):List Value:=v.list.map bY++(buf.map ak++[.int .i64 (n:Int)])
def iY (w:World) (sb:Nat) (ty:TypeId) (rest:List Value) (data:List UInt8):Prop:=
 ∃buf:List UInt8,buf.length=64/\buf.take (data.length%64)=data.drop (64*(data.length/64))/\w.heap[sb]? =some (.cells (bp (er data (data.length/64)) buf data.length++rest).toArray ty (0,0))
theorem ar.call {w w':World} {sb:Nat} {v:Value} {bs:List UInt8} (h:ar (· ≠sb) w v bs) (hg:w.grownBy w' (some sb)):ar (· ≠sb) w' v bs:=by
 have h2:=aL.mono (T:=fun k=>k≠sb/\k<w.heap.size) h (fun k hk hS=>⟨hS,hk⟩) (by omega);exact(aL.same h2 (fun k hk=>hg.block k hk.2 (fun e=>hk.1 (Option.some.inj e)))).weak (fun k hk=>hk.1)
theorem mR {S:Nat->Prop} {w:World} {a:Option Addr} {n cap:Nat} {bs:List UInt8} (h:ar S w (.slice a n cap) bs) {k:Nat} (hk:k<=bs.length):
  ∃a' cap',(∀w',(Instr.slice 29 (.slice a n cap) (some (.int .i64 (k:Int))) none none).run Tryz.prog w'= .ok (.slice a' (bs.drop k).length cap') w')/\ar S w (.slice a' (bs.drop k).length cap') (bs.drop k):=by
 obtain⟨hl,a0,cap0,hv,hn,hm,h0⟩:=h;simp only[Value.slice.injEq]at hv;obtain⟨rfl,rfl,rfl⟩:=hv;have hz: ∀w',(sizeOf (Tryz.prog.elem 29)).run Tryz.prog w'= .ok 1 w':=fun _=>by kernel_rfl
 refine⟨if cap=k then a else a.map (fun p=>p.add k),cap-k,fun w'=> ?_, ?_⟩
 ·rw[run_slice_l _ _ _ _ _ Tryz.underlying29 _ _ (by omega) (by omega),hz];simp only[Result.andThen,sliced,Int.toNat_natCast,Nat.mul_one,List.length_drop]
 ·refine⟨by simp,_,_,rfl,by rw[List.length_drop]; omega,by omega, ?_⟩
  rcases h0 with h0 | ⟨b,o,rfl,hS,hc⟩
  ·exact .inl (by rw[List.length_drop]; omega)
  ·by_cases hlen:(bs.drop k).length=0
   ·exact .inl hlen
   ·rw[List.length_drop]at hlen;refine .inr ⟨b,o+k, ?_,hS,fun j x hj=> ?_⟩
    ·rw[if_neg (by omega),Option.map_some,Addr.add_mid]
    ·rw[Nat.add_assoc];exact hc (k+j) x (by rw[<-hj,List.map_drop,List.getElem?_drop])
theorem yh {S:Nat->Prop} {w:World} {a:Option Addr} {n cap:Nat} {bs:List UInt8} (h:ar S w (.slice a n cap) bs) {k:Nat} (hk:k<=bs.length) (h0:0<k):
  (∀w',(Instr.slice 29 (.slice a n cap) none (some (.int .i64 (k:Int))) none).run Tryz.prog w'= .ok (.slice a k cap) w')/\ar S w (.slice a (bs.take k).length cap) (bs.take k)/\ ∃b o,a=some ⟨b,o,none⟩:=by
 obtain⟨hl,a0,cap0,hv,hn,hm,h1⟩:=h;simp only[Value.slice.injEq]at hv;obtain⟨rfl,rfl,rfl⟩:=hv;have hz: ∀w',(sizeOf (Tryz.prog.elem 29)).run Tryz.prog w'= .ok 1 w':=fun _=>by kernel_rfl
 rcases h1 with h1 | ⟨b,o,rfl,hS,hc⟩
 ·omega
 ·refine⟨fun w'=> ?_,⟨by simp,_,_,rfl,by rw[List.length_take]; omega,hm, .inr ⟨b,o,rfl,hS,fun j x hj=> ?_⟩⟩,b,o,rfl⟩
  ·rw[run_slice_h _ _ _ _ _ Tryz.underlying29 _ _ (by omega) (by omega),hz];simp only[Result.andThen,sliced,Int.toNat_natCast,Nat.zero_mul,Nat.sub_zero]
   by_cases hcz:cap=0
   ·omega
   ·rw[if_neg hcz,Option.map_some,Addr.add_mid,Nat.add_zero]
  ·refine hc j x ?_;rw[List.map_take,List.getElem?_take]at hj
   split at hj
   ·exact hj
   ·cases hj
theorem fa {ops:Array Oper} {rest:List Oper} {o:Oper} {a:Act} {Q:Exit->Act->World->Prop} {w:World} (hgd:o.guard=none) (d s:Operand)
  (ho:o.op= .call {callee:= .builtin .copy,args:= #[d,s],argTypes:= #[29,29]}) (g off dLen dCap:Nat) (sp:Option Addr) (sLen sCap:Nat) (hd:a.eval d= .slice (some ⟨g,off,none⟩) dLen dCap) (hs:a.eval s= .slice sp sLen sCap)
  (cur:List Value) (t:TypeId) (hg:w.heap[g]? =some (.cells cur.toArray t (0,0))) (S:Nat->Prop) (bs:List UInt8) (hb:ar S w (.slice sp sLen sCap) bs) (k:Nat) (hk:k=Nat.min bs.length dLen) (hfit:off+dLen<=cur.length)
  (h: ∀w',w'.heap[g]? =some (.cells (splice cur off ((bs.take k).map ak)).toArray t (0,0))->w.grownBy w' (some g)->wpList Tryz.prog ops Q rest (a.put o.dst (.int .i64 (k:Int))) w'):wpList Tryz.prog ops Q (o::rest) a w:=by
 obtain⟨hl,a0,cap0,hv,hn,hm,h1⟩:=hb;simp only[Value.slice.injEq]at hv;obtain⟨rfl,rfl,rfl⟩:=hv
 by_cases hk0:k=0
 ·subst hk0;refine wpList_copy_nothing hgd d s _ _ ho 5 Tryz.underlying29 (by kernel_rfl) _ _ _ _ _ _ hd hs (by rw[<-hk]) ?_;refine h w ?_ (ka w _);rw[hg,List.take_zero,List.map_nil];simp[splice]
 ·have hkb:k<=bs.length:=by rw[hk]; exact Nat.min_le_left _ _
  have hkd:k<=dLen:=by rw[hk]; exact Nat.min_le_right _ _
  rcases h1 with h1 | ⟨b,o2,rfl,hS,hc⟩
  ·omega
  ·have hlen:((bs.take k).map ak).length=k:=by rw[List.length_map,List.length_take]; omega
   refine wpList_copy_own hgd d s _ _ ho 5 Tryz.underlying29 (by kernel_rfl) g off dLen dCap ⟨b,o2,none⟩ bs.length sCap hd hs cur.toArray t hg ((bs.take k).map ak) (by rw[hlen,hk]) (fun j x hj=> ?_) (by rw[hlen,List.size_toArray]; omega) (fun v hv=>by obtain⟨x,_,rfl⟩:=List.mem_map.1 hv; rfl) ?_
   ·rw[Addr.add_mid];refine hc j x ?_;rw[List.map_take,List.getElem?_take]at hj
    split at hj
    ·exact hj
    ·cases hj
   ·rw[hlen];refine h _ ?_ ?_
    ·rw[setRow_heap w g _ _ t _ hg];simp only[splice,hlen]
    ·exact⟨rfl,rfl,rfl,by simp[World.setRow],fun i _ hne=>setRow_other w g i _ (fun e=>hne (by rw[e]))⟩
theorem gC (v:V8) {buf:List UInt8} (h:buf.length=64) (n:Nat):(bp v buf n).length=73:=by unfold bp V8.list; simp[h]
theorem ut (v:V8) {buf:List UInt8} (h:buf.length=64) (n:Nat) (rest:List Value):(bp v buf n++rest).toArray[72]? =some (.int .i64 (n:Int)):=by
 rw[List.getElem?_toArray,List.getElem?_append_left (by rw[gC v h]; decide)];unfold bp;rw[List.getElem?_append_right (by simp[V8.list]),List.getElem?_append_right (by simp[V8.list,h])];simp[V8.list,h]
theorem DG (v:V8) {buf:List UInt8} (h:buf.length=64) (n n':Nat) (rest:List Value):(bp v buf n++rest).set 72 (.int .i64 (n':Int))=bp v buf n'++rest:=by
 rw[List.set_append_left _ _ (by rw[gC v h]; decide)]
 congr 1
 unfold bp;rw[List.set_append_right _ _ (by simp[V8.list]),List.set_append_right _ _ (by simp[V8.list,h])]
 congr 2
 simp[V8.list,h]
theorem eD (v:V8) (buf:List UInt8) (n:Nat) (rest:List Value):bp v buf n++rest=v.list.map bY++(buf.map ak++([.int .i64 (n:Int)]++rest)):=by unfold bp; simp
theorem mQ (v:V8) {buf:List UInt8} (h:buf.length=64) (n:Nat) (rest:List Value) {off:Nat} {xs:List UInt8} (ho:off+xs.length<=64):splice (bp v buf n++rest) (8+off) (xs.map ak)=bp v (splice buf off xs) n++rest:=by
 have e: ∀(A B C:List Value),A.length=8->B.length=64->splice (A++(B++C)) (8+off) (xs.map ak)=A++(splice B off (xs.map ak)++C):=by
  intro A B C hA hB;unfold splice;have hx:(xs.map ak).length=xs.length:=by simp
  rw[hx,List.take_append,List.drop_append,hA,show 8+off-8=off by omega,show 8+off+xs.length-8=off+xs.length by omega,List.take_of_length_le (by omega),List.drop_eq_nil_of_le (by omega),List.nil_append,List.take_append_of_le_length (by omega),List.drop_append_of_le_length (by omega)];simp
 rw[eD,e _ _ _ (by simp[V8.list]) (by simpa using h),eD]
 congr 2
 unfold splice;simp
theorem ki {buf xs:List UInt8} (h:buf.length=64) {off:Nat} (ho:off+xs.length<=64):(splice buf off xs).length=64:=by rw[length_splice _ _ _ (by omega),h]
structure vU (sb : Nat) (ty : TypeId) (rest : List Value) (D buf : List UInt8) (w wr : World) (j : Nat) : Prop where
 box:wr.heap[sb]? =some (.cells (bp (er D j) buf D.length++rest).toArray ty (0,0))
 len:buf.length=64
 grown:w.grownBy wr (some sb)
theorem gj.grown {w wr:World} {sb:Nat} (h:gj w) (hne:sb≠5) (hg:w.grownBy wr (some sb)) (hlt:5<w.heap.size):gj wr:=by
 intro j x hj;rw[<-h j x hj];exact World.cell?_of_block (hg.block _ hlt (fun e=>hne (Option.some.inj e).symm))
theorem It (v:V8) {buf:List UInt8} (n:Nat) (rest:List Value) {j:Nat} {x:UInt8} (hj:buf[j]? =some x):(bp v buf n++rest).toArray[8+j]? =some (ak x):=by
 have hlt:=(List.getElem?_eq_some_iff.1 hj).1;rw[List.getElem?_toArray,eD,List.getElem?_append_right (by simp[V8.list]),List.getElem?_append_left (by simp[V8.list]; omega)];rw[show 8+j-(List.map bY v.list).length=j by simp[V8.list],List.getElem?_map,hj]; rfl
theorem tr {data xs:List UInt8} {q:Nat} (h:64*q<=data.length):(data++xs).drop (64*q)=data.drop (64*q)++xs:=List.drop_append_of_le_length h
theorem yj {buf xs:List UInt8} {u:Nat} (hb:buf.length=64) (hx:u+xs.length=64):splice buf u xs=buf.take u++xs:=by
 unfold splice;rw[hx,List.drop_eq_nil_of_le (by omega),List.append_nil]
def GV :Value->Nat
 | .slice _ n _=>n
 | _=>0
def AN (sb:Nat) (ty:TypeId) (rest:List Value) (D:List UInt8) (w:World) (x:Value) (wr:World):Prop:=
 ∃(j rl cap:Nat) (a:Option Addr) (buf:List UInt8),rl=(D.drop (64*j)).length/\64*j<=D.length/\x= .slice a rl cap/\ar (· ≠sb) wr (.slice a rl cap) (D.drop (64*j))/\vU sb ty rest D buf w wr j
theorem vU.done {sb:Nat} {ty:TypeId} {rest:List Value} {D buf:List UInt8} {w wr w':World} {j:Nat} (h:vU sb ty rest D buf w wr j) (hj:64*j<=D.length) (hl:(D.drop (64*j)).length<64)
  (hb:w'.heap[sb]? =some (.cells (splice (bp (er D j) buf D.length++rest) 8 (((D.drop (64*j)).take (D.drop (64*j)).length).map ak)).toArray ty (0,0))) (hg:wr.grownBy w' (some sb)):iY w' sb ty rest D/\w.grownBy w' (some sb):=by
 have e:D.length/64=j:=by rw[List.length_drop]at hl; omega
 have e2:D.length%64=(D.drop (64*j)).length:=by rw[List.length_drop]at hl ⊢; omega
 refine⟨⟨splice buf 0 (D.drop (64*j)),ki h.len (by omega), ?_, ?_⟩,aG h.grown hg⟩
 ·rw[e2,e];unfold splice;rw[List.take_zero,List.nil_append,List.take_left]
 ·rw[hb,List.take_length,e,mQ _ h.len D.length rest (off:=0) (by omega)]
theorem fW (sb:Nat) (ty:TypeId) (rest:List Value) (data xs:List UInt8) (xv:Value) (w:World) (h:iY w sb ty rest data) (hx:ar (· ≠sb) w xv xs) (hlen:data.length+xs.length<1152921504606846976) (hK:gj w) (hKlt:5<w.heap.size) (hne:sb≠5):
  Calls Tryz.prog 168 #[.pointer (some ⟨sb,0,none⟩),xv] w fun e w'=>e= .returned (.tuple #[])/\iY w' sb ty rest (data++xs)/\w.grownBy w' (some sb):=by
 obtain⟨buf,hb64,htl,hbox⟩:=h;obtain⟨_,a,cap,rfl,hcap,hcm,-⟩:=id hx;have HX:=aa hx;have HBX:=aa hbox;have HTL:=aa htl;have HK:=aa hK;have HL64:=aa hb64;obtain⟨n,hn⟩: ∃n,n=data.length:=⟨_,rfl⟩;obtain⟨m,hm⟩: ∃m,m=xs.length:=⟨_,rfl⟩;rw[<-hn]at HBX hlen;rw[<-hm]at hlen hcap;have c72:=(cell_of_row w _ 72 _ _ _ HBX.o).trans (ut _ hb64 n rest)
 have f72:=frozen_of_row w _ 72 _ _ HBX.o;have HN:=aa (And.intro hn hm);clear hx hbox htl hK hb64;rw[<-hm];clear hn hm
 go_enter Tryz.func168,Tryz.ntmps168
 go_upto_region 2 with(fail)
 obtain⟨W1,hW1⟩: ∃W1,W1=w.setCell ⟨sb,72,none⟩ (.int .i64 ((n:Int)+(m:Int))):=⟨_,rfl⟩;rw[<-hW1];have HB1:=aa (show W1.heap[sb]? =some (.cells (bp (er data (n/64)) buf (n+m)++rest).toArray ty (0,0)) by
  rw[hW1,heap_setCell_same w _ _ _ _ _ HBX.o,List.setIfInBounds_toArray,<-DG _ HL64.o n (n+m) rest];rw[Int.natCast_add])
 have HG1:=aa (show w.grownBy W1 (some sb) by rw[hW1]; exact aN w sb 72 _);have HX1:=aa (HX.o.call HG1.o);clear hW1 c72 f72
 by_cases hu:n%64=0
 ·have hui:(n:Int)%64=0:=by omega
  have HLS:=aa (show AN sb ty rest (data++xs) w (.slice a m cap) W1 from by
   have e1:64*(n/64)=data.length:=by have:=HN.o.1; omega
   refine⟨n/64,m,cap,a,buf, ?_,by rw[List.length_append]; omega,rfl, ?_, ?_⟩
   ·rw[e1,List.drop_left]; exact HN.o.2
   ·rw[e1,List.drop_left];have:=HX1.o;rw[<-HN.o.2]at this;exact this
   ·refine⟨?_,HL64.o,HG1.o⟩;rw[nh xs (by omega),List.length_append,<-HN.o.1,<-HN.o.2];exact HB1.o)
  go_wp2_with fail;clear hui hu
  go_loopw [1] (fun x wr=>AN sb ty rest (data++xs) w x wr) (fun x _=>GV x)
  case atStart=>exact HLS.o
  case round=>
   obtain⟨j,rl,cap2,a2,bf,hrl,hj,rfl,hby,hmid⟩:=hrel;have HRL:=aa hrl;have HBY:=aa hby
   have HMD:=aa hmid;have hrl2:rl<1152921504606846976:=by
    have:=HN.o;rw[hrl,List.length_drop,List.length_append]; omega
   obtain⟨_,_,_,hveq,hcap2,hcm2,-⟩:=id hby
   simp only[Value.slice.injEq]at hveq;obtain⟨rfl,-,rfl⟩:=hveq;rw[<-hrl]at hcap2;clear hrl hby hmid
   by_cases h64:64<=rl
   ·obtain⟨s1,s2,b,o,rfl⟩:=yh HBY.o (k:=64) (by rw[<-HRL.o]; exact h64) (by decide);obtain⟨a3,cap3,s3,s4⟩:=mR HBY.o (k:=64) (by rw[<-HRL.o]; exact h64);have S1: ∀w',(Instr.slice 29 (.slice (some ⟨b,o,none⟩) rl cap2) none (some (.int .i64 64)) none).run Tryz.prog w'= .ok (.slice (some ⟨b,o,none⟩) 64 cap2) w':=s1;obtain⟨r3,hr3⟩: ∃r3,r3=((List.drop (64*j) (data++xs)).drop 64).length:=⟨_,rfl⟩
    have S3: ∀w',(Instr.slice 29 (.slice (some ⟨b,o,none⟩) rl cap2) (some (.int .i64 64)) none none).run Tryz.prog w'= .ok (.slice a3 r3 cap3) w':=by rw[hr3]; exact s3
    rw[<-hr3]at s4;have HR3:=aa hr3;have S2:=aa s2;have S4:=aa s4;clear s1 s2 s3 s4 hr3;go_wp2_with fail;refine(ln sb (er (data++xs) j) (bf.map ak++([.int .i64 ((data++xs).length:Int)]++rest)) ty b o cap2 ((List.drop (64*j) (data++xs)).take 64) wr (by rw[<-eD]; exact HMD.o.box) (ni _ _) (by rw[List.length_take,<-HRL.o]; omega) (by omega) hcm2 ?_ (HK.o.grown hne HMD.o.grown hKlt) (by have:=HMD.o.grown.size; omega)).mono ?_
    ·intro i x hi;obtain⟨_,_,_,hv9,_,_,h9⟩:=S2.o;simp only[Value.slice.injEq]at hv9;rw[<-hv9.1]at h9
     rcases h9 with h9 | ⟨b9,o9,e9,_,h9⟩
     ·rw[List.length_take,<-HRL.o]at h9; omega
     ·simp only[Option.some.injEq,Addr.mk.injEq]at e9;rw[e9.1,e9.2.1];exact h9 i _ (by rw[List.getElem?_map,hi]; rfl)
    ·rintro e w2 ⟨rfl,hb2,hg2⟩;have HM2:=aa (show vU sb ty rest (data++xs) bf w w2 (j+1)from⟨by rw[eD]; exact hb2,HMD.o.len,aG HMD.o.grown hg2⟩);have HY2:=aa (S4.o.call hg2);clear hb2 hg2;go_wp2_with fail
     go_roundw
     case rel=>
      refine⟨j+1,r3,cap3,a3,bf, ?_, ?_,rfl, ?_,HM2.o⟩
      ·rw[HR3.o,List.drop_drop,show 64*j+64=64*(j+1) by omega]
      ·have:=HRL.o;rw[List.length_drop]at this; omega
      ·have:=HY2.o;rw[List.drop_drop,show 64*j+64=64*(j+1) by omega]at this;exact this
     case measure=>
      have h1:=HR3.o;rw[List.length_drop,<-HRL.o]at h1
      show r3<rl
      omega
   ·have hmin:rl=Nat.min (List.drop (64*j) (data++xs)).length 64:=by rw[<-HRL.o]; exact(Nat.min_eq_left (by omega)).symm
    have hfit:8+64<=(bp (er (data++xs) j) bf (data++xs).length++rest).length:=by rw[List.length_append,gC _ HMD.o.len]; omega
    have HMIN:=aa hmin;have HFIT:=aa hfit;clear hmin hfit;go_wp2_with (refine fa rfl _ _ rfl sb 8 64 64 a2 rl cap2 rfl rfl (bp (er (data++xs) j) bf (data++xs).length++rest) ty HMD.o.box (· ≠sb) (List.drop (64*j) (data++xs)) HBY.o rl HMIN.o HFIT.o ?_; intro w3 hb3 hg3; have HB3:=aa hb3; have HG3:=aa hg3; clear hb3 hg3)
    go_end0
    refine⟨rfl, ?_⟩;refine HMD.o.done hj (by rw[<-HRL.o]; omega) ?_ HG3.o;rw[<-HRL.o]; exact HB3.o
 ·obtain⟨u,hu2⟩: ∃u,u=n%64:=⟨_,rfl⟩;have hui:(n:Int)%64=(u:Int):=by omega
  have hupos:(0:Int)<(u:Int):=by omega
  have hule:(u:Int)<=64:=by omega
  obtain⟨k,hk⟩: ∃k,k=Nat.min xs.length (64-u):=⟨_,rfl⟩;have hkle:k<=xs.length:=by rw[hk]; exact Nat.min_le_left _ _
  have hkle2:k<=64-u:=by rw[hk]; exact Nat.min_le_right _ _
  have hk3:k=xs.length\/k=64-u:=by
   rw[hk]
   rcases Nat.le_total xs.length (64-u)with e | e
   ·exact .inl (Nat.min_eq_left e)
   ·exact .inr (Nat.min_eq_right e)
  have HU:=aa (And.intro hu2 hu);have HKK:=aa hk;have HK3:=aa hk3;have HKL:=aa (And.intro hkle hkle2);have hX1:=HX1.o;rw[<-HN.o.2]at hX1;obtain⟨a4,cap4,s4,y4⟩:=mR hX1 hkle;obtain⟨m4,hm4⟩: ∃m4,m4=(xs.drop k).length:=⟨_,rfl⟩;rw[<-hm4]at s4 y4;have HM4:=aa hm4;have Y4:=aa y4;have HXX:=aa hX1;have HFIT:=aa (show 8+u+(64-u)<=(bp (er data (n/64)) buf (n+m)++rest).length by rw[List.length_append,gC _ HL64.o]; omega)
  clear hu hu2 hk hk3 hkle hkle2 hX1 hm4 y4;have hw64:wrap64 ((u:Int)+(k:Int))=(u:Int)+(k:Int):=by unfold wrap64; have:=HKL.o.2; omega
  by_cases hlt:u+k<64
  ·have hlti:(u:Int)+(k:Int)<64:=by omega
   go_wp2_with (refine fa rfl _ _ rfl sb (8+u) (64-u) (64-u) a m cap rfl rfl (bp (er data (n/64)) buf (n+m)++rest) ty HB1.o (· ≠sb) xs HXX.o k HKK.o HFIT.o ?_; intro w3 hb3 hg3; have HB3:=aa hb3; have HG3:=aa hg3; clear hb3 hg3);refine bodyPost_ret (results_none rfl _ _ _) rfl ?_;have hk:k=xs.length:=by rcases HK3.o with e | e<;> omega
   have hnl:=HN.o.1;have hml:=HN.o.2;have hun:=HU.o.1;have hq:64*(n/64)<=data.length:=by omega
   refine⟨rfl,⟨splice buf u xs,ki HL64.o (by omega), ?_, ?_⟩,aG HG1.o HG3.o⟩
   ·rw[List.length_append,<-hnl,<-hml,show(n+m)/64=n/64 by omega,show(n+m)%64=u+xs.length by omega,tr hq];have:=HTL.o;rw[<-hnl,<-hun]at this;rw[<-this];unfold splice;rw[<-List.append_assoc,List.take_left' (by rw[List.length_append,List.length_take]; have:=HL64.o; omega)]
   ·rw[HB3.o,hk,List.take_length,mQ _ HL64.o _ rest (by omega),List.length_append,<-hnl,<-hml,show(n+m)/64=n/64 by omega,nh xs hq]
  ·have hge:64<=(u:Int)+(k:Int):=by omega
   have hk:k=64-u:=by have:=HKL.o.2; rcases HK3.o with e | e<;> omega
   have huk:u+k=64:=by have:=HKL.o.2; omega
   have HKE:=aa (And.intro hk huk);clear hk huk;go_wp2_with (refine fa rfl _ _ rfl sb (8+u) (64-u) (64-u) a m cap rfl rfl (bp (er data (n/64)) buf (n+m)++rest) ty HB1.o (· ≠sb) xs HXX.o k HKK.o HFIT.o ?_; intro w3 hb3 hg3; have HB3:=aa hb3; have HG3:=aa hg3; clear hb3 hg3);obtain⟨B,hB⟩: ∃B,B=splice buf u (xs.take k):=⟨_,rfl⟩;have hkl:=HKL.o.1
   have htk:(xs.take k).length=k:=by rw[List.length_take]; omega
   have hun:=HU.o.1;have hnl:=HN.o.1;have hml:=HN.o.2;have hq:64*(n/64)<=data.length:=by omega
   have hBl:B.length=64:=by rw[hB]; exact ki HL64.o (by rw[htk]; have:=HKE.o.2; omega)
   have hB3:w3.heap[sb]? =some (.cells (bp (er data (n/64)) B (n+m)++rest).toArray ty (0,0)):=by rw[HB3.o,mQ _ HL64.o _ rest (by rw[htk]; have:=HKE.o.2; omega),<-hB]
   have hBD:B=((data++xs).drop (64*(n/64))).take 64:=by
    have ht:=HTL.o;rw[<-hnl,<-hun]at ht;rw[hB,yj HL64.o (by rw[htk]; exact HKE.o.2),tr hq,<-ht,List.take_append,List.length_take,HL64.o,Nat.min_eq_left (by omega),<-HKE.o.1,List.take_of_length_le (l:=List.take u buf) (by rw[List.length_take]; omega)]
   have HBL:=aa hBl;have HBD:=aa hBD;have HB4:=aa hB3;clear hkl htk hun hnl hml hq hBl hB3 hBD hB;refine(ln sb (er data (n/64)) (B.map ak++([.int .i64 ((n+m:Nat):Int)]++rest)) ty sb 8 64 B w3 (by rw[<-eD]; exact HB4.o) (ni _ _) HBL.o (Nat.le_refl _) (by unfold maxLen; omega) ?_ (HK.o.grown hne (aG HG1.o HG3.o) hKlt) (by have:=HG1.o.size; have:=HG3.o.size; omega)).mono ?_
   ·intro i x hi;rw[cell_of_row w3 _ _ _ _ _ HB4.o,It _ _ rest hi]; rfl
   ·rintro e w4 ⟨rfl,hb4,hg4⟩;have hnl:=HN.o.1;have hml:=HN.o.2;have hun:=HU.o.1;have hq:64*(n/64)<=data.length:=by omega
    have hke:=HKE.o.2;have hkl:=HKL.o.1;have HG4:=aa (aG HG1.o (aG HG3.o hg4));have hY:=(Y4.o.call HG3.o).call hg4;have hdr:(data++xs).drop (64*(n/64+1))=xs.drop k:=by
     rw[show 64*(n/64+1)=data.length+k by omega,<-List.drop_drop,List.drop_left]
    have HLS:=aa (show AN sb ty rest (data++xs) w (.slice a4 m4 cap4) w4 from by
     refine⟨n/64+1,m4,cap4,a4,B, ?_,by rw[List.length_append]; omega,rfl, ?_, ?_⟩
     ·rw[hdr]; exact HM4.o
     ·rw[hdr]; exact hY
     ·refine⟨?_,HBL.o,HG4.o⟩;rw[eD,er,<-HBD.o,nh xs hq,List.length_append,<-hnl,<-hml];exact hb4)
    clear hb4 hg4 hnl hml hun hq hke hkl hY hdr;go_wp2_with fail;clear hw64 hlt hge hupos hule hui
    go_loopw [1] (fun x wr=>AN sb ty rest (data++xs) w x wr) (fun x _=>GV x)
    case atStart=>exact HLS.o
    case round=>
     obtain⟨j,rl,cap2,a2,bf,hrl,hj,rfl,hby,hmid⟩:=hrel;have HRL:=aa hrl;have HBY:=aa hby
     have HMD:=aa hmid;have hrl2:rl<1152921504606846976:=by
      have:=HN.o;rw[hrl,List.length_drop,List.length_append]; omega
     obtain⟨_,_,_,hveq,hcap2,hcm2,-⟩:=id hby
     simp only[Value.slice.injEq]at hveq;obtain⟨rfl,-,rfl⟩:=hveq;rw[<-hrl]at hcap2;clear hrl hby hmid
     by_cases h64:64<=rl
     ·obtain⟨s1,s2,b,o,rfl⟩:=yh HBY.o (k:=64) (by rw[<-HRL.o]; exact h64) (by decide);obtain⟨a3,cap3,s3,s4⟩:=mR HBY.o (k:=64) (by rw[<-HRL.o]; exact h64);have S1: ∀w',(Instr.slice 29 (.slice (some ⟨b,o,none⟩) rl cap2) none (some (.int .i64 64)) none).run Tryz.prog w'= .ok (.slice (some ⟨b,o,none⟩) 64 cap2) w':=s1;obtain⟨r3,hr3⟩: ∃r3,r3=((List.drop (64*j) (data++xs)).drop 64).length:=⟨_,rfl⟩
      have S3: ∀w',(Instr.slice 29 (.slice (some ⟨b,o,none⟩) rl cap2) (some (.int .i64 64)) none none).run Tryz.prog w'= .ok (.slice a3 r3 cap3) w':=by rw[hr3]; exact s3
      rw[<-hr3]at s4;have HR3:=aa hr3;have S2:=aa s2;have S4:=aa s4;clear s1 s2 s3 s4 hr3;go_wp2_with fail;refine(ln sb (er (data++xs) j) (bf.map ak++([.int .i64 ((data++xs).length:Int)]++rest)) ty b o cap2 ((List.drop (64*j) (data++xs)).take 64) wr (by rw[<-eD]; exact HMD.o.box) (ni _ _) (by rw[List.length_take,<-HRL.o]; omega) (by omega) hcm2 ?_ (HK.o.grown hne HMD.o.grown hKlt) (by have:=HMD.o.grown.size; omega)).mono ?_
      ·intro i x hi;obtain⟨_,_,_,hv9,_,_,h9⟩:=S2.o;simp only[Value.slice.injEq]at hv9;rw[<-hv9.1]at h9
       rcases h9 with h9 | ⟨b9,o9,e9,_,h9⟩
       ·rw[List.length_take,<-HRL.o]at h9; omega
       ·simp only[Option.some.injEq,Addr.mk.injEq]at e9;rw[e9.1,e9.2.1];exact h9 i _ (by rw[List.getElem?_map,hi]; rfl)
      ·rintro e w2 ⟨rfl,hb2,hg2⟩;have HM2:=aa (show vU sb ty rest (data++xs) bf w w2 (j+1)from⟨by rw[eD]; exact hb2,HMD.o.len,aG HMD.o.grown hg2⟩);have HY2:=aa (S4.o.call hg2);clear hb2 hg2;go_wp2_with fail
       go_roundw
       case rel=>
        refine⟨j+1,r3,cap3,a3,bf, ?_, ?_,rfl, ?_,HM2.o⟩
        ·rw[HR3.o,List.drop_drop,show 64*j+64=64*(j+1) by omega]
        ·have:=HRL.o;rw[List.length_drop]at this; omega
        ·have:=HY2.o;rw[List.drop_drop,show 64*j+64=64*(j+1) by omega]at this;exact this
       case measure=>
        have h1:=HR3.o;rw[List.length_drop,<-HRL.o]at h1
        show r3<rl
        omega
     ·have hmin:rl=Nat.min (List.drop (64*j) (data++xs)).length 64:=by rw[<-HRL.o]; exact(Nat.min_eq_left (by omega)).symm
      have hfit:8+64<=(bp (er (data++xs) j) bf (data++xs).length++rest).length:=by rw[List.length_append,gC _ HMD.o.len]; omega
      have HMIN:=aa hmin;have HFIT:=aa hfit;clear hmin hfit;go_wp2_with (refine fa rfl _ _ rfl sb 8 64 64 a2 rl cap2 rfl rfl (bp (er (data++xs) j) bf (data++xs).length++rest) ty HMD.o.box (· ≠sb) (List.drop (64*j) (data++xs)) HBY.o rl HMIN.o HFIT.o ?_; intro w3 hb3 hg3; have HB3:=aa hb3; have HG3:=aa hg3; clear hb3 hg3)
      go_end0
      refine⟨rfl, ?_⟩;refine HMD.o.done hj (by rw[<-HRL.o]; omega) ?_ HG3.o;rw[<-HRL.o]; exact HB3.o
theorem EG {S:Nat->Prop} {w:World} {v:Value} {bs:List UInt8} (hd:ar S w v bs):(convert 29 9 v).run Tryz.prog w= .ok (.string ⟨bs.toArray⟩) w:=by
 obtain⟨_,a,cap,rfl,hn,hm,h0⟩:=hd
 rcases h0 with h0 | ⟨b,o,rfl,_,hc⟩
 ·obtain rfl:=List.eq_nil_of_length_eq_zero h0
  show(convert 29 9 (.slice a 0 cap)).run Tryz.prog w=_
  cases a<;> kernel_rfl
 ·have h:=run_convert_bytes_arg (P:=Tryz.prog) w 29 5 Tryz.underlying29 Tryz.underlying5 b o bs.length cap (bs.map fun b=>(b.toNat:Int)) (by simp) (fun i hi=>by
   rw[hc i (ak bs[i]) (by simp[hi])];simp[ak,List.getD,hi]) 9 Tryz.underlying9
  rw[rP]at h;exact h
def js (w:World):Prop:= ∀j x,kA.list[j]? =some x->w.cell? ⟨2,j,none⟩=some (bY x)
def Bp :List Value:=[.int .u32 1779033703, .int .u32 3144134277, .int .u32 1013904242, .int .u32 2773480762, .int .u32 1359893119, .int .u32 2600822924, .int .u32 528734635, .int .u32 1541459225]
theorem js.range {w:World} (h:js w):w.rangeAt 2 0 Bp:=by
 intro j x hj;rw[Nat.zero_add];have h2:Bp=kA.list.map bY:=by kernel_rfl
 rw[h2,List.getElem?_map]at hj
 cases hq:kA.list[j]? with
 | none=>rw[hq]at hj; cases hj
 | some y=>
  rw[hq]at hj;rw[h j y hq];exact hj
theorem rM (w:World) (hI:js w):Calls Tryz.prog 167 #[] w fun e w'=>e= .returned (.pointer (some ⟨w.heap.size,0,none⟩))/\iY w' w.heap.size 218 [] []/\Below w.heap.size w w'/\w.heap.size<w'.heap.size:=by
 have HR:=aa hI.range;clear hI
 go_enter Tryz.func167,Tryz.ntmps167
 go_wp2_with (first | (refine wpList_load_mid rfl 216 _ rfl 2 0 rfl Bp _ HR.o Tryz.underlying216 rfl (by kernel_rfl) ?_) | (refine wpList_build rfl 218 _ rfl (by kernel_rfl) ?_));go_ret;refine⟨rfl,⟨List.replicate 64 0,by simp,by simp, ?_⟩,bH,by simp⟩;rw[heap_alloc_new,show(Tryz.prog.built 218 [(0,Value.agg Bp.toArray)]).getD #[]=(bp (er [] (([]:List UInt8).length/64)) (List.replicate 64 0) ([]:List UInt8).length++[]).toArray by kernel_rfl]
theorem lE {ops:Array Oper} {rest:List Oper} {o:Oper} {a:Act} {Q:Exit->Act->World->Prop} (hgd:o.guard=none) (s x:Operand)
  (ho:o.op= .call {callee:= .builtin .append,args:= #[s,x],argTypes:= #[29,29]}) (base:Nat) (v:Value) (n m:Nat) (xs:List Value) (hs:a.eval s=v) (w0:World) (news:List Value) (e2:TypeId)
  (hx:a.eval x= .slice (some ⟨w0.heap.size,0,none⟩) m m) (hl:news.length=m) (h1: ∀u∈news,u.oneCell'=true) (hown:w0.ownsRow base 5 1 v n xs) (hn:n+m<1099511627775) (hbase:base<=w0.heap.size)
  (h: ∀v' w',w'.ownsRow base 5 1 v' (n+m) (xs++news)->w0.grownBy w' v.ownBlock->wpList Tryz.prog ops Q rest (a.put o.dst v') w'):wpList Tryz.prog ops Q (o::rest) a (w0.alloc (.cells news.toArray e2)):=by
 obtain⟨ht,⟨i,z,h11,h12,h13,h14,h15⟩,hpos,hsm⟩:=Tryz.appBytes;have hnews: ∀(j:Nat) u,news[j]? =some u->(w0.alloc (.cells news.toArray e2)).cell? ((⟨w0.heap.size,0,none⟩:Addr).add j)=some u:=by
  intro j u hj;rw[Addr.add_mid,Nat.zero_add,cell_of_row _ _ _ _ _ _ (heap_alloc_new w0 (.cells news.toArray e2))]
  simpa using hj
 have hl1:news.length=m*1:=by rw[hl,Nat.mul_one]
 obtain⟨v',w',hr,h2,hg,_⟩:=run_append_own (P:=Tryz.prog) (w0.alloc (.cells news.toArray e2)) base _ o.type _ i z 1 1 ht h11 h12 h13 h14 h15 hpos v n xs (hown.alloc _) ⟨w0.heap.size,0,none⟩ m m news hl1 hnews h1 (by unfold maxLen; omega) (by omega) (by simp; omega);refine wpList_plain hgd fun K hK=> ?_
 unfold Oper.wp execOp;simp only[ho,resolve,invoke,builtin,Sem.run_bind,Sem.run_pure,Result.andThen_ok,List.map_toArray,List.map_cons,List.map_nil,hs,hx,hr];refine hK _ _ (h v' w' h2 ⟨hg.os,hg.tape,hg.output,by have:=hg.size; simp at this; omega,fun k hk hne=> ?_⟩);rw[hg.block k (by simp; omega) hne];exact Below.heap_alloc _ _ _ hk
theorem FL (v:V8) {buf:List UInt8} (h:buf.length=64) (n:Nat):(bp v buf n).toArray.size=73:=by rw[List.size_toArray,gC v h]
theorem Iu (v:V8) (buf:List UInt8) (n:Nat): ∀x∈bp v buf n,x.oneCell'=true:=by
 intro x hx;unfold bp at hx
 rcases List.mem_append.1 hx with hx | hx
 ·obtain⟨y,_,rfl⟩:=List.mem_map.1 hx; rfl
 ·rcases List.mem_append.1 hx with hx | hx
  ·obtain⟨y,_,rfl⟩:=List.mem_map.1 hx; rfl
  ·rw[List.mem_singleton.1 hx]; rfl
theorem DF {w:World} {sb:Nat} {v:V8} {buf:List UInt8} {n:Nat} {rest:List Value} {ty:TypeId} (h:w.heap[sb]? =some (.cells (bp v buf n++rest).toArray ty (0,0))):w.rangeAt sb 0 (bp v buf n):=by
 intro j x hj;rw[cell_of_row w _ _ _ _ _ h,Nat.zero_add,List.getElem?_toArray,List.getElem?_append_left (List.getElem?_eq_some_iff.1 hj).1];exact hj
theorem vX : ∀l:List Nat,(l.flatMap uT).length=4*l.length
 | []=>rfl
 | x::l=>by rw[List.flatMap_cons,List.length_append,vX l,AY,List.length_cons]; omega
theorem JL (v:V8) {k:Nat} (h:k<8):v.list.take (k+1)=v.list.take k++[v.list.getD k 0]:=by
 have hc:k=0\/k=1\/k=2\/k=3\/k=4\/k=5\/k=6\/k=7:=by omega
 rcases hc with rfl | rfl | rfl | rfl | rfl | rfl | rfl | rfl<;> rfl
theorem dQ {w w':World} (h:w.grownBy w' none):Below w.heap.size w w':=⟨h.os,h.tape,h.output,h.size,fun k hk=>h.block k hk (by simp)⟩
def pF (z:Nat):List UInt8:=128::List.replicate z 0
theorem Db (z:Nat):pF (z+1)=pF z++[0]:=by unfold pF; rw[List.replicate_succ',List.cons_append]
theorem ru (z:Nat):(pF z).length=z+1:=by simp[pF]
structure qc (w W1 wr : World) (v : Value) (pad : List UInt8) : Prop where
 row:wr.ownsRow (w.heap.size+1) 5 1 v pad.length (pad.map ak)
 below:Below W1.heap.size W1 wr
theorem qc.app {w W1 wr w':World} {v v':Value} {pad:List UInt8} {x:UInt8} {n:Nat} {cs:List Value} (h:qc w W1 wr v pad) (hs:W1.heap.size=w.heap.size+1) (h1:w'.ownsRow (w.heap.size+1) 5 1 v' (n+1) cs) (h2:wr.grownBy w' v.ownBlock) (hn:n=pad.length:=by simp[ru]) (hc:cs=pad.map ak++[ak x]:=by rfl):qc w W1 w' v' (pad++[x]):=by
 subst hn hc;refine⟨by simpa using h1,aF h.below h.row h2 (by omega) (by have:=h.below.size; omega)⟩
theorem GG (c:Nat) {k s:Nat} (h:k<8) (hs:s=56-8*k):(iB c).getD k 0=UInt8.ofNat (c/2^s):=by
 subst hs;have hc:k=0\/k=1\/k=2\/k=3\/k=4\/k=5\/k=6\/k=7:=by omega
 rcases hc with rfl | rfl | rfl | rfl | rfl | rfl | rfl | rfl
 case inr.inr.inr.inr.inr.inr.inr=>simp[iB]
 all_goals rfl
theorem Ex (c:Nat) {k:Nat} (h:k<8):(iB c)[k]? =some ((iB c).getD k 0):=by
 have:k<(iB c).length:=h;simp[List.getD_eq_getElem?_getD,this]
theorem jF (y:Nat) (v:Int) (h:v=(y:Int)):Value.int .u8 (v%256)=ak (UInt8.ofNat y):=by
 subst h;unfold ak;rw[UInt8.toNat_ofNat'];simp
theorem rN (sb:Nat) (ty:TypeId) (rest:List Value) (data:List UInt8) (w:World) (h:iY w sb ty rest data) (hlen:data.length<576460752303423488) (hK:gj w) (hKlt:5<w.heap.size):
  Calls Tryz.prog 169 #[.pointer (some ⟨sb,0,none⟩)] w fun e w'=>e= .returned (.string ⟨(kw data).toArray⟩)/\Below w.heap.size w w':=by
 obtain⟨buf,hb64,htl,hbox⟩:=h;have HBX:=aa hbox;have HTL:=aa htl;have HK:=aa hK;have HL64:=aa hb64;have hsl:=lt_of_block hbox;obtain⟨n,hn⟩: ∃n,n=data.length:=⟨_,rfl⟩;have c72:=(cell_of_row w _ 72 _ _ _ HBX.o).trans (ut _ hb64 data.length rest);rw[<-hn]at c72 hlen;have HN:=aa hn;clear hbox htl hK hb64 hn;have HSZ:=aa (FL (er data (data.length/64)) HL64.o data.length)
 have HONE:=aa (all_oneCell_toArray (Iu (er data (data.length/64)) buf data.length));have HI73:=aa (show(Tryz.prog.info? 218).map (·.size)=some (bp (er data (data.length/64)) buf data.length).length by rw[gC _ HL64.o]; kernel_rfl);have HI73b:=aa (show(Tryz.prog.info? 218).map (·.size)=some (bp (er data (data.length/64)) buf data.length).toArray.size by rw[HSZ.o]; kernel_rfl)
 have HRG:=aa (DF HBX.o)
 go_enter Tryz.func169,Tryz.ntmps169
 go_wp2_with (first | (refine wpList_load_mid rfl 218 _ rfl sb 0 rfl (bp (er data (data.length/64)) buf data.length) _ HRG.o Tryz.underlying218 rfl HI73.o ?_) | (refine wpList_store_row rfl 218 _ _ rfl w.heap.size _ rfl rfl _ _ (heap_alloc_new w _) HI73b.o (HSZ.o.symm) HONE.o ?_));obtain⟨W1,hW1⟩: ∃W1,W1=(w.alloc (.cells Tryz.zeroCells218 218)).setRow w.heap.size (bp (er data (data.length/64)) buf data.length).toArray:=⟨_,rfl⟩
 rw[<-hW1];have hsz1:W1.heap.size=w.heap.size+1:=by rw[hW1]; simp
 have HBW:=aa (show Below w.heap.size w W1 by rw[hW1]; exact below_setRow (bH) (Nat.le_refl _) _);have HPB:=aa (show iY W1 w.heap.size 218 [] data from⟨buf,HL64.o,HTL.o,by rw[hW1,List.append_nil]; exact setRow_heap _ _ _ _ _ _ (heap_alloc_new w _)⟩);clear hW1;rw[<-hsz1];obtain⟨W2,hW2⟩: ∃W2,W2=W1.alloc (.cells #[.int .u8 128] 5):=⟨_,rfl⟩;have HP0:=aa (show qc w W1 W2 (.slice (some ⟨W1.heap.size,0,none⟩) 1 1) (pF 0)from⟨by
  rw[hW2];exact World.ownsRow_lit (e:=5) (size:=1) (base:=w.heap.size+1) W1 #[.int .u8 128] 1 (by omega) (by decide) (by simp),by rw[hW2]; exact bH⟩)
 rw[<-hW2];clear hW2;have HSZ1:=aa hsz1;clear hsz1;have hzn:dl n<64:=by unfold dl; omega
 go_loopw [4] (fun x wr=> ∃z:Nat,z<=dl n/\qc w W1 wr x (pF z)) (fun x _=>64-GV x)
 case atStart=>exact⟨0,by omega,HP0.o⟩
 case round=>
  obtain⟨z,hz,hpad⟩:=hrel;obtain⟨ao,co,rfl,h1,h2⟩:=ai hpad.row;have hl:(pF z).length=z+1:=ru z;have hpd:=hpad;rw[hl]at hpd;have HPD:=aa hpd;clear hpd;rw[hl]at h1 ⊢;have HROW:=aa (show wr.ownsRow (w.heap.size+1) 5 1 (.slice ao (z+1) co) (z+1) ((pF z).map ak) by have:=hpad.row; rw[hl]at this; exact this);have hbz:=hpad.below.size;clear hpad HP0
  have c72r:=(HPD.o.below.cell (p:=⟨sb,72,none⟩) (by have:=HSZ1.o; show sb<_; omega)).trans ((HBW.o.cell (p:=⟨sb,72,none⟩) hsl).trans c72)
  by_cases hzz:z<dl n
  ·have hne: ¬((n:Int)+((z:Int)+1))%64=56:=by unfold dl at hzz; omega
   have HZ:=aa (show ∀u∈[(Value.int .u8 0)],u.oneCell'=true by simp[Value.oneCell']);have hzb:z+1+1<1099511627775:=by omega
   have hzc:w.heap.size+1<=wr.heap.size:=by have:=HSZ1.o; omega
   go_wp2_with (at_builtin; (refine lE rfl _ _ rfl (w.heap.size+1) (.slice ao (z+1) co) (z+1) 1 ((pF z).map ak) rfl wr [.int .u8 0] _ rfl rfl HZ.o HROW.o hzb hzc ?_); intro v' wc hown' hgrow'; have HP3:=aa (HPD.o.app (x:=0) HSZ1.o hown' hgrow' hl.symm rfl); obtain⟨ae,ce,rfl,-,-⟩:=ai hown'; clear hown' hgrow')
   go_roundw
   case rel=>exact⟨z+1,by omega,by rw[Db]; exact HP3.o⟩
   case measure=>simp[GV]; omega
  ·have hez:z=dl n:=by omega
   have heq:((n:Int)+((z:Int)+1))%64=56:=by rw[hez]; unfold dl; omega
   have HZE:=aa hez
   go_upto_region 6 with(fail)
   rename ((_ != _)=false)=>hcond
   clear hcond heq hez hzz;obtain⟨pz,hpz⟩: ∃pz,pz=pF z:=⟨_,rfl⟩;have HPZ:=aa hpz;have HQ0:=aa (show qc w W1 wr (.slice ao (z+1) co) (pz++(iB (n*8)).take 0) by rw[List.take_zero,List.append_nil,hpz]; exact HPD.o);clear hpz;go_wp2_with fail
   go_loopw [4,6] (fun x s wr=> ∃k:Nat,k<=8/\s= .int .i64 (56-8*(k:Int))/\qc w W1 wr x (pz++(iB (n*8)).take k)) (fun _ s _=>(intOf s+8).toNat)
   case atStart=>exact⟨0,by omega,rfl,HQ0.o⟩
   case round=>
    obtain⟨k,hk,rfl,hpad⟩:=hrel;obtain⟨aq,cq,rfl,h1q,h2q⟩:=ai hpad.row;obtain⟨pl,hpl⟩: ∃pl,pl=(pz++(iB (n*8)).take k).length:=⟨_,rfl⟩;rw[<-hpl]at hpad h1q ⊢;have HQD:=aa hpad;have HROW2:=aa (show wr.ownsRow (w.heap.size+1) 5 1 (.slice aq pl cq) pl ((pz++(iB (n*8)).take k).map ak) by have:=hpad.row; rw[<-hpl]at this; exact this);have HPL:=aa hpl
    have hplb:pl<=72:=by rw[hpl,List.length_append,HPZ.o,ru]; have:=List.length_take_le k (iB (n*8)); have:(iB (n*8)).length=8:=rfl; omega
    have hbz2:=hpad.below.size;have hbz3:=HSZ1.o▸hbz2;clear hpad hpl
    by_cases hk8:k<8
    ·obtain⟨sN,hsN⟩: ∃sN:Nat,56-8*(k:Int)=(sN:Int):=⟨56-8*k,by omega⟩;rw[hsN];have hsl2:(sN:Int)<=56:=by omega
     have hmin:min sN 64=sN:=by omega
     obtain⟨x,hx⟩: ∃x,x=(iB (n*8)).getD k 0:=⟨_,rfl⟩;have HV:=aa (show Value.int .u8 ((n:Int)*8/2^sN%256)=ak x by rw[hx,GG _ hk8 (by omega:sN=56-8*k)]; exact jF _ _ rfl);have HTK:=aa (show(iB (n*8)).take (k+1)=(iB (n*8)).take k++[x] by rw[hx,List.take_add_one,Ex _ hk8]; rfl);have HSN:=aa hsN;have hsn8: -8<=(sN:Int)-8:=by omega
     clear hx hsN;have HZ:=aa (show ∀u∈[(Value.int .u8 ((n:Int)*8/2^sN%256))],u.oneCell'=true by simp[Value.oneCell']);have hzb:pl+1<1099511627775:=by omega
     have hzc:w.heap.size+1<=wr.heap.size:=by have:=HSZ1.o; omega
     go_wp2_with (at_builtin; go_loud (refine lE rfl _ _ rfl (w.heap.size+1) (.slice aq pl cq) pl 1 ((pz++(iB (n*8)).take k).map ak) rfl wr [.int .u8 ((n:Int)*8/2^sN%256)] _ rfl rfl HZ.o HROW2.o hzb hzc ?_); intro v' wc hown' hgrow'; go_loud (have HP3:=aa (HQD.o.app (x:=x) HSZ1.o hown' hgrow' HPL.o (by rw[HV.o]))); obtain⟨ae,ce,rfl,-,-⟩:=ai hown'; clear hown' hgrow')
     go_roundw
     case rel=>exact⟨k+1,by omega,by have:=HSN.o; congr 1; omega,by rw[HTK.o,<-List.append_assoc]; exact HP3.o⟩
     case measure=>simp[intOf]; omega
    ·obtain rfl:k=8:=by omega
     have hpp:pz++(iB (n*8)).take 8=jO data.length:=by
      rw[HPZ.o,HZE.o,<-HN.o,List.take_of_length_le (show(iB (n*8)).length<=8 from Nat.le_refl _)];unfold jO pF;rw[Nat.mod_eq_of_lt (by omega)]
     have hby:ar (· ≠w.heap.size) wr (.slice aq pl cq) (jO data.length):=by
      have h9:=aO HROW2.o;rw[hpp]at h9;have h10:pl=(jO data.length).length:=by rw[<-hpp]; exact HPL.o
      rw[h10]at h9 ⊢;exact h9.weak (fun j hj=>by show j≠w.heap.size; have:=hj.1; omega)
     have HBY:=aa hby
     have HPP:=aa hpp;clear hby hpp;have hpl2:(jO data.length).length<=80:=by rw[rr]; unfold dl; omega
     go_wp2_with fail;refine(fW w.heap.size 218 [] data (jO data.length) (.slice aq pl cq) wr ?_ HBY.o (by have:=HN.o; omega) ?_ (by have:=HSZ1.o; omega) (by omega)).mono ?_
     ·obtain⟨b1,b2,b3,b4⟩:=HPB.o;exact⟨b1,b2,b3,(HQD.o.below.block _ (lt_of_block b4)).trans b4⟩
     ·intro j x hj;rw[<-HK.o j x hj];exact World.cell?_of_block ((HQD.o.below.block _ (by have:=HSZ1.o; show 5<_; omega)).trans (HBW.o.block _ hKlt))
     ·rintro e w3 ⟨rfl,hsha,hg3⟩;obtain⟨buf2,hb1,hb2,hb3⟩:=hsha;obtain⟨vv,hvv⟩: ∃vv,vv=er (data++jO data.length) ((data++jO data.length).length/64):=⟨_,rfl⟩;rw[<-hvv,eD]at hb3;have HB3:=aa hb3;have HVV:=aa hvv;have hz3:=hg3.size;have HBL3:=aa (show Below w.heap.size w w3 from((HBW.o.trans (HQD.o.below.mono HBW.o.size)).grown hg3 (by have:=HSZ1.o; omega) (fun k hk=>by cases hk; exact Nat.le_refl _)))
      have hzz3:w.heap.size+1<=w3.heap.size:=by have:=HSZ1.o; omega
      clear hb1 hb2 hb3 hvv hg3;obtain⟨ht9,⟨i9,z9,h91,h92,h93,h94,h95⟩,-,-⟩:=Tryz.appBytes;have hb32:i9.bytes*32<=281474976710656:=by rw[h94]; decide
      have H9:=aa (And.intro h91 (And.intro h92 (And.intro h93 hb32)));clear h91 h92 h93 h94 h95 hb32
      go_upto_region 12 with(refine wpList_make_own _ rfl _ _ 29 rfl (w.heap.size+1) 5 i9 z9 1 Tryz.underlying29 H9.o.1 H9.o.2.1 H9.o.2.2.1 .i64 .i64 32 32 rfl rfl rfl H9.o.2.2.2 (by decide) hzz3 ?_; intro w4 hown4 hg4; have HO4:=aa hown4; have HG4:=aa hg4; clear hown4 hg4)
      have HBL4:=aa (HBL3.o.trans ((dQ HG4.o).mono HBL3.o.size));have HB4:=aa ((HG4.o.block _ (lt_of_block HB3.o) (by simp)).trans HB3.o);have HR4:=aa (pC HB4.o);have hzz4:w.heap.size+1<=w4.heap.size:=by have:=HG4.o.size; omega
      have HO5:=aa (show w4.ownsRow (w.heap.size+1) 5 1 (.slice (some ⟨w3.heap.size,0,none⟩) 0 32) (((vv.list.take 0).flatMap uT).length) (((vv.list.take 0).flatMap uT).map ak)from HO4.o);go_wp2_with (refine wpList_load_mid rfl 216 _ rfl w.heap.size 0 rfl [.int .u32 (vv.a:Int), .int .u32 (vv.b:Int), .int .u32 (vv.c:Int), .int .u32 (vv.d:Int), .int .u32 (vv.e:Int), .int .u32 (vv.f:Int), .int .u32 (vv.g:Int), .int .u32 (vv.h:Int)] _ HR4.o Tryz.underlying216 rfl (by kernel_rfl) ?_)
      go_loopw [7,48] (fun x i wr=> ∃k:Nat,k<=8/\i= .int .i64 (k:Int)/\wr.ownsRow (w.heap.size+1) 5 1 x (((vv.list.take k).flatMap uT).length) (((vv.list.take k).flatMap uT).map ak)/\Below w.heap.size w wr/\w.heap.size+1<=wr.heap.size) (fun _ i _=>8-(intOf i).toNat)
      case atStart=>exact⟨0,by omega,rfl,HO5.o,HBL4.o,hzz4⟩
      case round=>
       obtain⟨k,hk,rfl,hown,hbel,hzz5⟩:=hrel;obtain⟨asx,csx,rfl,h1s,h2s⟩:=ai hown;obtain⟨sl,hsl5⟩: ∃sl,sl=((vv.list.take k).flatMap uT).length:=⟨_,rfl⟩;rw[<-hsl5]at hown h1s ⊢;have HSL:=aa hsl5;have HOW:=aa hown;have HBE:=aa hbel;have hslb:sl<=32:=by rw[hsl5,vX,List.length_take]; omega
       clear hsl5 hown hbel
       by_cases hk8:k<8
       ·have hI: ∀w,(Instr.index 216 (.agg #[.int .u32 (vv.a:Int), .int .u32 (vv.b:Int), .int .u32 (vv.c:Int), .int .u32 (vv.d:Int), .int .u32 (vv.e:Int), .int .u32 (vv.f:Int), .int .u32 (vv.g:Int), .int .u32 (vv.h:Int)]) (.int .i64 (k:Int))).run Tryz.prog w= .ok (.int .u32 ((vv.list.getD k 0:Nat):Int)) w:=EZ vv hk8;obtain⟨y,hy⟩: ∃y,y=vv.list.getD k 0:=⟨_,rfl⟩
        rw[<-hy]at hI;have HTK:=aa (show(vv.list.take (k+1)).flatMap uT=(vv.list.take k).flatMap uT++uT y by rw[hy,JL vv hk8,List.flatMap_append]; simp);have HZ:=aa (show ∀u∈[(Value.int .u8 ((y:Int)/16777216%256)), .int .u8 ((y:Int)/65536%256), .int .u8 ((y:Int)/256%256), .int .u8 ((y:Int)%256)],u.oneCell'=true by simp[Value.oneCell']);have HV:=aa (show [(Value.int .u8 ((y:Int)/16777216%256)), .int .u8 ((y:Int)/65536%256), .int .u8 ((y:Int)/256%256), .int .u8 ((y:Int)%256)]=(uT y).map ak by
         rw[jF (y/2^24) _ (by simp),jF (y/2^16) _ (by simp),jF (y/2^8) _ (by simp),jF y _ rfl]; rfl)
        have hk8i:(k:Int)<8:=by omega
        have hslb2:sl+4<1099511627775:=by omega
        clear hy;go_wp2_with (at_builtin; go_loud (refine lE rfl _ _ rfl (w.heap.size+1) (.slice asx sl csx) sl 4 (((vv.list.take k).flatMap uT).map ak) rfl wr [.int .u8 ((y:Int)/16777216%256), .int .u8 ((y:Int)/65536%256), .int .u8 ((y:Int)/256%256), .int .u8 ((y:Int)%256)] _ rfl rfl HZ.o HOW.o hslb2 hzz5 ?_); intro v' wc hown' hgrow'; have HO6:=aa hown'; have HG6:=aa hgrow'; obtain⟨ae,ce,rfl,-,-⟩:=ai hown'; clear hown' hgrow')
        go_roundw
        case rel=>
         refine⟨k+1,by omega,by simp, ?_,aF HBE.o HOW.o HG6.o (by omega) (by omega),by have:=HG6.o.size; omega⟩;rw[HTK.o,List.length_append,AY,List.map_append,<-HV.o,<-HSL.o];exact HO6.o
        case measure=>simp[intOf]; omega
       ·obtain rfl:k=8:=by omega
        have hout:(vv.list.take 8).flatMap uT=kw data:=by
         unfold kw V8.out;rw[<-HVV.o]; rfl
        have hb8:ar (fun _=>True) wr (.slice asx sl csx) (kw data):=by
         have h9:=aO HOW.o;have h10:=HSL.o;rw[hout]at h9 h10;rw[h10]at h9 ⊢;exact h9.weak (fun _ _=>trivial)
        have hcv:=EG hb8;have HBE2:=aa HBE.o;clear hb8 hout;go_wp2_with fail;go_ret;exact⟨rfl,HBE2.o⟩
theorem GU {bs:List UInt8} (hl:bs.length=64) {k:Nat} (hk:k<64) {b:UInt8} (hb:bs[k]? =some b) (w:World):(Instr.index 213 (.agg (bs.map ak).toArray) (.int .i64 (k:Int))).run Tryz.prog w= .ok (.int .u8 (b.toNat:Int)) w:=by
 have hz:(sizeOf 5).run Tryz.prog w= .ok 1 w:=by kernel_rfl
 obtain⟨h1,rfl⟩:=List.getElem?_eq_some_iff.1 hb;simp[Instr.index,asIntOf,run_underlying Tryz.underlying213,part,hz,hl,hk]
 rfl
theorem oX {w:World} {fb o:Nat} {bs:List UInt8} {ty:TypeId} (h:w.heap[fb]? =some (.cells (bs.map ak).toArray ty (0,0))) (ho:o=0:=by rfl):w.rangeAt fb o (bs.map ak):=by
 subst ho;intro j x hj;rw[cell_of_row w _ _ _ _ _ h,Nat.zero_add,List.getElem?_toArray];exact hj
def cH (bs:List UInt8) (p:UInt8):List UInt8:=bs.map fun x=>x^^^p
structure mj (w : World) (bs : List UInt8) (p : UInt8) (k : Nat) (wr : World) : Prop where
 box:wr.heap[w.heap.size]? =some (.cells ((cH bs p).take k++List.replicate (64-k) 0 |>.map ak).toArray 213 (0,0))
 below:Below w.heap.size w wr
theorem AG (a b:UInt8):bits BinOp.xor IntKind.u8 (a.toNat:Int) (b.toNat:Int)=(((a^^^b).toNat:Nat):Int):=by
 rw[u8_xor_nat _ _ a.toNat_lt b.toNat_lt,UInt8.toNat_xor]
theorem mj.put {w wr:World} {bs:List UInt8} {p b:UInt8} {k:Nat} (h:mj w bs p k wr) (hl:bs.length=64) (hk:k<64) (hb:bs[k]? =some b):mj w bs p (k+1) (wr.setCell ⟨w.heap.size,k,none⟩ (ak (b^^^p))):=by
 refine⟨?_,h.below.trans ⟨rfl,rfl,rfl,by simp[World.setCell],fun j hj=>heap_setCell_other wr _ j _ (by show j≠w.heap.size; omega)⟩⟩;rw[heap_setCell_same wr _ _ _ _ _ h.box]
 congr 2
 have e1:(cH bs p).take (k+1)=(cH bs p).take k++[b^^^p]:=by
  rw[List.take_add_one]
  congr 1
  unfold cH;rw[List.getElem?_map,hb]; rfl
 have e2:((cH bs p).take k).length=k:=by unfold cH; rw[List.length_take,List.length_map,hl]; omega
 rw[e1,show 64-k=(64-(k+1))+1 by omega,List.replicate_succ,List.setIfInBounds_toArray,List.map_append,List.set_append_right _ _ (by rw[List.length_map,e2]; omega),List.length_map,e2,Nat.sub_self];simp
theorem mj.here {w wr:World} {bs:List UInt8} {p:UInt8} {k:Nat} (h:mj w bs p k wr) (hl:bs.length=64) (hk:k<64):wr.cell? ⟨w.heap.size,k,none⟩=some (.int .u8 0):=by
 have e2:((cH bs p).take k).length=k:=by unfold cH; rw[List.length_take,List.length_map,hl]; omega
 rw[cell_of_row wr _ _ _ _ _ h.box,List.getElem?_toArray,List.map_append,List.getElem?_append_right (by rw[List.length_map,e2]; omega),List.length_map,e2,Nat.sub_self,show 64-k=(64-(k+1))+1 by omega]
 rfl
theorem mj.drew {w wr:World} {bs:List UInt8} {p:UInt8} {k:Nat} (h:mj w bs p k wr):mj w bs p k wr.drew:=⟨h.box,h.below.trans (Below.refl _ _).drew⟩
theorem gZ (fb:Nat) (bs:List UInt8) (p:UInt8) (w:World) (hf:w.heap[fb]? =some (.cells (bs.map ak).toArray 213 (0,0))) (hl:bs.length=64):
  Calls Tryz.prog 166 #[.int .u8 (p.toNat:Int), .pointer (some ⟨fb,0,none⟩)] w fun e w'=>e= .returned (.agg ((cH bs p).map ak).toArray)/\Below w.heap.size w w':=by
 have HF:=aa hf;have hlt:=lt_of_block hf;clear hf
 go_enter Tryz.func166,Tryz.ntmps166
 go_upto_region 1 with(fail)
 change Code.wp _ _ _ _ (w.alloc (.cells (List.replicate 64 (Value.int .u8 0)).toArray 213))
 obtain⟨W1,hW1⟩: ∃W1,W1=w.alloc (.cells (List.replicate 64 (Value.int .u8 0)).toArray 213):=⟨_,rfl⟩;have HX0:=aa (show mj w bs p 0 W1 from⟨by rw[hW1]; exact heap_alloc_new w _,by rw[hW1]; exact bH⟩);have HR:=aa (oX ((HX0.o.below.block fb hlt).trans HF.o));have HL:=aa hl;have HI:=aa (show(Tryz.prog.info? 213).map (·.size)=some (bs.map ak).length by rw[List.length_map,hl]; kernel_rfl)
 rw[<-hW1];clear hW1;go_wp2_with (refine wpList_load_mid rfl 213 _ rfl fb 0 rfl (bs.map ak) _ HR.o Tryz.underlying213 rfl HI.o ?_)
 go_loopw [7] (fun i wr=> ∃k:Nat,k<=64/\i= .int .i64 (k:Int)/\mj w bs p k wr) (fun i _=>64-(intOf i).toNat)
 case atStart=>exact⟨0,by omega,rfl,HX0.o⟩
 case round=>
  obtain⟨k,hk,rfl,hx⟩:=hrel;have HX:=aa hx;have hz:=hx.below.size;clear hx hl
  by_cases h64:k<64
  ·obtain⟨b,hb⟩: ∃b,bs[k]? =some b:=⟨bs[k]'(by rw[HL.o]; exact h64),List.getElem?_eq_getElem _⟩;have hI:=GU HL.o h64 hb;have ch:=HX.o.here HL.o h64;have cf:=frozen_of_row wr _ k _ _ HX.o.box;have hk64:(k:Int)<64:=by omega
   have HB:=aa hb;clear hb;go_wp2_with fail
   go_roundw
   case rel=>
    rw[AG];exact⟨k+1,by omega,by simp,HX.o.put HL.o h64 HB.o⟩
   case measure=>simp[intOf]; omega
  ·obtain rfl:k=64:=by omega
   have hbx:wr.heap[w.heap.size]? =some (.cells ((cH bs p).map ak).toArray 213 (0,0)):=by
    rw[HX.o.box,Nat.sub_self,List.replicate_zero,List.append_nil,List.take_of_length_le (by unfold cH; rw[List.length_map,HL.o]; exact Nat.le_refl _)]
   have hlen:(cH bs p).length=64:=by unfold cH; rw[List.length_map,HL.o]
   have HBX:=aa hbx;have HR2:=aa (oX hbx);have HI2:=aa (show(Tryz.prog.info? 213).map (·.size)=some ((cH bs p).map ak).length by rw[List.length_map,hlen]; kernel_rfl);have HI3:=aa (show(Tryz.prog.info? 213).map (·.size)=some ((cH bs p).map ak).toArray.size by rw[List.size_toArray,List.length_map,hlen]; kernel_rfl);have H1:=aa (all_oneCell_toArray (ci (cH bs p)))
   clear hbx;go_wp2_with (first | (refine wpList_load_mid rfl 213 _ rfl w.heap.size 0 rfl ((cH bs p).map ak) _ HR2.o Tryz.underlying213 rfl HI2.o ?_) | (refine wpList_store_row rfl 213 _ _ rfl w.heap.size _ rfl rfl _ _ HBX.o HI3.o rfl H1.o ?_));refine bodyPost_ret (results_cell_row rfl _ _ w.heap.size _ _ _ _ rfl (setRow_heap wr _ _ _ _ _ HBX.o) Tryz.underlying213 rfl HI3.o) rfl ?_;exact⟨rfl,below_setRow HX.o.below (Nat.le_refl _) _⟩
def Eg (w:World):Prop:=w.cell? ⟨0,0,none⟩=some (.int .u8 54)/\w.cell? ⟨0,1,none⟩=some (.int .u8 92)
theorem wh (w:World) (e:TypeId) (s:ByteArray):Below w.heap.size w (Lib.bytesWorld w e s):=
 ⟨rfl,rfl,rfl,by rw[Lib.bytesWorld_size]; omega,fun k hk=>Lib.bytesWorld_at_old w e s k hk⟩
theorem uV (w:World) (s:ByteArray) (hs:s.size<=maxLen):ar (fun k=>k=w.heap.size) (Lib.bytesWorld w 5 s) (.slice (some ⟨w.heap.size,0,none⟩) s.size (grownCap w s.size 0 5)) (bl s):=by
 have e:s.size=(bl s).length:=am s;unfold ar aL;rw[<-e];refine⟨by rw[List.length_map,e,Nat.mul_one],_,_,rfl,grownCap_ge _ _ _ _,grownCap_le_maxLen _ _ _ _ hs, .inr ⟨w.heap.size,0,rfl,rfl,fun j u hj=> ?_⟩⟩;have hlt:=(List.getElem?_eq_some_iff.1 hj).1;rw[List.length_map,<-e]at hlt;rw[Nat.zero_add,Lib.bytesWorld_cell w _ s j hlt,<-hj,List.getElem?_map];have hl2:j<s.data.toList.length:=by simpa using hlt
 show _=Option.map ak (s.data.toList[j]?)
 rw[List.getElem?_eq_getElem hl2,List.getD_eq_getElem?_getD,List.getElem?_eq_getElem hl2]
 rfl
theorem om (s:ByteArray) (w:World) (hs:s.size<=maxLen): ∃W cp,(convert 9 29 (.string s)).run Tryz.prog w= .ok (.slice (some ⟨w.heap.size,0,none⟩) s.size cp) W/\ar (fun k=>k=w.heap.size) W (.slice (some ⟨w.heap.size,0,none⟩) s.size cp) (bl s)/\Below w.heap.size w W/\W.heap.size=w.heap.size+1:=
 ⟨_,_,Lib.run_convert_string_bytes (P:=Tryz.prog) w 9 29 5 s Tryz.underlying9 Tryz.underlying29 Tryz.underlying5,uV w s hs,wh w _ s,Lib.bytesWorld_size w _ s⟩
def gT (xs:List ByteArray):List UInt8:=xs.flatMap bl
theorem iY.below {w w':World} {sb:Nat} {ty:TypeId} {rest:List Value} {data:List UInt8} (h:iY w sb ty rest data) (hb:Below w.heap.size w w'):iY w' sb ty rest data:=by
 obtain⟨b,h1,h2,h3⟩:=h;exact⟨b,h1,h2,br hb h3⟩
theorem gj.below {w w':World} (h:gj w) (hb:Below w.heap.size w w') (hlt:5<w.heap.size):gj w':=by
 intro j x hj;rw[<-h j x hj];exact World.cell?_of_block (hb.block _ hlt)
theorem qS {xs:List ByteArray} {k:Nat} {s:ByteArray} (h:xs[k]? =some s):gT (xs.take (k+1))=gT (xs.take k)++bl s:=by
 unfold gT;rw[List.take_add_one,h,List.flatMap_append]; simp
theorem Fb {xs:List ByteArray} (k:Nat):(gT (xs.take k)).length<=(gT xs).length:=by
 unfold gT
 conv=>rhs; rw[<-List.take_append_drop k xs,List.flatMap_append,List.length_append]
 omega
theorem yg (S:Nat->Prop) (xs:List ByteArray) (v:Value) (w:World) (hv:fQ S w v xs) (hx: ∀s∈xs,s.size<=maxLen) (hn:xs.length<=1000) (hl:(gT xs).length<576460752303423488) (hI:js w) (hK:gj w) (hKlt:5<w.heap.size):
  Calls Tryz.prog 165 #[v] w fun e w'=>e= .returned (.string ⟨(kw (gT xs)).toArray⟩)/\Below w.heap.size w w':=by
 obtain⟨hvl,a,cap,rfl,hcap,hcm,h0⟩:=hv;have HK:=aa hK;have HX:=aa hx;have H0:=aa h0;have HL:=aa hl;clear hx h0 hK hl
 go_enter Tryz.func165,Tryz.ntmps165
 go_wp2_with fail;refine(rM _ hI).mono ?_;rintro e w1 ⟨rfl,hs1,hb1,hz1⟩;have HS1:=aa hs1;have HB1:=aa hb1;clear hs1 hb1 hI;go_wp2_with fail;obtain⟨n,hn2⟩: ∃n,n=xs.length:=⟨_,rfl⟩;have HN:=aa hn2;rw[<-hn2]at hn ⊢;clear hn2
 go_loopw [9] (fun i wr=> ∃k:Nat,k<=n/\i= .int .i64 (k:Int)/\iY wr w.heap.size 218 [] (gT (xs.take k))/\Below w.heap.size w wr/\w.heap.size<wr.heap.size) (fun i _=>n-(intOf i).toNat)
 case atStart=>exact⟨0,by omega,rfl,HS1.o,HB1.o,hz1⟩
 case round=>
  obtain⟨k,hk,rfl,hs,hb,hz⟩:=hrel;have HS:=aa hs;have HB:=aa hb;clear hs hb
  by_cases hkn:k<n
  ·have hkx:k<xs.length:=by have:=HN.o; omega
   obtain⟨s,hs⟩: ∃s,xs[k]? =some s:=⟨_,List.getElem?_eq_getElem hkx⟩;have H0x:=H0.o
   rcases H0x with h0 | ⟨b,o,rfl,hS,hc⟩
   ·omega
   ·have c0:=hc k (.string s) (by rw[List.getElem?_map,hs]; rfl);have hltb:=block_lt_of_cell c0;have c1:=(HB.o.cell (p:=⟨b,o+k,none⟩) hltb).trans c0;have hki:(k:Int)<(n:Int):=by omega
    have hsz:s.size<=maxLen:=HX.o s (List.mem_of_getElem? hs);obtain⟨W2,cp,hcv,hby,hbw,hsz2⟩:=om s wr hsz;have HBY:=aa hby
    have HBW:=aa hbw;have HSS:=aa hs;clear hby hbw hs c0 hc;go_wp2_with fail;refine(fW w.heap.size 218 [] (gT (xs.take k)) (bl s) _ W2 (HS.o.below HBW.o) (HBY.o.weak (fun j hj=>by show j≠w.heap.size; omega)) (by have h1:=qS HSS.o; have h2:=Fb (xs:=xs) (k+1); rw[h1,List.length_append]at h2; have:=HL.o; omega) (HK.o.below (ab HB.o HBW.o) hKlt) (by have:=HBW.o.size; omega) (by omega)).mono ?_
    rintro e w3 ⟨rfl,hs3,hg3⟩;have HS3:=aa hs3;have HB3:=aa (show Below w.heap.size w w3 from(ab HB.o HBW.o).grown hg3 (by omega) (fun j hj=>by cases hj; exact Nat.le_refl _));have hz3:w.heap.size<w3.heap.size:=by have:=hg3.size; omega
    clear hs3 hg3;go_wp2_with fail
    go_roundw
    case rel=>exact⟨k+1,by omega,by simp,by rw[qS HSS.o]; exact HS3.o,HB3.o,hz3⟩
    case measure=>simp[intOf]; omega
  ·obtain rfl:k=n:=by omega
   have hall:gT (xs.take k)=gT xs:=by rw[HN.o,List.take_length]
   go_wp2_with fail;refine(rN w.heap.size 218 [] (gT (xs.take k)) wr HS.o (by rw[hall]; exact HL.o) (HK.o.below HB.o hKlt) (by omega)).mono ?_;rintro e w3 ⟨rfl,hb3⟩;have HB3:=aa (ab HB.o hb3);clear hb3;rw[hall];go_wp2_with fail;go_ret;exact⟨rfl,HB3.o⟩
theorem wR (off:Nat): ∀(xs:List Value) (k:Nat) (cs:Array Value),off+k+xs.length<=cs.size->
  ((xs.zipIdx k).foldl (fun cs p=>cs.setIfInBounds (off+p.2) p.1) cs).toList=cs.toList.take (off+k)++(xs++cs.toList.drop (off+k+xs.length))
 | [],k,cs,_=>by simp
 | x::xs,k,cs,h=>by
  rw[List.length_cons]at h;rw[List.zipIdx_cons,List.foldl_cons,wR off xs (k+1) _ (by simp; omega),Array.toList_setIfInBounds];have h1:off+k<cs.toList.length:=by simp; omega
  have h2:((cs.toList.set (off+k) x).take (off+(k+1)))=cs.toList.take (off+k)++[x]:=by
   rw[show off+(k+1)=off+k+1 by omega,List.take_add_one,List.take_set_of_le (Nat.le_refl _),List.getElem?_set_self h1]; rfl
  have h3:(cs.toList.set (off+k) x).drop (off+(k+1)+xs.length)=cs.toList.drop (off+k+(xs.length+1)):=by
   rw[List.drop_set_of_lt (by omega),show off+(k+1)+xs.length=off+k+(xs.length+1) by omega]
  rw[h2,h3,List.length_cons]; simp
theorem jJ {place:Nat->Option (Nat×Nat)} {cells:Array Value} {i off size:Nat} {a:Array Value} {rest:List (Nat×Value)} (hp:place i=some (off,size)) (ha:a.size=size) (hf:off+size<=cells.size):
  Instr.fill place cells ((i, .agg a)::rest)=Instr.fill place (splice cells.toList off a.toList).toArray rest:=by
 subst ha;have hc:(Value.agg a).cells=a:=rfl;rw[Instr.fill,hp];simp only[hc];rw[if_neg (by simp; omega)]
 congr 1
 apply Array.ext'
 have h:=wR off a.toList 0 cells (by simpa using hf);have e:(a.zipIdx.foldl (fun cs (p:Value×Nat)=>cs.setIfInBounds (off+p.2) p.1) cells)=((a.toList.zipIdx 0).foldl (fun cs (p:Value×Nat)=>cs.setIfInBounds (off+p.2) p.1) cells):=by
  rw[<-Array.foldl_toList,Array.toList_zipIdx]
 show(a.zipIdx.foldl (fun cs (p:Value×Nat)=>cs.setIfInBounds (off+p.2) p.1) cells).toList=_
 rw[e,h];simp[splice]
end Go.Proofs.YtpffpjbkbaleiaaGreatDoor
namespace Go.Proofs.YtpffpjbkbaleiaaGreatDoor
open Go
theorem Bo {P:Program} {ops:Array Oper} {Q:Exit->Act->World->Prop} {S:World->Prop} {dst:Option Tmp} {op:Op} {ty:TypeId} {pos:String} {aft:Array Edge} {g:Option (Nat×Bool)} {fuel:Nat} {listed:Array Bool} {a:Act} {w:World} (i:Nat) (hi:ops[i]? =some ⟨dst,op,ty,pos,aft,g⟩)
  (hw:Region.wanted ⟨dst,op,ty,pos,aft,g⟩ (yielded ops a.tmps)=true)
  (h: ∀K:Act->World->Prop,(∀a w,S w/\lI P ops Q S fuel (listed.setIfInBounds i true) a w->K a w)->wpList P #[] (Exit.then K Q) [⟨dst,op,ty,pos, #[],none⟩] a w):
  wpOp P ops Q i (fun a' w'=>S w'/\wpAnyH P .any ops Q S fuel (listed.setIfInBounds i true) a' w') a w:=by
 have hb:sq P ops (fun a' w'=>S w'/\wpAnyH P .any ops Q S fuel (listed.setIfInBounds i true) a' w') Q [⟨dst,op,ty,pos,aft,g⟩] a w:=
  bJ hw (fun K hK=>h K (fun a w hh=>hK a w ⟨hh.1,hh.2.out⟩))
 unfold wpOp;simp only[hi];exact sq.out hb
open Go Go.RowKit
theorem pK {ops:Array Oper} {rest:List Oper} {o:Oper} {a:Act} {Q:Exit->Act->World->Prop} {w:World} (hgd:o.guard=none) (d s:Operand)
  (ho:o.op= .call {callee:= .builtin .copy,args:= #[d,s],argTypes:= #[29,9]}) (g off dLen dCap:Nat) (k:ByteArray) (hd:a.eval d= .slice (some ⟨g,off,none⟩) dLen dCap) (hs:a.eval s= .string k)
  (cur:List Value) (t:TypeId) (hg:w.heap[g]? =some (.cells cur.toArray t (0,0))) (hle:k.size<=dLen) (hfit:off+k.size<=cur.length)
  (h:wpList Tryz.prog ops Q rest (a.put o.dst (.int .i64 (k.size:Int))) (w.setRow g (splice cur off ((bl k).map ak)).toArray)):wpList Tryz.prog ops Q (o::rest) a w:=by
 refine wpList_plain hgd fun K hK=> ?_
 have hrun:=Lib.run_copy_row_string (P:=Tryz.prog) w 29 9 o.type 5 g off dLen dCap k cur.toArray t Tryz.underlying29 (by kernel_rfl) hg hle (by simpa using hfit);unfold Oper.wp;simp[execOp,ho,resolve,invoke,builtin,hd,hs,hrun,Result.andThen];refine hK _ _ ?_;have e:splice cur off ((bl k).map ak)=cur.take off++(Lib.byteCells k.data.toList++cur.drop (off+k.size)):=by
  unfold splice;rw[List.length_map,<-am]; rfl
 rw[e]at h
 simpa [goInt]using h
theorem Ao {α:Type} (n:Nat) (x:α) (ys:List α):splice (List.replicate n x) 0 ys=ys++List.replicate (n-ys.length) x:=by
 unfold splice;rw[List.take_zero,List.nil_append,List.drop_replicate,Nat.zero_add]
theorem zC {k:List UInt8} (h:k.length<=64):dr k=k++List.replicate (64-k.length) 0:=by unfold dr; rw[if_neg (by omega)]
theorem js.below {w0 w w':World} (h:js w) (hb:Below w0.heap.size w w') (hlt:2<w0.heap.size):js w':=by
 intro j x hj;rw[<-h j x hj];exact World.cell?_of_block (hb.block _ hlt)
theorem gz {w:World} {sb:Nat} {cs:List Value} {ty:TypeId} (h:w.heap[sb]? =some (.cells cs.toArray ty (0,0))):w.rangeAt sb 0 cs:=by
 intro j x hj;rw[cell_of_row w _ _ _ _ _ h,Nat.zero_add,List.getElem?_toArray];exact hj
theorem dk {ops:Array Oper} {rest:List Oper} {o:Oper} {a:Act} {w:World} {Q:Exit->Act->World->Prop} (hg:o.guard=none) (t:TypeId) (parts:Array (Nat×Operand)) (ho:o.op= .build t parts) (vs:List (Nat×Value))
  (hv:(parts.map fun(i,x)=>(i,a.eval x)).toList=vs) (c:Array Value) (hb:Tryz.prog.built t vs=some c) (h:wpList Tryz.prog ops Q rest (a.put o.dst (.agg c)) w):wpList Tryz.prog ops Q (o::rest) a w:=by
 subst hv;exact wpList_build hg t parts ho (by rw[hb]; rfl) (by rw[hb]; exact h)
def Jp :List Value:=List.replicate 8 (.int .u32 0)++(List.replicate 64 (.int .u8 0)++([.int .i64 0]++List.replicate 64 (.int .u8 0)))
theorem jV :Jp.length=137:=by kernel_rfl
theorem vH {α:Type} {z a b:List α} (h:z.length=a.length+b.length):splice (splice z 0 a) a.length b=a++b:=by
 unfold splice;rw[List.take_zero,List.nil_append,Nat.zero_add,List.take_left,List.drop_append,List.drop_eq_nil_of_le (by omega),List.nil_append,List.drop_drop,List.drop_eq_nil_of_le (by omega),List.append_nil]
theorem oV (a b:List Value) (ha:a.length=73) (hb:b.length=64):Tryz.prog.built 223 [(0, .agg a.toArray),(1, .agg b.toArray)]=some (a++b).toArray:=by
 have h: ∀parts,Tryz.prog.built 223 parts=Instr.fill (fun i=>(#[(0,73),(73,64)]:Array (Nat×Nat))[i]?) Jp.toArray parts:=fun parts=>by kernel_rfl
 rw[h,jJ (off:=0) (size:=73) rfl (by simpa using ha) (by rw[List.size_toArray,jV]; decide),jJ (off:=73) (size:=64) rfl (by simpa using hb) (by rw[List.size_toArray,length_splice _ _ _ (by simp[jV,ha]),List.toList_toArray,jV]; decide)];simp only[Instr.fill];rw[<-ha,vH (by rw[jV,ha,hb])]
theorem sZ (c:List Value) (hc:c.length=137):Tryz.prog.built 225 [(0, .agg c.toArray)]=some c.toArray:=by
 have h: ∀parts,Tryz.prog.built 225 parts=Instr.fill (fun i=>(#[(0,137)]:Array (Nat×Nat))[i]?) Jp.toArray parts:=fun parts=>by kernel_rfl
 rw[h,jJ (off:=0) (size:=137) rfl (by simpa using hc) (by rw[List.size_toArray,jV]; decide)];simp only[Instr.fill];unfold splice;rw[List.take_zero,List.nil_append,Nat.zero_add,hc,List.drop_eq_nil_of_le (by rw[jV]; decide),List.append_nil]
def oP (w:World) (mb:Nat) (key data:List UInt8):Prop:=iY w mb 225 ((cH (dr key) 92).map ak) (cH (dr key) 54++data)
theorem wY (key:ByteArray) (w:World) (hk:key.size<=64) (hI:js w) (hK:gj w) (hP:Eg w) (hKlt:5<w.heap.size) (hplt:0<w.heap.size) (hilt:2<w.heap.size):
  Calls Tryz.prog 146 #[.string key] w fun e w'=> ∃mb,e= .returned (.pointer (some ⟨mb,0,none⟩))/\w.heap.size<=mb/\oP w' mb (bl key) []/\Below w.heap.size w w':=by
 have HK:=aa hK;have HI:=aa hI;have HP:=aa hP;clear hK hI hP
 go_enter Tryz.func146,Tryz.ntmps146
 go_upto_region 4 with(fail)
 change Code.wp _ _ _ _ (w.alloc (.cells (List.replicate 64 (Value.int .u8 0)).toArray 213))
 obtain⟨W1,hW1⟩: ∃W1,W1=w.alloc (.cells (List.replicate 64 (Value.int .u8 0)).toArray 213):=⟨_,rfl⟩;rw[<-hW1];have HX1:=aa (show W1.heap[w.heap.size]? =some (.cells (List.replicate 64 (Value.int .u8 0)).toArray 213 (0,0)) by rw[hW1]; exact heap_alloc_new w _);have HB1:=aa (show Below w.heap.size w W1 by rw[hW1]; exact bH);have hz1:W1.heap.size=w.heap.size+1:=by rw[hW1]; simp
 clear hW1;have HFT:=aa (show 0+key.size<=(List.replicate 64 (Value.int .u8 0)).length by simp; omega)
 go_upto_region 5 with(refine pK rfl _ _ rfl w.heap.size 0 64 64 key rfl rfl _ _ HX1.o hk HFT.o ?_)
 obtain⟨W2,hW2⟩: ∃W2,W2=W1.setRow w.heap.size (splice (List.replicate 64 (Value.int .u8 0)) 0 ((bl key).map ak)).toArray:=⟨_,rfl⟩;rw[<-hW2];have HX2:=aa (show W2.heap[w.heap.size]? =some (.cells ((dr (bl key)).map ak).toArray 213 (0,0)) by
  rw[hW2,setRow_heap W1 _ _ _ _ _ HX1.o,zC (by rw[<-am]; exact hk)];rw[Ao,List.length_map,List.map_append,List.map_replicate]; rfl)
 have HB2:=aa (show Below w.heap.size w W2 by rw[hW2]; exact below_setRow HB1.o (Nat.le_refl _) _);have hz2:w.heap.size+1=W2.heap.size:=by rw[hW2,size_setRow,hz1]
 clear hW2 hz1;have HP2:=aa (show W2.cell? ⟨0,1,none⟩=some (.int .u8 92)from(HB2.o.cell (p:=⟨0,1,none⟩) hplt).trans HP.o.2);go_wp2_with fail;refine bE (fun w'=>w'.cell? ⟨0,1,none⟩=some (.int .u8 92)) (by kernel_rfl) ?_;have hS:=HP2.o;obtain⟨V,hV⟩: ∃V:World,V=W2.drew:=⟨_,rfl⟩;rw[<-hV];have HBV:=aa (show Below w.heap.size w V by rw[hV]; exact HB2.o.trans ((Below.refl _ _).drew))
 have HXV:=aa (show V.heap[w.heap.size]? =some (.cells ((dr (bl key)).map ak).toArray 213 (0,0)) by rw[hV]; exact HX2.o);have hSV:V.cell? ⟨0,1,none⟩=some (.int .u8 92):=by rw[hV]; exact hS
 have hzV:w.heap.size+1=V.heap.size:=by rw[hV]; exact hz2
 clear hV hS hz2;refine ay 3 rfl (by kernel_rfl) (by kernel_rfl) (by kernel_rfl) (fun _ _ _ h=>h) rfl hSV (by intro w' hw1; go_simp; rfl) ?_;simp only[Act.put,aZ,bg,bh];refine ay 4 rfl (by kernel_rfl) (by kernel_rfl) (by kernel_rfl) (fun _ _ _ h=>h) rfl hSV (by intro w' hw1; go_simp; rfl) ?_;simp only[Act.put,aZ,bg,bh];refine ay 5 rfl (by kernel_rfl) (by kernel_rfl) (by kernel_rfl) (fun _ _ _ h=>h) rfl hSV (by intro w' hw1; go_simp; rfl) ?_
 simp only[Act.put,aZ,bg,bh];refine an 0 rfl (by kernel_rfl) rfl (fun K hK=> ?_);go_wp2_with fail;refine(rM V (HI.o.below HBV.o hilt)).mono ?_;rintro e w1 ⟨rfl,hs1,hb1,hz1⟩;have HS1:=aa hs1;have HBV1:=aa hb1;have HB1w:=aa (ab HBV.o hb1);have hS1:w1.cell? ⟨0,1,none⟩=some (.int .u8 92):=(hb1.cell (p:=⟨0,1,none⟩) (by have:=HBV.o.size; show 0<_; omega)).trans hSV
 have HX1b:=aa ((hb1.block w.heap.size (by omega)).trans HXV.o);clear hs1 hb1 hSV;go_wp2_with fail;refine⟨hS1, ?_⟩;refine ay 1 rfl (by kernel_rfl) (by kernel_rfl) (by kernel_rfl) (fun _ _ _ h=>h) rfl hS1 (by intro w' hw1; go_simp; rfl) ?_;simp only[Act.put,aZ,bg,bh];obtain⟨sbf,hsb1,hsb2,hsb3⟩:=HS1.o;rw[List.append_nil]at hsb3;have HBX:=aa hsb3;have hcl:=gC (er [] (([]:List UInt8).length/64)) hsb1 ([]:List UInt8).length
 have HSB:=aa hsb1;obtain⟨sc,hsc⟩: ∃sc,sc=bp (er [] (([]:List UInt8).length/64)) sbf ([]:List UInt8).length:=⟨_,rfl⟩;rw[<-hsc]at HBX hcl;have HSC:=aa hsc;have HCL:=aa hcl;have HI73:=aa (show(Tryz.prog.info? 218).map (·.size)=some sc.length by rw[hcl]; kernel_rfl);clear hsb1 hsb2 hsb3 hcl hsc;refine lI.of (wpAnyH_all (rs:=[2,6]) (by kernel_rfl) (by simp) fun jj hjj=> ?_)
 simp only[List.mem_cons,List.not_mem_nil,or_false]at hjj
 rcases hjj with rfl | rfl
 ·refine Bo 2 rfl rfl (fun K hK=> ?_);have HRG:=aa (gz HBX.o);go_wp2_with (refine wpList_load_mid rfl 218 _ rfl V.heap.size 0 rfl sc _ HRG.o Tryz.underlying218 rfl HI73.o ?_);refine⟨hS1, ?_⟩;refine an 6 rfl (by kernel_rfl) rfl (fun K hK=> ?_);go_wp2_with fail;refine(gZ w.heap.size (dr (bl key)) 92 w1 HX1b.o (dK _)).mono ?_;rintro e w2 ⟨rfl,hb2⟩;have HBA:=aa hb2
  have HBB:=aa (ab HB1w.o hb2);have hS2:w2.cell? ⟨0,1,none⟩=some (.int .u8 92):=(hb2.cell (p:=⟨0,1,none⟩) (by have:=HB1w.o.size; show 0<_; omega)).trans hS1;clear hb2;go_wp2_with fail;refine⟨hS2, ?_⟩;obtain⟨oc,hoc⟩: ∃oc,oc=(cH (dr (bl key)) 92).map ak:=⟨_,rfl⟩;have ho64:oc.length=64:=by rw[hoc]; unfold cH; rw[List.length_map,List.length_map,dK]
  rw[<-hoc];have HOC:=aa hoc;obtain⟨mc,hmc⟩: ∃mc,mc=sc++oc:=⟨_,rfl⟩;have hbs:=oV sc oc HCL.o ho64;rw[<-hmc]at hbs;have hm137:mc.length=137:=by rw[hmc,List.length_append,HCL.o,ho64]
  have hbm:=sZ mc hm137;have HMC:=aa hmc;clear hoc hmc ho64 hm137;refine an 7 rfl (by kernel_rfl) rfl (fun K hK=> ?_);go_wp2_with (refine dk rfl 223 _ rfl [(0, .agg sc.toArray),(1, .agg oc.toArray)] (by kernel_rfl) mc.toArray hbs ?_);refine⟨hS2, ?_⟩;simp only[Act.put,aZ,bg,bh];refine an 8 rfl (by kernel_rfl) rfl (fun K hK=> ?_);go_wp2_with (refine dk rfl 225 _ rfl [(0, .agg mc.toArray)] (by kernel_rfl) mc.toArray hbm ?_)
  refine⟨hS2, ?_⟩;simp only[Act.put,aZ,bg,bh];clear hbs hbm;refine an 9 rfl (by kernel_rfl) rfl (fun K hK=> ?_);go_wp2_with fail;obtain⟨w3,hw3⟩: ∃w3,w3=w2.alloc (.cells mc.toArray 225):=⟨_,rfl⟩;rw[<-hw3];have HM3:=aa (show w3.heap[w2.heap.size]? =some (.cells mc.toArray 225 (0,0)) by rw[hw3]; exact heap_alloc_new _ _);have hb3:Below w2.heap.size w2 w3:=by rw[hw3]; exact bH
  have HBC:=aa (ab HBB.o hb3);have hS3:w3.cell? ⟨0,1,none⟩=some (.int .u8 92):=(hb3.cell (p:=⟨0,1,none⟩) (by have:=HBB.o.size; show 0<_; omega)).trans hS2;have HX3:=aa (((hb3.block w.heap.size (by have:=HBB.o.size; have:=HB1w.o.size; have:=HBA.o.size; omega)).trans (br HBA.o HX1b.o)));clear hw3 hb3 hS2;refine⟨hS3, ?_⟩;refine an 10 rfl (by kernel_rfl) rfl (fun K hK=> ?_)
  go_wp2_with fail;refine⟨hS3, ?_⟩;refine aM (by kernel_rfl) ?_;clear hS3;have hP0:w3.cell? ⟨0,0,none⟩=some (.int .u8 54):=(HBC.o.cell (p:=⟨0,0,none⟩) hplt).trans HP.o.1;go_wp2_with fail;refine(gZ w.heap.size (dr (bl key)) 54 w3 HX3.o (dK _)).mono ?_;rintro e w4 ⟨rfl,hb4⟩;have HBD:=aa (ab HBC.o hb4);have HM4:=aa (br hb4 HM3.o);have hlen54:(cH (dr (bl key)) 54).length=64:=by unfold cH; rw[List.length_map,dK]
  have HI64:=aa (show(Tryz.prog.info? 213).map (·.size)=some ((cH (dr (bl key)) 54).map ak).toArray.size by rw[List.size_toArray,List.length_map,hlen54]; kernel_rfl);have H1x:=aa (all_oneCell_toArray (ci (cH (dr (bl key)) 54)));have HSZ64:=aa (show(List.replicate 64 (Value.int .u8 0)).toArray.size=((cH (dr (bl key)) 54).map ak).toArray.size by rw[List.size_toArray,List.size_toArray,List.length_map,hlen54]; simp)
  have HNEW:=aa (show(w4.alloc (.cells (List.replicate 64 (Value.int .u8 0)).toArray 213)).heap[w4.heap.size]? =some (.cells (List.replicate 64 (Value.int .u8 0)).toArray 213 (0,0))from heap_alloc_new w4 _);clear hb4 hP0;go_wp2_with (refine wpList_store_row rfl 213 _ _ rfl w4.heap.size _ rfl rfl _ _ HNEW.o HI64.o HSZ64.o H1x.o ?_);simp only[Act.put];refine az [some 5,none] (by kernel_rfl) (by kernel_rfl) (by kernel_rfl) ?_
  simp only[bC,List.take_succ_cons,List.take_zero,List.drop_succ_cons,List.drop_zero];obtain⟨w5,hw5⟩: ∃w5:World,w5=((w4.alloc (.cells (List.replicate 64 (Value.int .u8 0)).toArray 213)).setRow w4.heap.size ((cH (dr (bl key)) 54).map ak).toArray).drew:=⟨_,rfl⟩;have HN5:=aa (show w5.heap[w4.heap.size]? =some (.cells ((cH (dr (bl key)) 54).map ak).toArray 213 (0,0)) by rw[hw5]; exact setRow_heap _ _ _ _ _ _ HNEW.o)
  have hb5:Below w4.heap.size w4 w5:=by rw[hw5]; exact(below_setRow (bH) (Nat.le_refl _) _).drew
  have HM5:=aa (br hb5 HM4.o);have HBE:=aa (ab HBD.o hb5);have hne45:w4.heap.size≠w2.heap.size:=by have:=lt_of_block HM4.o; omega
  change vM _ _ _ _ _ _
  repeat (first | (refine aK rfl ?_; simp only[Act.put,aZ,bg,bh]) | (refine aS rfl (fun K hK=> ?_); go_simp; refine hK _ ?_; clear hK K))
  refine aR ?_;refine bJ rfl (fun K hK=> ?_);go_wp2_with fail
  change Calls _ _ _ (((w4.alloc (.cells (List.replicate 64 (Value.int .u8 0)).toArray 213)).setRow w4.heap.size ((cH (dr (bl key)) 54).map ak).toArray).drew) _
  rw[<-hw5];clear hw5;have hby:ar (· ≠w2.heap.size) w5 (.slice (some ⟨w4.heap.size,0,none⟩) 64 64) (cH (dr (bl key)) 54):=⟨by simp,_,_,by rw[hlen54],by omega,by unfold maxLen; omega, .inr ⟨_,_,rfl,hne45,fun j x hj=>by rw[cell_of_row w5 _ _ _ _ _ HN5.o,Nat.zero_add,List.getElem?_toArray]; exact hj⟩⟩;have hsha:iY w5 w2.heap.size 225 oc []:=⟨sbf,HSB.o,by simp,by rw[<-HSC.o,<-HMC.o]; exact HM5.o⟩
  have hge2:w.heap.size+1<=w2.heap.size:=by have:=HBA.o.size; have:=HBV1.o.size; omega
  refine(fW w2.heap.size 225 oc [] (cH (dr (bl key)) 54) _ w5 hsha hby (by rw[hlen54]; decide) (HK.o.below HBE.o hKlt) (by have:=HBE.o.size; omega) (by omega)).mono ?_;rintro e w6 ⟨rfl,hs6,hg6⟩;have HS6:=aa hs6;have HBF:=aa (HBE.o.grown hg6 HBE.o.size (fun k hk=>by cases hk; omega));clear hs6 hg6 hby hsha;go_wp2_with fail;go_ret;refine⟨_,rfl,by omega, ?_,HBF.o⟩;unfold oP
  rw[<-HOC.o,List.append_nil];exact HS6.o
 ·refine Bo 6 rfl rfl (fun K hK=> ?_);go_wp2_with fail;refine(gZ w.heap.size (dr (bl key)) 92 w1 HX1b.o (dK _)).mono ?_;rintro e w2 ⟨rfl,hb2⟩;have HBA:=aa hb2;have HBB:=aa (ab HB1w.o hb2);have hS2:w2.cell? ⟨0,1,none⟩=some (.int .u8 92):=(hb2.cell (p:=⟨0,1,none⟩) (by have:=HB1w.o.size; show 0<_; omega)).trans hS1;have HRG:=aa (gz (br hb2 HBX.o))
  clear hb2;go_wp2_with fail;refine⟨hS2, ?_⟩;refine an 2 rfl (by kernel_rfl) rfl (fun K hK=> ?_);go_wp2_with (refine wpList_load_mid rfl 218 _ rfl V.heap.size 0 rfl sc _ HRG.o Tryz.underlying218 rfl HI73.o ?_);refine⟨hS2, ?_⟩;obtain⟨oc,hoc⟩: ∃oc,oc=(cH (dr (bl key)) 92).map ak:=⟨_,rfl⟩;have ho64:oc.length=64:=by rw[hoc]; unfold cH; rw[List.length_map,List.length_map,dK]
  rw[<-hoc];have HOC:=aa hoc;obtain⟨mc,hmc⟩: ∃mc,mc=sc++oc:=⟨_,rfl⟩;have hbs:=oV sc oc HCL.o ho64;rw[<-hmc]at hbs;have hm137:mc.length=137:=by rw[hmc,List.length_append,HCL.o,ho64]
  have hbm:=sZ mc hm137;have HMC:=aa hmc;clear hoc hmc ho64 hm137;refine an 7 rfl (by kernel_rfl) rfl (fun K hK=> ?_);go_wp2_with (refine dk rfl 223 _ rfl [(0, .agg sc.toArray),(1, .agg oc.toArray)] (by kernel_rfl) mc.toArray hbs ?_);refine⟨hS2, ?_⟩;simp only[Act.put,aZ,bg,bh];refine an 8 rfl (by kernel_rfl) rfl (fun K hK=> ?_);go_wp2_with (refine dk rfl 225 _ rfl [(0, .agg mc.toArray)] (by kernel_rfl) mc.toArray hbm ?_)
  refine⟨hS2, ?_⟩;simp only[Act.put,aZ,bg,bh];clear hbs hbm;refine an 9 rfl (by kernel_rfl) rfl (fun K hK=> ?_);go_wp2_with fail;obtain⟨w3,hw3⟩: ∃w3,w3=w2.alloc (.cells mc.toArray 225):=⟨_,rfl⟩;rw[<-hw3];have HM3:=aa (show w3.heap[w2.heap.size]? =some (.cells mc.toArray 225 (0,0)) by rw[hw3]; exact heap_alloc_new _ _);have hb3:Below w2.heap.size w2 w3:=by rw[hw3]; exact bH
  have HBC:=aa (ab HBB.o hb3);have hS3:w3.cell? ⟨0,1,none⟩=some (.int .u8 92):=(hb3.cell (p:=⟨0,1,none⟩) (by have:=HBB.o.size; show 0<_; omega)).trans hS2;have HX3:=aa (((hb3.block w.heap.size (by have:=HBB.o.size; have:=HB1w.o.size; have:=HBA.o.size; omega)).trans (br HBA.o HX1b.o)));clear hw3 hb3 hS2;refine⟨hS3, ?_⟩;refine an 10 rfl (by kernel_rfl) rfl (fun K hK=> ?_)
  go_wp2_with fail;refine⟨hS3, ?_⟩;refine aM (by kernel_rfl) ?_;clear hS3;have hP0:w3.cell? ⟨0,0,none⟩=some (.int .u8 54):=(HBC.o.cell (p:=⟨0,0,none⟩) hplt).trans HP.o.1;go_wp2_with fail;refine(gZ w.heap.size (dr (bl key)) 54 w3 HX3.o (dK _)).mono ?_;rintro e w4 ⟨rfl,hb4⟩;have HBD:=aa (ab HBC.o hb4);have HM4:=aa (br hb4 HM3.o);have hlen54:(cH (dr (bl key)) 54).length=64:=by unfold cH; rw[List.length_map,dK]
  have HI64:=aa (show(Tryz.prog.info? 213).map (·.size)=some ((cH (dr (bl key)) 54).map ak).toArray.size by rw[List.size_toArray,List.length_map,hlen54]; kernel_rfl);have H1x:=aa (all_oneCell_toArray (ci (cH (dr (bl key)) 54)));have HSZ64:=aa (show(List.replicate 64 (Value.int .u8 0)).toArray.size=((cH (dr (bl key)) 54).map ak).toArray.size by rw[List.size_toArray,List.size_toArray,List.length_map,hlen54]; simp)
  have HNEW:=aa (show(w4.alloc (.cells (List.replicate 64 (Value.int .u8 0)).toArray 213)).heap[w4.heap.size]? =some (.cells (List.replicate 64 (Value.int .u8 0)).toArray 213 (0,0))from heap_alloc_new w4 _);clear hb4 hP0;go_wp2_with (refine wpList_store_row rfl 213 _ _ rfl w4.heap.size _ rfl rfl _ _ HNEW.o HI64.o HSZ64.o H1x.o ?_);simp only[Act.put];refine az [some 5,none] (by kernel_rfl) (by kernel_rfl) (by kernel_rfl) ?_
  simp only[bC,List.take_succ_cons,List.take_zero,List.drop_succ_cons,List.drop_zero];obtain⟨w5,hw5⟩: ∃w5:World,w5=((w4.alloc (.cells (List.replicate 64 (Value.int .u8 0)).toArray 213)).setRow w4.heap.size ((cH (dr (bl key)) 54).map ak).toArray).drew:=⟨_,rfl⟩;have HN5:=aa (show w5.heap[w4.heap.size]? =some (.cells ((cH (dr (bl key)) 54).map ak).toArray 213 (0,0)) by rw[hw5]; exact setRow_heap _ _ _ _ _ _ HNEW.o)
  have hb5:Below w4.heap.size w4 w5:=by rw[hw5]; exact(below_setRow (bH) (Nat.le_refl _) _).drew
  have HM5:=aa (br hb5 HM4.o);have HBE:=aa (ab HBD.o hb5);have hne45:w4.heap.size≠w2.heap.size:=by have:=lt_of_block HM4.o; omega
  change vM _ _ _ _ _ _
  repeat (first | (refine aK rfl ?_; simp only[Act.put,aZ,bg,bh]) | (refine aS rfl (fun K hK=> ?_); go_simp; refine hK _ ?_; clear hK K))
  refine aR ?_;refine bJ rfl (fun K hK=> ?_);go_wp2_with fail
  change Calls _ _ _ (((w4.alloc (.cells (List.replicate 64 (Value.int .u8 0)).toArray 213)).setRow w4.heap.size ((cH (dr (bl key)) 54).map ak).toArray).drew) _
  rw[<-hw5];clear hw5;have hby:ar (· ≠w2.heap.size) w5 (.slice (some ⟨w4.heap.size,0,none⟩) 64 64) (cH (dr (bl key)) 54):=⟨by simp,_,_,by rw[hlen54],by omega,by unfold maxLen; omega, .inr ⟨_,_,rfl,hne45,fun j x hj=>by rw[cell_of_row w5 _ _ _ _ _ HN5.o,Nat.zero_add,List.getElem?_toArray]; exact hj⟩⟩;have hsha:iY w5 w2.heap.size 225 oc []:=⟨sbf,HSB.o,by simp,by rw[<-HSC.o,<-HMC.o]; exact HM5.o⟩
  have hge2:w.heap.size+1<=w2.heap.size:=by have:=HBA.o.size; have:=HBV1.o.size; omega
  refine(fW w2.heap.size 225 oc [] (cH (dr (bl key)) 54) _ w5 hsha hby (by rw[hlen54]; decide) (HK.o.below HBE.o hKlt) (by have:=HBE.o.size; omega) (by omega)).mono ?_;rintro e w6 ⟨rfl,hs6,hg6⟩;have HS6:=aa hs6;have HBF:=aa (HBE.o.grown hg6 HBE.o.size (fun k hk=>by cases hk; omega));clear hs6 hg6 hby hsha;go_wp2_with fail;go_ret;refine⟨_,rfl,by omega, ?_,HBF.o⟩;unfold oP
  rw[<-HOC.o,List.append_nil];exact HS6.o
theorem eC {x a b:Nat} {s:Nat} (ha:2^s=a) (hb:2^(32-s)=b) (hx:x<4294967296):bits .or .u32 ((x:Int)/(b:Int)) ((x:Int)*(a:Int)%4294967296)=((cL x s:Nat):Int):=by
 rw[show((x:Int)*(a:Int)%4294967296)=((x*a%4294967296:Nat):Int) by simp,show((x:Int)/(b:Int))=((x/b:Nat):Int) by simp,
  u32_or_nat _ _ (Nat.lt_of_le_of_lt (Nat.div_le_self _ _) hx) (Nat.mod_lt _ (by decide)),Nat.or_comm]
 unfold cL; rw[ha,hb]
theorem Ai (x:Nat) (w:World) (hx:x<4294967296):Calls Tryz.prog 218 #[.int .u32 (x:Int), .int .i64 17] w fun e w'=>e= .returned (.int .u32 ((cL x 15:Nat):Int))/\ ∃m,w'=w.drewN m:=by
 have hw:IntKind.i64.wrap 15=15:=by decide
 go_enter Tryz.func218,Tryz.ntmps218
 go_wp2_with fail
 go_quiet (fail)
 go_wp2_with fail;go_ret;refine⟨?_,_,rfl⟩;rw[<-eC (a:=32768) (b:=131072) (by decide) (by decide) hx]
 rfl
theorem Ag (x:Nat) (w:World) (hx:x<4294967296):Calls Tryz.prog 218 #[.int .u32 (x:Int), .int .i64 19] w fun e w'=>e= .returned (.int .u32 ((cL x 13:Nat):Int))/\ ∃m,w'=w.drewN m:=by
 have hw:IntKind.i64.wrap 13=13:=by decide
 go_enter Tryz.func218,Tryz.ntmps218
 go_wp2_with fail
 go_quiet (fail)
 go_wp2_with fail;go_ret;refine⟨?_,_,rfl⟩;rw[<-eC (a:=8192) (b:=524288) (by decide) (by decide) hx]
 rfl
theorem Al (x:Nat) (w:World) (hx:x<4294967296):Calls Tryz.prog 218 #[.int .u32 (x:Int), .int .i64 7] w fun e w'=>e= .returned (.int .u32 ((cL x 25:Nat):Int))/\ ∃m,w'=w.drewN m:=by
 have hw:IntKind.i64.wrap 25=25:=by decide
 go_enter Tryz.func218,Tryz.ntmps218
 go_wp2_with fail
 go_quiet (fail)
 go_wp2_with fail;go_ret;refine⟨?_,_,rfl⟩;rw[<-eC (a:=33554432) (b:=128) (by decide) (by decide) hx]
 rfl
theorem Ah (x:Nat) (w:World) (hx:x<4294967296):Calls Tryz.prog 218 #[.int .u32 (x:Int), .int .i64 18] w fun e w'=>e= .returned (.int .u32 ((cL x 14:Nat):Int))/\ ∃m,w'=w.drewN m:=by
 have hw:IntKind.i64.wrap 14=14:=by decide
 go_enter Tryz.func218,Tryz.ntmps218
 go_wp2_with fail
 go_quiet (fail)
 go_wp2_with fail;go_ret;refine⟨?_,_,rfl⟩;rw[<-eC (a:=16384) (b:=262144) (by decide) (by decide) hx]
 rfl
theorem Am (x:Nat) (w:World) (hx:x<4294967296):Calls Tryz.prog 218 #[.int .u32 (x:Int), .int .i64 6] w fun e w'=>e= .returned (.int .u32 ((cL x 26:Nat):Int))/\ ∃m,w'=w.drewN m:=by
 have hw:IntKind.i64.wrap 26=26:=by decide
 go_enter Tryz.func218,Tryz.ntmps218
 go_wp2_with fail
 go_quiet (fail)
 go_wp2_with fail;go_ret;refine⟨?_,_,rfl⟩;rw[<-eC (a:=67108864) (b:=64) (by decide) (by decide) hx]
 rfl
theorem Ak (x:Nat) (w:World) (hx:x<4294967296):Calls Tryz.prog 218 #[.int .u32 (x:Int), .int .i64 11] w fun e w'=>e= .returned (.int .u32 ((cL x 21:Nat):Int))/\ ∃m,w'=w.drewN m:=by
 have hw:IntKind.i64.wrap 21=21:=by decide
 go_enter Tryz.func218,Tryz.ntmps218
 go_wp2_with fail
 go_quiet (fail)
 go_wp2_with fail;go_ret;refine⟨?_,_,rfl⟩;rw[<-eC (a:=2097152) (b:=2048) (by decide) (by decide) hx]
 rfl
theorem DA (x:Nat) (w:World) (hx:x<4294967296):Calls Tryz.prog 218 #[.int .u32 (x:Int), .int .i64 25] w fun e w'=>e= .returned (.int .u32 ((cL x 7:Nat):Int))/\ ∃m,w'=w.drewN m:=by
 have hw:IntKind.i64.wrap 7=7:=by decide
 go_enter Tryz.func218,Tryz.ntmps218
 go_wp2_with fail
 go_quiet (fail)
 go_wp2_with fail;go_ret;refine⟨?_,_,rfl⟩;rw[<-eC (a:=128) (b:=33554432) (by decide) (by decide) hx]
 rfl
theorem An (x:Nat) (w:World) (hx:x<4294967296):Calls Tryz.prog 218 #[.int .u32 (x:Int), .int .i64 2] w fun e w'=>e= .returned (.int .u32 ((cL x 30:Nat):Int))/\ ∃m,w'=w.drewN m:=by
 have hw:IntKind.i64.wrap 30=30:=by decide
 go_enter Tryz.func218,Tryz.ntmps218
 go_wp2_with fail
 go_quiet (fail)
 go_wp2_with fail;go_ret;refine⟨?_,_,rfl⟩;rw[<-eC (a:=1073741824) (b:=4) (by decide) (by decide) hx]
 rfl
theorem Aj (x:Nat) (w:World) (hx:x<4294967296):Calls Tryz.prog 218 #[.int .u32 (x:Int), .int .i64 13] w fun e w'=>e= .returned (.int .u32 ((cL x 19:Nat):Int))/\ ∃m,w'=w.drewN m:=by
 have hw:IntKind.i64.wrap 19=19:=by decide
 go_enter Tryz.func218,Tryz.ntmps218
 go_wp2_with fail
 go_quiet (fail)
 go_wp2_with fail;go_ret;refine⟨?_,_,rfl⟩;rw[<-eC (a:=524288) (b:=8192) (by decide) (by decide) hx]
 rfl
theorem Af (x:Nat) (w:World) (hx:x<4294967296):Calls Tryz.prog 218 #[.int .u32 (x:Int), .int .i64 22] w fun e w'=>e= .returned (.int .u32 ((cL x 10:Nat):Int))/\ ∃m,w'=w.drewN m:=by
 have hw:IntKind.i64.wrap 10=10:=by decide
 go_enter Tryz.func218,Tryz.ntmps218
 go_wp2_with fail
 go_quiet (fail)
 go_wp2_with fail;go_ret;refine⟨?_,_,rfl⟩;rw[<-eC (a:=1024) (b:=4194304) (by decide) (by decide) hx]
 rfl
def rI (x:Nat) (n:Int):Nat:=cL x (32-n.toNat)
theorem jR (x:Nat) (n:Int) (w:World) (hx:x<4294967296) (hn:n=7\/n=18\/n=17\/n=19\/n=6\/n=11\/n=25\/n=2\/n=13\/n=22):Calls Tryz.prog 218 #[.int .u32 (x:Int), .int .i64 n] w fun e w'=>e= .returned (.int .u32 ((rI x n:Nat):Int))/\ ∃m,w'=w.drewN m:=by
 rcases hn with rfl | rfl | rfl | rfl | rfl | rfl | rfl | rfl | rfl | rfl
 ·exact Al x w hx
 ·exact Ah x w hx
 ·exact Ai x w hx
 ·exact Ag x w hx
 ·exact Am x w hx
 ·exact Ak x w hx
 ·exact DA x w hx
 ·exact An x w hx
 ·exact Aj x w hx
 ·exact Af x w hx
def ij :Array Value:=(kc.map bY).toArray
theorem Fc :Tryz.prog.built 252 ((kc.map bY).zipIdx.map fun p=>(p.2,p.1))=some ij:=by kernel_rfl
theorem sw (w:World):Calls Tryz.prog 217 #[] w fun e w'=>e= .returned (.agg ij)/\Below w.heap.size w w':=by
 go_enter Tryz.func217,Tryz.ntmps217
 obtain⟨W0,hW0⟩: ∃W0:World,W0=w.alloc (.cells (List.replicate 64 (bY 0)).toArray 252):=⟨_,rfl⟩;have HBX:=aa (show W0.heap[w.heap.size]? =some (.cells (List.replicate 64 (bY 0)).toArray 252 (0,0)) by rw[hW0]; exact heap_alloc_new w _);have HB:=aa (show Below w.heap.size w W0 by rw[hW0]; exact bH)
 go_upto_region 1 with(fail)
 change Code.wp _ _ _ _ (w.alloc (.cells (List.replicate 64 (bY 0)).toArray 252))
 rw[<-hW0];clear hW0;go_wp2_with (first | (refine dk rfl 252 _ rfl ((kc.map bY).zipIdx.map fun p=>(p.2,p.1)) (by kernel_rfl) ij Fc ?_) | (refine wpList_store_row rfl 252 _ _ rfl w.heap.size ij rfl rfl _ _ HBX.o (by kernel_rfl) (by kernel_rfl) (by kernel_rfl) ?_));refine bodyPost_ret (results_cell_row rfl _ _ w.heap.size _ _ _ _ rfl (setRow_heap W0 _ _ _ _ _ HBX.o) Tryz.underlying252 rfl (by kernel_rfl)) rfl ?_
 exact⟨rfl,below_setRow HB.o (Nat.le_refl _) _⟩
end Go.Proofs.YtpffpjbkbaleiaaGreatDoor
