/- Texts of this proof, one after the other: PathA, PathB, ItemA, ItemB, ItemC, ItemD, Last, ItemE, ShaC, ShaD, ShaE, ShaF, HmacA, Built, Opr, HmacB, HmacC, EncA, RNumP. -/
import Derived.Test.YtpffpjbkbaleiaaGreatDoorCSharesA
set_option maxRecDepth 100000
set_option maxHeartbeats 8000000
namespace Go.Proofs.YtpffpjbkbaleiaaGreatDoor
section
open Go.RowKit
theorem On {s:ByteArray} {p q:Nat} (h: ∀j,j<p->j<s.size->32<=(s.get! j).toNat) (h2: ∀j,p<=j->j<q->128<=(s.get! j).toNat): ∀j,j<q->j<s.size->32<=(s.get! j).toNat:=by
 intro j hj hs
 rcases dN j p with h' | h'
 ·exact h j h' hs
 ·have:=h2 j h' hj; omega
theorem sR (s:ByteArray) (j:Nat) (h:j<s.size):s.get! j=(bl s)[j]'(by rw[<-bi]; exact h):=by have e:s.get! j=s.data[j]! :=rfl;have h2:j<s.data.size:=h;rw[e,getElem!_pos s.data j h2];simp[bl]
theorem II {s:ByteArray} (h: ∀j,j<s.size->32<=(s.get! j).toNat):rO (bl s)=true:=by
 unfold rO;rw[cB];intro c hc;obtain⟨j,hj,rfl⟩:=eq hc;have ha:j<s.size:=by rw[bi]; exact hj
 have:=h j ha;rw[sR s j ha]at this
 simpa using this
theorem DN {s:ByteArray} {j:Nat} (hj:j<s.size) (h:(s.get! j).toNat<32):rO (bl s)=false:=by unfold rO;rw[List.all_eq_false];rw[sR s j hj]at h;exact⟨(bl s)[j]'(by rw[<-bi]; exact hj),List.getElem_mem _,by rw[aG]; omega⟩
theorem wY (s:ByteArray) (pos:Nat) (h:pos<s.size):
  ((s.get! pos).toNat<128/\Utf8.decode s pos=((s.get! pos).toNat,1))\/(128<=(s.get! pos).toNat/\128<=(Utf8.decode s pos).1):=by
 have e:=get_at s pos h;rw[dh]at e
 rcases dN (s.get! pos).toNat 128 with h1 | h1
 ·exact .inl ⟨h1,by rw[decode_ascii s pos h (by rw[<-e]; exact h1),<-e]⟩
 ·exact .inr ⟨h1,(decode_high s pos h (by rw[<-e]; exact h1)).1⟩
theorem FF (s:ByteArray) (w:World) (he:nJ w) (hs:s.size<=9223372036854775807):
  Calls Tryz.prog 160 #[.string s] w fun e w'=>e= .returned (.bool (yB (bl s)))/\Below w.heap.size w w':=by
 have HE:=ag he;clear he
 go_enter Tryz.func160,Tryz.ntmps160
 go_wp2
 go_loopw [4] (fun _ wr=> ∃pos:Nat,wr=w.iter s pos/\ ∀j,j<pos->j<s.size->32<=(s.get! j).toNat) (fun _ wr=>s.size-wr.iterPos w.heap.size)
 ·exact⟨0,rfl,fun j hj=>by omega⟩
 ·obtain⟨pos,rfl,ha⟩:=hrel;have HL:=ag ha;clear ha
  by_cases hp:pos<s.size
  ·have hk: ∀ty,(Instr.next (.pointer (some ⟨w.heap.size,0,none⟩)) true ty).run Tryz.prog (w.iter s pos)=_:=fun ty=>run_next_any w s pos ty hp
   go_wp2
   ·go_ret;refine⟨cj ?_,eT⟩;have hf:((Utf8.decode s pos).1:Int)<32:=by assumption
    have hd:=wY s pos hp;have hg:(s.get! pos).toNat<32:=by
     rcases hd with⟨_,h2⟩ | ⟨_,h2⟩
     ·rw[h2]at hf; simp only at hf; omega
     ·omega
    simp[yB,DN hp hg]
   ·go_roundw
    case rel=>
     refine⟨pos+(Utf8.decode s pos).2,rfl, ?_⟩;have hc:(32:Int)<=(Utf8.decode s pos).1:=by assumption
     rcases wY s pos hp with⟨h1,h2⟩ | ⟨h1,h2⟩
     ·intro j hj hh;rw[h2]at hc hj
      rcases dN j pos with h3 | h3
      ·exact HL.o j h3 hh
      ·rw[show j=pos by simp at hj; omega]; simp at hc; omega
     ·exact On HL.o (CX s pos hp h1).2
    case measure=>
     rw[World.iterPos_iter,World.iterPos_iter];have:=Lib.width_pos s pos;omega
  ·have hk: ∀ty,(Instr.next (.pointer (some ⟨w.heap.size,0,none⟩)) true ty).run Tryz.prog (w.iter s pos)=_:=fun ty=>run_next_end w s pos ty hp
   go_wp2_with (go_at_call 181; refine(vX s _ (HE.o.below (eT)) hs).mono ?_; rintro e w' ⟨rfl,hb⟩);go_ret;refine⟨cj ?_,aj (eT) hb⟩;simp only[yB,II (fun j hj=>HL.o j (by omega) hj),ie]
theorem qE (s:ByteArray) (w:World) (he:nJ w) (hs:s.size<=9223372036854775807):
  Calls Tryz.prog 128 #[.string s] w fun e w'=>e= .returned (.bool (iV (bl s)))/\Below w.heap.size w w':=by
 have HE:=ag he;clear he
 go_enter Tryz.func128,Tryz.ntmps128
 go_wp2_with (first
  | (go_at_call 134; refine(tI _ _ _).mono ?_; rintro e w' ⟨rfl,rfl⟩)
  | (go_at_call 160; refine(FF _ _ HE.o hs).mono ?_; rintro e w' ⟨rfl,hb⟩))
 all_goals (go_ret; refine⟨cj ?_,by first | exact ak _ _ | exact hb⟩)
 all_goals (rw[dy]; simp_all [iV,fF,bi])
 all_goals first | omega | (intros; omega)
def OV (s:ByteArray) (w:World) (e:Ending) (w':World):Prop:=
 ∃v xs,e= .returned (.tuple #[v, .int .i64 0])/\xs.map bl=dd 47 (bl s)/\lP (w.heap.size<= ·) w' v xs/\Below w.heap.size w w'
def LZ (w:World) (e:Ending) (w':World):Prop:=e= .returned (.tuple #[.slice none 0 0, .int .i64 1])/\Below w.heap.size w w'
def Ma (s:ByteArray) (w:World) (e:Ending) (w':World):Prop:=(dH (bl s)=true/\OV s w e w')\/(dH (bl s)=false/\LZ w e w')
theorem Ev {w:World} {xs:List Value} {e:TypeId} {k:Nat} {x:Value} (hx:xs[k]? =some x):(w.alloc (.cells xs.toArray e)).cell? ⟨w.heap.size,k,none⟩=some x:=by have h:=aC w (.cells xs.toArray e);simp only[World.cell?,h];simp[hx]
theorem IJ {xs:List ByteArray} {k:Nat} {x:ByteArray} (hx:xs[k]? =some x):(xs.map Value.string)[k]? =some (.string x):=by simp[hx]
theorem Lt {xs:List ByteArray} {s:ByteArray} (hx:xs.map bl=dd 47 (bl s)) (h1:(bl s).length<=512) (h2:xs.length<=16) (h: ∀(j:Nat) x,j<xs.length->xs[j]? =some x->iV (bl x)=true):dH (bl s)=true:=by
 have hl:(dd 47 (bl s)).length=xs.length:=by rw[<-hx]; simp
 have ha:(dd 47 (bl s)).all iV=true:=by rw[<-hx,List.all_map,cB];intro x hm;obtain⟨j,hj,rfl⟩:=eq hm;exact h j _ hj (by simp)
 simp[dH,h1,hl,h2,ha]
theorem Bf {xs:List ByteArray} {s:ByteArray} {j:Nat} {x:ByteArray} (hx:xs.map bl=dd 47 (bl s)) (h:xs[j]? =some x) (hc:iV (bl x)=false):dH (bl s)=false:=by
 have ha:(dd 47 (bl s)).all iV=false:=by rw[<-hx,List.all_map,List.all_eq_false];exact⟨x,aM h,by simp[hc]⟩
 simp[dH,ha]
theorem Lw {xs:List ByteArray} {s:ByteArray} (hx:xs.map bl=dd 47 (bl s)) (h: ¬xs.length<=16):dH (bl s)=false:=by
 have hl:(dd 47 (bl s)).length=xs.length:=by rw[<-hx]; simp
 simp[dH,hl,h]
theorem GD {s:ByteArray} (h: ¬(bl s).length<=512):dH (bl s)=false:=by simp[dH,h]
theorem tQ (c:UInt8) (l:List UInt8): ∀p∈dd c l,p.length<=l.length:=by
 induction l with
 | nil=>simp[dd]
 | cons b l ih=>
  unfold dd
  split
  ·intro p hp; rcases aU.1 hp with rfl | hp
   ·simp
   ·have:=ih p hp; simp; omega
  ·split
   ·rename_i h t e;rw[e]at ih;intro p hp; rcases aU.1 hp with rfl | hp
    ·have:=ih h (by simp); simp; omega
    ·have:=ih p (by simp[hp]); simp; omega
   ·intro p hp; simp at hp; simp[hp]
theorem AL {xs:List ByteArray} {s:ByteArray} {c:UInt8} {j:Nat} {x:ByteArray} (hx:xs.map bl=dd c (bl s)) (h:xs[j]? =some x):x.size<=s.size:=by rw[bi,bi];exact tQ c (bl s) (bl x) (by rw[<-hx]; exact aQ.2 ⟨x,aM h,rfl⟩)
theorem Og {w w':World} {xs:List ByteArray} {e:TypeId} (hl:xs.length<=maxLen) (hb:Below (w.heap.size+1) (w.alloc (.cells (xs.map Value.string).toArray e)) w'):
  lP (w.heap.size<= ·) w' (.slice (some ⟨w.heap.size,0,none⟩) xs.length xs.length) xs:=by
 refine⟨by simp,some ⟨w.heap.size,0,none⟩,xs.length,rfl,ah _,hl, .inr ⟨w.heap.size,0,rfl,ah _,fun j u hu=> ?_⟩⟩;rw[hb.cell (p:=⟨w.heap.size,0+j,none⟩) (by simp),bO];exact Ev hu
theorem ry (s:ByteArray) (w:World) (he:nJ w):Calls Tryz.prog 82 #[.string s] w (Ma s w):=by
 have HE:=ag he;clear he
 by_cases h5:s.size<=512
 ·go_enter Tryz.func82,Tryz.ntmps82
  go_wp2_with fail;refine(Lu s 47 w HE.o (by omega)).mono ?_;rintro e w' ⟨xs,hx,rfl,rfl⟩;have hn:xs.length<=513:=by
   have h1:(dd 47 (bl s)).length=xs.length:=by rw[<-hx]; simp
   have h2:=pu 47 (bl s);rw[<-bi]at h2;omega
  have HX:=ag hx;clear hx
  by_cases hf:xs.length<=16
  ·go_wp2_with fail
   go_loopw [17] (fun i wr=> ∃k:Nat,k<=xs.length/\i= .int .i64 k/\Below (w.heap.size+1) (w.alloc (.cells (xs.map Value.string).toArray 9)) wr/\ ∀(j:Nat) x,j<k->xs[j]? =some x->iV (bl x)=true) (fun i _=>xs.length-(intOf i).toNat)
   ·exact⟨0,aR _,rfl,ak _ _,fun j x hj=>by omega⟩
   ·obtain⟨k,hk,rfl,hb,ha⟩:=hrel;have HA:=ag ha;clear ha
    by_cases hm:k<xs.length
    ·obtain⟨x,hx⟩: ∃x,xs[k]? =some x:=⟨xs[k],by simp[hm]⟩;have hg:wr.cell? ⟨w.heap.size,k,none⟩=some (.string x):=(hb.cell (p:=⟨w.heap.size,k,none⟩) (by simp)).trans (Ev (IJ hx));have hl:x.size<=9223372036854775807:=by have:=AL HX.o hx; omega
     have HK:=ag hx;have HB:=ag hb;clear hx hb
     cases hc:iV (bl x)
     ·have HC:=ag hc;clear hc;go_wp2_with (go_at_call 128; refine(qE x wr (HE.o.below (aj (eT) (by simpa using HB.o))) hl).mono ?_; rintro e w' ⟨rfl,hd⟩; rw[HC.o])
      go_ret2
      refine .inr ⟨Bf HX.o HK.o HC.o,rfl, ?_⟩;exact aj (aj (eT) (by simpa using HB.o)) hd
     ·have HC:=ag hc;clear hc;go_wp2_with (go_at_call 128; refine(qE x wr (HE.o.below (aj (eT) (by simpa using HB.o))) hl).mono ?_; rintro e w' ⟨rfl,hd⟩; rw[HC.o])
      go_roundw
      ·refine⟨k+1,by omega,by go_num,HB.o.trans (hd.mono (by have:=HB.o.size; simpa using this)),fun j x' hj hh=> ?_⟩
       rcases dN j k with h | h
       ·exact HA.o j x' h hh
       ·obtain rfl:j=k:=by omega
        have:=HK.o.symm.trans hh
        cases this
        exact HC.o
      simp[intOf]; omega
    ·have HB:=ag hb;clear hb
     go_wp2
     go_ret2
     refine .inl ⟨Lt HX.o (by rw[<-bi]; exact h5) hf (fun j x hj hx=>HA.o j x (by omega) hx),_,xs,rfl,HX.o,Og (by unfold maxLen; omega) HB.o, ?_⟩;exact aj (eT) (by simpa using HB.o)
  ·go_wp2_with fail
   go_ret2
   exact .inr ⟨Lw HX.o hf,rfl,eT⟩
 ·go_enter Tryz.func82,Tryz.ntmps82
  go_wp2_with fail
  go_ret2
  exact .inr ⟨GD (by rw[<-bi]; exact h5),rfl,ak _ _⟩
theorem uY (s:ByteArray) (w:World) (he:nJ w):
  Calls Tryz.prog 119 #[.string s] w fun e w'=>e= .returned (.bool (dH (bl s)))/\Below w.heap.size w w':=by
 go_enter Tryz.func119,Tryz.ntmps119
 go_wp2_with fail;refine(ry s w he).mono ?_;rintro e w' (⟨hv,v,xs,rfl,-,-,hb⟩ | ⟨hv,rfl,hb⟩)
 ·go_wp2
  go_ret;exact⟨cj (by rw[hv]),hb⟩
 ·go_wp2
  go_ret;exact⟨cj (by rw[hv]),hb⟩
def ny (c:Int):Int:=if c=47 then -1 else c
theorem NL (c:Int) (w:World) (h0:0<=c) (h1:c<=255):Calls Tryz.prog 150 #[.int .u8 c] w fun e w'=>e= .returned (.int .i64 (ny c))/\w=w':=by
 by_cases h:c=47
 ·subst h
  go_enter Tryz.func150,Tryz.ntmps150
  go_wp2
  go_ret;exact⟨rfl,rfl⟩
 ·have hr:ny c=c:=if_neg h;have HR:=ag hr;clear hr;have h2:(c == 47)=false:=by simpa using h
  go_enter Tryz.func150,Tryz.ntmps150
  go_wp2
  go_ret;exact⟨dK HR.o.symm,rfl⟩
theorem Pe (l r:List UInt8) (h:l=[]\/r=[]):fA l r=Lib.compareInt (l.length:Int) r.length:=by
 rcases h with rfl | rfl
 ·cases r
  ·simp[fA,Lib.compareInt]
  ·rw[fA,Lib.compareInt,if_pos (by simp<;> omega)]
 ·cases l
  ·simp[fA,Lib.compareInt]
  ·rw[fA,Lib.compareInt,if_neg (by simp<;> omega),if_pos (by simp<;> omega)]
theorem wU (x y:Int) (k:Int):Lib.compareInt (x-k) (y-k)=Lib.compareInt x y:=by
 unfold Lib.compareInt;have h1:(x-k<y-k)<->(x<y):=by omega
 have h2:(x-k>y-k)<->(x>y):=by omega
 simp only[h1,h2]
theorem wj {l r:List UInt8} {k:Nat} (hk1:k<=l.length) (hk2:k<=r.length) (h:k=l.length\/k=r.length):fA (l.drop k) (r.drop k)=Lib.compareInt (l.length:Int) r.length:=by
 rw[Pe _ _ (by rcases h with rfl | rfl<;> simp)];rw[bz,bz,<-wU (l.length:Int) r.length k]
 congr 1<;> omega
theorem CP {l r:List UInt8} {k:Nat} (hl:k<l.length) (hr:k<r.length) (h:l[k]=r[k]):fA (l.drop k) (r.drop k)=fA (l.drop (k+1)) (r.drop (k+1)):=by rw[cD hl,cD hr,fA,if_pos h]
theorem wT {l r:List UInt8} {k:Nat} (hl:k<l.length) (hr:k<r.length) (h:l[k]≠r[k]):fA (l.drop k) (r.drop k)=Lib.compareInt (iB l[k]) (iB r[k]):=by rw[cD hl,cD hr,fA,if_neg h]
theorem kQ (s:ByteArray) (k:Nat) (h:k<s.size):s[k]=(bl s)[k]'(by rw[<-bi]; exact h):=by exact(Array.getElem_toList (xs:=s.data) h).symm
theorem tY (c:UInt8):ny c.toNat=iB c:=by
 unfold ny iB
 by_cases h:c=47
 ·subst h; rfl
 ·rw[if_neg h,if_neg];intro e; apply h; apply gw.1; have:c.toNat=47:=by omega
  rw[this]; rfl
theorem CT (a b:ByteArray) (w:World) (ha:a.size<=9223372036854775807):
  Calls Tryz.prog 118 #[.string a, .string b] w fun e w'=>e= .returned (.int .i64 (fA (bl a) (bl b)))/\Below w.heap.size w w':=by
 go_enter Tryz.func118,Tryz.ntmps118
 go_wp2_with fail;obtain⟨m,hm⟩: ∃m:Nat,min (a.size:Int) (b.size:Int)=m:=⟨min a.size b.size,by omega⟩;have hl:m<=a.size:=by omega
 have hn:m<=b.size:=by omega
 have hf:m=a.size\/m=b.size:=by omega
 rw[hm];have HM:=ag hf;clear hm hf
 go_loopw [12] (fun i wr=> ∃k:Nat,k<=m/\i= .int .i64 k/\Below w.heap.size w wr/\fA (bl a) (bl b)=fA ((bl a).drop k) ((bl b).drop k)) (fun i _=>m-(intOf i).toNat)
 ·exact⟨0,aR _,rfl,ak _ _,rfl⟩
 ·obtain⟨k,hk,rfl,he,hc⟩:=hrel;have HC:=ag hc;have HB:=ag he;clear hc he
  by_cases hj:k<m
  ·have h1:(k:Int)<(a.size:Int):=by omega
   have h2:(k:Int)<(b.size:Int):=by omega
   have h3:k<a.size:=by omega
   have h4:k<b.size:=by omega
   by_cases hq:a[k]=b[k]
   ·have hh:(((a[k]).toNat:Int) != (b[k]).toNat)=false:=by simp[hq]
    have HQ:=ag hq;clear hq;go_wp2_with fail
    go_quiet (fail)
    go_wp2_with fail
    go_roundw
    ·refine⟨k+1,by omega,by go_num,gk HB.o nq, ?_⟩;rw[HC.o];refine CP (by rw[<-bi]; exact h3) (by rw[<-bi]; exact h4) ?_;rw[<-kQ,<-kQ]; exact HQ.o
    simp[intOf]; omega
   ·have hh:(((a[k]).toNat:Int) != (b[k]).toNat)=true:=by rw[bne_iff_ne]; intro e; apply hq; exact gw.1 (by omega)
    have HQ:=ag hq;clear hq;go_wp2_with fail
    go_quiet (fail)
    go_wp2_with fail;have hW: ∃W,W=wr.drewN nq/\Below w.heap.size w W:=⟨_,rfl,gk HB.o nq⟩;obtain⟨W,hd,hb⟩:=hW;rw[<-hd];have hg:=ag hb;clear hd hb HB;have ho:=(a[k]).toNat_lt;have hp:=(b[k]).toNat_lt
    go_quiet ((first | (go_at_call 150; refine lh (NL _ _ (by omega) (by omega))) | (go_at_call 151; refine lh (qP _ _ _))))
    go_wp2_with fail;go_ret;refine⟨dK ?_,gk hg.o _⟩;rw[tY,tY,HC.o,wT (by rw[<-bi]; exact h3) (by rw[<-bi]; exact h4) (by rw[<-kQ,<-kQ]; exact HQ.o),<-kQ,<-kQ]
  ·go_wp2_with (go_at_call 151; refine(qP _ _ _).mono ?_; rintro e w' ⟨rfl,rfl⟩);go_ret;refine⟨dK ?_,HB.o⟩;have hM:=HM.o;rw[HC.o,wj (by rw[<-bi]; omega) (by rw[<-bi]; omega) (by rw[<-bi,<-bi]; omega),<-bi,<-bi]
theorem Gc (s:ByteArray) (w:World) (he:nJ w) (hv:dH (bl s)=true):
  Calls Tryz.prog 72 #[.string s] w fun e w'=>e= .returned (.tuple #[.string ⟨(cu (bl s)).toArray⟩, .bool true])/\Below w.heap.size w w':=by
 have HV:=ag hv;have h5:s.size<=512:=by simp only[dH,aE,aG]at hv; rw[bi]; exact hv.1.1
 have hl:(cu (bl s)).length<=s.size:=by rw[tX,aW,bi]; omega
 clear hv
 go_enter Tryz.func72,Tryz.ntmps72
 go_wp2_with fail;refine(uY s w he).mono ?_;rintro e w1 ⟨rfl,ha⟩;rw[HV.o];have hb:=ag ha;clear ha;go_wp2_with fail;refine(yZ s w1 (by omega)).mono ?_;rintro e w2 ⟨rfl,rfl⟩;obtain⟨n,hn⟩:=bH ((cu (bl s)).length:Nat);have hc:max (nM (bl s)) 0=(n:Int):=by
  unfold nM
  split
  ·omega
  ·rename_i h; rw[hn,oh _ h]; rfl
 have hd:n<=s.size:=by omega
 have HN:=ag hn;clear hn hl;go_wp2_with fail
 go_ret2
 refine⟨?_,hb.o⟩;have e:s.extract 0 n=⟨(cu (bl s)).toArray⟩:=kF (by rw[pY,jQ (cu (bl s)),HN.o,bQ,<-tX]);rw[<-e]; rfl
def EN (data:List UInt8) (most:Nat) (s:RS):List UInt8×RS:=rv [] (kt data s.off most) s
def vV (data:List UInt8) (s:RS):Nat×RS:=rv 0 (oD data s.off) s
def smP (data:List UInt8) (s:RS):List UInt8×RS:=rv [] (kN data s.off 32) s
def Cs (data:List UInt8) (most:Nat) (s:RS):Nat×RS:=rv 0 (nr data s.off most) s
def oE (n:Nat):Int:=wrap64 (n:Int)
def ss (data:List UInt8) (s:RS):bY×RS:=
 (⟨⟨(smP data s).1.toArray⟩,oE (vV data (smP data s).2).1,oE (vV data (vV data (smP data s).2).2).1⟩,(vV data (vV data (smP data s).2).2).2)
theorem Ot (n:Nat):(Lit.int .i64 (oE n)).wf=true:=by exact wrap64_wf _
def lj (r:bY):Bool:=decide (r.name.size=32) && decide (0<=r.gen) && decide (r.gen<=1099511627776) && decide (0<=r.size) && decide (r.size<=32768)
theorem uk (r:bY) (w:World) (hr:dZ r):Calls Tryz.prog 77 #[eC r] w fun e w'=>e= .returned (.bool (lj r))/\Below w.heap.size w w':=by
 obtain⟨n,g,s⟩:=r;obtain⟨h1,h2,h3⟩:=hr;unfold maxLen at h1;simp only[eC,lj]at *
 go_enter Tryz.func77,Tryz.ntmps77
 go_wp2_with fail
 all_goals (go_ret; refine⟨cj ?_,eT⟩; rw[dy]; simp; omega)
theorem Rl (rb:Nat) (v:Value) (data:List UInt8) (s:RS) (w:World) (hr:tr w rb v data s):
  Calls Tryz.prog 113 #[.pointer (some ⟨rb,0,none⟩)] w fun e w'=> ∃bs s1,smP data s=(bs,s1)/\e= .returned (.string ⟨bs.toArray⟩)/\tr w' rb v data s1/\w.grownBy w' (some rb):=
 (Qb rb v data s w hr).mono fun _ _ ⟨h1,h2,h3⟩=>⟨_,_,rfl,h1,h2,h3⟩
theorem yE (rb:Nat) (v:Value) (data:List UInt8) (s:RS) (w:World) (hr:tr w rb v data s):
  Calls Tryz.prog 61 #[.pointer (some ⟨rb,0,none⟩)] w fun e w'=> ∃n s1,vV data s=(n,s1)/\e= .returned (.int .u64 (n:Int))/\tr w' rb v data s1/\w.grownBy w' (some rb):=
 (Oy rb v data s w hr).mono fun _ _ ⟨h1,h2,h3⟩=>⟨_,_,rfl,h1,h2,h3⟩
theorem Oq (rb:Nat) (v:Value) (data:List UInt8) (s:RS) (most:Nat) (w:World) (hr:tr w rb v data s) (hm:most<=2000000):
  Calls Tryz.prog 60 #[.pointer (some ⟨rb,0,none⟩), .int .i64 (most:Int)] w fun e w'=> ∃bs s1,EN data most s=(bs,s1)/\e= .returned (.string ⟨bs.toArray⟩)/\tr w' rb v data s1/\w.grownBy w' (some rb):=
 (Oo rb v data s most w hr hm).mono fun _ _ ⟨h1,h2,h3⟩=>⟨_,_,rfl,h1,h2,h3⟩
theorem Iu (rb:Nat) (v:Value) (data:List UInt8) (s:RS) (most:Nat) (w:World) (hr:tr w rb v data s) (hm:most<=2000000):
  Calls Tryz.prog 59 #[.pointer (some ⟨rb,0,none⟩), .int .i64 (most:Int)] w fun e w'=> ∃n s1,Cs data most s=(n,s1)/\e= .returned (.int .i64 (n:Int))/\tr w' rb v data s1/\w.grownBy w' (some rb):=
 (JS rb v data s most w hr hm).mono fun _ _ ⟨h1,h2,h3⟩=>⟨_,_,rfl,h1,h2,h3⟩
theorem mq {w w':World} {r b:Nat} {o:Obj} (hg:w.grownBy w' (some r)) (h:w.heap[b]? =some o) (hne:b≠r):w'.heap[b]? =some o:=
 (hg.block b ((aN.1 h).1) (by simpa using hne)).trans h
theorem mz {w:World} {b:Nat} {o:Obj} (h:w.heap[b]? =some o) (x:Obj):(w.alloc x).heap[b]? =some o:=by rw[cN _ _ _ ((aN.1 h).1)]; exact h
theorem jb {w:World} {b k:Nat} {cs:Array Value} {t:TypeId} (h:w.heap[b]? =some (.cells cs t (0,0))) (x:Value):(w.setCell ⟨b,k,none⟩ x).heap[b]? =some (.cells (cs.setIfInBounds k x) t (0,0)):=by simp only[World.setCell,gR,if_true,h,dE]; rfl
theorem Lk {w:World} {b c k:Nat} {o:Obj} (h:w.heap[b]? =some o) (hne:b≠c) (x:Value):(w.setCell ⟨c,k,none⟩ x).heap[b]? =some o:=by rw[az _ _ _ _ hne]; exact h
theorem Oc {w w':World} {r:Option Nat} (hg:w.grownBy w' r):w.heap.size<=w'.heap.size:=hg.size
theorem nL {w w':World} {r:Option Nat} {b:Nat} (h:w.grownBy w' r) (hb:w.heap.size<=b) {k:Nat} (x:Value):w.grownBy (w'.setCell ⟨b,k,none⟩ x) r:=
 ⟨h.os,h.tape,h.output,by have:=h.size; simpa [World.setCell]using this,fun i hi hn=>by rw[az _ _ _ _ (by show i≠b; omega)]; exact h.block i hi hn⟩
def Qp (data:List UInt8) (rb:Nat) (v:Value) (s:RS) (w:World) (e:Ending) (w':World):Prop:=
 ∃r s1,ss data s=(r,s1)/\e= .returned (eC r)/\tr w' rb v data s1/\w.grownBy w' (some rb)/\dZ r
theorem PZ (data:List UInt8) (s:RS):(smP data s).1.length<=32:=by
 unfold smP rv kN
 split
 ·split
  ·rename_i x o h
   split at h
   ·simp at h
   ·simp only[dj,cM]at h;obtain⟨rfl,rfl⟩:=h
    simp; omega
  ·simp
 ·simp
theorem Jd (data:List UInt8) (s:RS):dZ (ss data s).1:=⟨by
 have:=PZ data s
 show ByteArray.size ⟨_⟩<=_
 unfold maxLen;simp[ByteArray.size]; omega,Ot _,Ot _⟩
theorem vI (rb:Nat) (v:Value) (data:List UInt8) (s:RS) (w:World) (hr:tr w rb v data s):
  Calls Tryz.prog 62 #[.pointer (some ⟨rb,0,none⟩)] w (Qp data rb v s w):=by
 have HR:=ag hr;have hs:=dr.lt hr;clear hr
 go_enter Tryz.func62,Tryz.ntmps62
 go_wp2_with fail;refine(Rl rb v data s _ (dr.below HR.o (eT))).mono ?_;rintro e w1 ⟨bs,s1,hj,rfl,h1,h2⟩;have hn:=ag hj;have H1:=ag h1;have hz:=Oc h2;simp at hz;have HB:=ag (mq h2 (aC w _) (by omega));have HG:=ag (bW (gO (eT) (some rb)) h2);clear hj h1 h2;go_wp2_with fail;refine(yE rb v data s1 _ (dr.below H1.o (eT))).mono ?_
 rintro e w2 ⟨g,s2,hk,rfl,h1,h2⟩;have ho:=ag hk;have H2:=ag h1;have HX:=ag (mq h2 (aC w1 _) (by omega));have hd:=ag (mq h2 (mz HB.o _) (by omega));have hf:=ag (bW HG.o (bW (gO (eT) (some rb)) h2));have hq:=Oc h2;simp at hq;have k1:=bD (k:=1) HX.o;have f1:=dD (k:=1) HX.o;simp only[fV]at k1;clear hk h1 h2 HB HG H1
 go_wp2_with fail;obtain⟨w3,ha⟩:=bH (w2.setCell ⟨w1.heap.size,1,none⟩ (.int .i64 (wrap64 (g:Int))));rw[<-ha];have H3:=ag (show tr w3 rb v data s2 by rw[ha]; exact dr.setOther HR.o H2.o (by omega) _);have x3:=jb (k:=1) HX.o (.int .i64 (wrap64 (g:Int)));have y3:=Lk (k:=1) hd.o (show w.heap.size≠w1.heap.size by omega) (.int .i64 (wrap64 (g:Int)));rw[<-ha]at x3 y3
 simp only[aX,cG,cr]at x3;have hh:=ag x3;have he:=ag y3;clear x3 y3;have hg:=ag (show w.grownBy w3 (some rb) by rw[ha]; exact nL hf.o (by omega) _);have hu:w2.heap.size=w3.heap.size:=by rw[ha]; simp[World.setCell]
 clear ha k1 f1 HX hd hf H2;refine(yE rb v data s2 _ H3.o).mono ?_;rintro e w4 ⟨z,s3,hl,rfl,h1,h2⟩;have hp:=ag hl;have H4:=ag h1;have hv:=Oc h2;have hc:=ag (mq h2 hh.o (by omega));have hb:=ag (mq h2 he.o (by omega));have hm:=ag (bW hg.o h2);have k0:=bD (k:=0) hc.o;have k1:=bD (k:=1) hc.o;have k2:=bD (k:=2) hc.o;have f2:=dD (k:=2) hc.o
 have b0:=bD (k:=0) hb.o;have b1:=bD (k:=1) hb.o;have b2:=bD (k:=2) hb.o;obtain⟨g0,g1,g2,_⟩:=gT hb.o;simp at k0 k1 k2 b0 b1 b2;clear hl h1 h2 hh he hg H3;go_wp2_with fail;have e1:ss data s=(⟨⟨bs.toArray⟩,wrap64 (g:Int),wrap64 (z:Int)⟩,s3):=by simp only[ss,hn.o,ho.o,hp.o,oE]
 refine cS (v:=eC ⟨⟨bs.toArray⟩,wrap64 (g:Int),wrap64 (z:Int)⟩) (by simp[results,Tryz.results62,go_sem,eC,b0,b1,b2]) rfl ⟨_,_,e1,rfl, ?_, ?_, ?_⟩
 ·exact dr.setOther HR.o (dr.setOther HR.o (dr.setOther HR.o (dr.setOther HR.o H4.o (by omega) _) (by omega) _) (by omega) _) (by omega) _
 ·exact nL (nL (nL (nL hm.o (by omega) _) (by omega) _) (by omega) _) (by omega) _
 ·have:=Jd data s;rw[e1]at this; exact this
def nt (l:List bY):Int:=l.foldl (fun a r=>wrap64 (a+r.size)) 0
theorem Bi (l:List bY) (r:bY):nt (l++[r])=wrap64 (nt l+r.size):=by unfold nt; rw[dW]; rfl
theorem dC {α:Type} {l:List α} {k:Nat} {x:α} (h:l[k]? =some x):l.take (k+1)=l.take k++[x]:=by obtain⟨hk,rfl⟩:=aA.1 h;exact List.take_succ_eq_append_getElem hk
theorem lY {S:Nat->Prop} {w w':World} {a:Option Addr} {n cap:Nat} {rs:List bY} (hv:dJ S w (.slice a n cap) rs) (hb:Below w.heap.size w w') {k:Nat} {r:bY} (hr:rs[k]? =some r):
  ∃b o,a=some ⟨b,o,none⟩/\dZ r/\w'.cell? ⟨b,o+k*3,none⟩=some (.string r.name)/\w'.cell? ⟨b,o+k*3+1,none⟩=some (.int .i64 r.gen)/\w'.cell? ⟨b,o+k*3+2,none⟩=some (.int .i64 r.size):=by
 obtain⟨a',cap',hd,_,_,hx⟩:=cU.shape hv pA.len
 cases hd
 obtain⟨b,o,c,rfl,_,⟨rfl,hc⟩,_,ha⟩:=hx k r hr;have q0:=ha 0 (by omega);have q1:=ha 1 (by omega);have q2:=ha 2 (by omega);simp only[jt,aD,cI,dh,<-dp]at q0 q1 q2;exact⟨b,o,rfl,hc,(hb.cell (cR q0)).trans q0,(hb.cell (cR q1)).trans q1,(hb.cell (cR q2)).trans q2⟩
theorem uU (S:Nat->Prop) (v:Value) (rs:List bY) (w:World) (hv:dJ S w v rs):Calls Tryz.prog 63 #[v] w fun e w'=>e= .returned (.int .i64 (nt rs))/\Below w.heap.size w w':=by
 obtain⟨a,cap,rfl,hc,hm,-⟩:=cU.shape hv pA.len;unfold maxLen at hm;have HV:=ag hv;clear hv
 go_enter Tryz.func63,Tryz.ntmps63
 go_wp2_with fail
 go_loopw [3,5,8] (fun sm p i wr=> ∃k:Nat,k<=rs.length/\i= .int .i64 k/\sm= .int .i64 (nt (rs.take k))/\Below w.heap.size w wr) (fun _ _ i _=>rs.length-(intOf i).toNat)
 ·exact⟨0,aR _,rfl,rfl,ak _ _⟩
 ·obtain⟨k,hk,rfl,rfl,hb⟩:=hrel;have HB:=ag hb;clear hb
  by_cases ha:k<rs.length
  ·obtain⟨r,hr⟩: ∃r,rs[k]? =some r:=⟨rs[k],by simp[ha]⟩;obtain⟨b,o,rfl,-,q0,q1,q2⟩:=lY HV.o HB.o hr;have HS:=ag (show nt (rs.take (k+1))=wrap64 (nt (rs.take k)+r.size) by rw[dC hr,Bi]);clear hr;go_wp2_with fail
   go_roundw
   ·exact⟨k+1,by omega,by go_num,by rw[HS.o],HB.o.alloc HB.o.size _⟩
   simp[intOf]; omega
  ·go_wp2_with fail;go_ret;exact⟨dK (by rw[bo (by omega)]),HB.o⟩
structure ci where
 name:ByteArray
 kind:Int
 mode:Int
 time:Int
 size:Int
 link:ByteArray
 chunks:List bY
 node:bY
deriving DecidableEq
def fu (cv:Value) (it:ci):List Value:=[.string it.name, .int .i64 it.kind, .int .i64 it.mode, .int .i64 it.time, .int .i64 it.size, .string it.link,cv, .string it.node.name, .int .i64 it.node.gen, .int .i64 it.node.size]
def sC (cv:Value) (it:ci):Value:= .agg #[.string it.name, .int .i64 it.kind, .int .i64 it.mode, .int .i64 it.time, .int .i64 it.size, .string it.link,cv, .string it.node.name, .int .i64 it.node.gen, .int .i64 it.node.size]
def rz (r:bY):Bool:=lj r && decide (1<=r.size)
def lC (it:ci):Bool:=it.chunks.all rz && (decide (it.size=nt it.chunks) && decide (it.size<=1048576))
theorem iD (r:bY) (b:Bool) (w:World) (hr:dZ r) (h:lj r=b):Calls Tryz.prog 77 #[eC r] w fun e w'=>e= .returned (.bool b)/\Below w.heap.size w w':=by rw[<-h]; exact uk r w hr
theorem Mi {α:Type} {p:α->Bool} {l:List α} {k:Nat} {x:α} (h:(l.take k).all p=true) (hx:l[k]? =some x) (hp:p x=true):(l.take (k+1)).all p=true:=by rw[dC hx,List.all_append,h]; simp[hp]
theorem Mh {α:Type} {p:α->Bool} {l:List α} {k:Nat} {x:α} (hx:l[k]? =some x) (hp:p x=false):l.all p=false:=by rw[List.all_eq_false];exact⟨x,aM hx,by rw[hp]; simp⟩
theorem vW (S:Nat->Prop) (it:ci) (cv:Value) (w:World) (hcv:dJ S w cv it.chunks):Calls Tryz.prog 135 #[sC cv it] w fun e w'=>e= .returned (.bool (lC it))/\Below w.heap.size w w':=by
 obtain⟨a,cap,rfl,hc,hm,-⟩:=cU.shape hcv pA.len;unfold maxLen at hm;unfold sC
 go_enter Tryz.func135,Tryz.ntmps135
 go_wp2_with fail;obtain⟨W,hW⟩:=bH (w.alloc (.cells #[.string it.name, .int .i64 it.kind, .int .i64 it.mode, .int .i64 it.time, .int .i64 it.size, .string it.link, .slice a it.chunks.length cap, .string it.node.name, .int .i64 it.node.gen, .int .i64 it.node.size] 28));rw[<-hW];have hq:=ag (show Below w.heap.size w W by rw[hW]; exact eT);have hy:=ag (show W.heap[w.heap.size]? =some (.cells #[.string it.name, .int .i64 it.kind, .int .i64 it.mode, .int .i64 it.time, .int .i64 it.size, .string it.link, .slice a it.chunks.length cap, .string it.node.name, .int .i64 it.node.gen, .int .i64 it.node.size] 28 (0,0)) by rw[hW]; exact aC w _)
 have hx:W.heap.size=w.heap.size+1:=by rw[hW]; simp
 have hu:=ag hx;have HV:=ag (show dJ S W (.slice a it.chunks.length cap) it.chunks from cU.below hcv (by omega) hq.o (fun _ _ _ h=>h));clear hW hcv hx
 go_loopw [4,8] (fun p i wr=> ∃k:Nat,k<=it.chunks.length/\i= .int .i64 k/\(it.chunks.take k).all rz=true/\Below W.heap.size W wr) (fun _ i _=>it.chunks.length-(intOf i).toNat)
 ·exact⟨0,aR _,rfl,rfl,ak _ _⟩
 ·obtain⟨k,hk,rfl,hv,hb⟩:=hrel;have HB:=ag hb;have HA:=ag hv;clear hb hv
  by_cases hA:k<it.chunks.length
  ·obtain⟨r,hr⟩: ∃r,it.chunks[k]? =some r:=⟨it.chunks[k],by simp[hA]⟩;obtain⟨b,o,rfl,hw,q0,q1,q2⟩:=lY HV.o HB.o hr;have HR:=ag hr;have HO:=ag hw;clear hr hw
   cases hn:lj r
   ·have HF:=ag (show lC it=false by unfold lC; rw[Mh HR.o (by simp[rz,hn])]; rfl);have hf:=ag hn;clear hn;go_wp2_with (go_at_call 77; refine(iD r false _ HO.o hf.o).mono ?_; rintro e w1 ⟨rfl,ha⟩; have hd:=ag (aj ((HB.o).alloc HB.o.size _) ha); clear ha);go_ret;exact⟨cj (by rw[HF.o]),hq.o.trans (hd.o.mono (by have:=hu.o; omega))⟩
   ·have hf:=ag hn;clear hn
    by_cases hs:r.size<1
    ·have HF:=ag (show lC it=false by unfold lC; rw[Mh HR.o (by simp[rz,hf.o]; omega)]; rfl);go_wp2_with (go_at_call 77; refine(iD r true _ HO.o hf.o).mono ?_; rintro e w1 ⟨rfl,ha⟩; have d2:w1.cell? ⟨wr.heap.size,2,none⟩=some (.int .i64 r.size):=(ha.cell (p:=⟨wr.heap.size,2,none⟩) (by simp)).trans (bD (aC wr _)); have hd:=ag (aj ((HB.o).alloc HB.o.size _) ha); clear ha)
     go_ret;exact⟨cj (by rw[HF.o]),hq.o.trans (hd.o.mono (by have:=hu.o; omega))⟩
    ·go_wp2_with (go_at_call 77; refine(iD r true _ HO.o hf.o).mono ?_; rintro e w1 ⟨rfl,ha⟩; have d2:w1.cell? ⟨wr.heap.size,2,none⟩=some (.int .i64 r.size):=(ha.cell (p:=⟨wr.heap.size,2,none⟩) (by simp)).trans (bD (aC wr _)); have hd:=ag (aj ((HB.o).alloc HB.o.size _) ha); clear ha)
     go_roundw
     ·exact⟨k+1,by omega,by go_num,Mi HA.o HR.o (by simp[rz,hf.o]; omega),hd.o⟩
     simp[intOf]; omega
  ·have hl:it.chunks.all rz=true:=by
    have:=HA.o
    rwa [bo (by omega)]at this
   have hg:=ag hl;have hh:=ag ((HB.o.block w.heap.size (by have:=hu.o; omega)).trans hy.o);have c4:=bD (k:=4) hh.o;have c6:=bD (k:=6) hh.o;simp only[fV]at c4 c6;have hz:=ag (show dJ S wr (.slice a it.chunks.length cap) it.chunks from cU.below HV.o (by omega) HB.o (fun _ _ _ h=>h));clear hl;go_wp2_with fail;refine eV (fun w'=>w'.cell? ⟨w.heap.size,4,none⟩=some (.int .i64 it.size)/\w'.cell? ⟨w.heap.size,6,none⟩=some (.slice a it.chunks.length cap)) (by kernel_rfl) ?_
   iterate 4 (refine cF rfl (by go_simp) (by rintro w' ⟨ho,hp⟩; go_simp; rfl) ?_; simp only[bM])
   refine cA 4 rfl (fun K hK=> ?_);go_wp2_with (go_at_call 63; refine(uU S _ it.chunks _ (cU.below hz.o (by omega) ((ak _ _).drew) (fun _ _ _ h=>h))).mono ?_; rintro e w1 ⟨rfl,ha⟩; have hd:=ag ha; clear ha);have d4:w1.cell? ⟨w.heap.size,4,none⟩=some (.int .i64 it.size):=(hd.o.cell (p:=⟨w.heap.size,4,none⟩) (cR (a:=⟨w.heap.size,4,none⟩) c4)).trans c4
   have d6:w1.cell? ⟨w.heap.size,6,none⟩=some (.slice a it.chunks.length cap):=(hd.o.cell (p:=⟨w.heap.size,6,none⟩) (cR (a:=⟨w.heap.size,6,none⟩) c6)).trans c6;refine⟨⟨d4,d6⟩, ?_⟩;have hj:=ag (show Below w.heap.size w w1 from hq.o.trans ((aj HB.o (((ak _ _).drew).trans hd.o)).mono (by have:=hu.o; omega)))
   by_cases he:it.size=nt it.chunks
   ·have e1:(it.size == nt it.chunks)=true:=by simp[he]
    iterate 7 (refine cF rfl (by go_simp) (by rintro w' ⟨ho,hp⟩; go_simp; rfl) ?_; simp only[bM])
    refine cH (by kernel_rfl) ?_;have HE:=ag he;clear he;go_wp2_with fail;go_ret;refine⟨cj ?_,hj.o⟩;unfold lC;rw[hg.o]; simp[HE.o]
   ·have e1:(it.size == nt it.chunks)=false:=by simp[he]
    refine dx 5 rfl (by go_simp) (by rintro w' ⟨ho,hp⟩; go_simp; rfl) ?_;simp only[bM];refine dx 6 rfl (by go_simp) (by rintro w' ⟨ho,hp⟩; go_simp; rfl) ?_;simp only[bM];refine IE 7 rfl (by go_simp) ?_;simp only[bM];refine IE 8 rfl (by go_simp) ?_;simp only[bM];refine IE 9 rfl (by go_simp) ?_;simp only[bM];refine dx 10 rfl (by go_simp) (by rintro w' ⟨ho,hp⟩; go_simp; rfl) ?_
    simp only[bM];refine dx 11 rfl (by go_simp) (by rintro w' ⟨ho,hp⟩; go_simp; rfl) ?_;simp only[bM];refine cH (by kernel_rfl) ?_;have HE:=ag he;clear he;go_wp2_with fail;go_ret;refine⟨cj ?_,hj.o⟩;unfold lC;rw[hg.o]; simp[HE.o]
def eL :bY:=⟨⟨#[]⟩,0,0⟩
def uj (it:ci):Bool:=(dH (bl it.name) && !(bl it.name).contains 47) && (decide (0<=it.mode) && decide (it.mode<=511) && decide (0<=it.time))
def kX (it:ci):Bool:=
 if it.kind=1 then decide (it.link.size=0) && decide (it.node=eL) && lC it
 else if it.kind=2 then decide (it.link.size=0) && decide (it.size=0) && decide (it.chunks.length=0) && lj it.node
 else if it.kind=3 then(decide (it.size=0) && decide (it.chunks.length=0) && decide (it.node=eL)) && (decide (1<=it.link.size) && decide (it.link.size<=512) && !(bl it.link).contains 0)
 else false
def jA (it:ci):Bool:=uj it && kX it
structure iI (it : ci) : Prop where
 nm:it.name.size<=maxLen
 lk:it.link.size<=maxLen
 nd:dZ it.node
theorem nf (s:ByteArray) (b:Bool) (w:World) (he:nJ w) (h:dH (bl s)=b):Calls Tryz.prog 119 #[.string s] w fun e w'=>e= .returned (.bool b)/\Below w.heap.size w w':=by rw[<-h]; exact uY s w he
theorem qQ (s:ByteArray) (b:Bool) (w:World) (h:(bl s).contains 47=b):Calls Tryz.prog 134 #[.string s, .string ⟨#[47]⟩] w fun e w'=>e= .returned (.bool b)/\w=w':=by rw[<-h]; exact tI s 47 w
theorem yW (s:ByteArray) (w:World):Calls Tryz.prog 136 #[.string s, .int .u8 0] w fun e w'=>e= .returned (.int .i64 (Lib.indexByte (bl s) 0))/\w=w':=
 (Tryz.strings_IndexByte s 0 w).mono fun _ _ ⟨he,hw⟩=>⟨he,hw.symm⟩
theorem zr (S:Nat->Prop) (it:ci) (cv:Value) (w:World) (hcv:dJ S w cv it.chunks) (hok:iI it) (henv:nJ w):Calls Tryz.prog 96 #[sC cv it] w fun e w'=>e= .returned (.bool (jA it))/\Below w.heap.size w w':=by
 obtain⟨a,cap,rfl,hc,hm,-⟩:=cU.shape hcv pA.len;unfold maxLen at hm;have HV:=ag hcv;have HO:=ag hok;have HE:=ag henv;have hF:=hok.nm;have hG:=hok.lk;unfold maxLen at hF hG;have hH: ∀w,(Op.equalIn 10000 26 (.agg #[.string it.node.name, .int .i64 it.node.gen, .int .i64 it.node.size]) (.agg #[.string ⟨#[]⟩, .int .i64 0, .int .i64 0])).run Tryz.prog w= .ok (decide (it.node=eL)) w:=fun w=>Qg it.node eL w
 have HL:=ag (show it.link.toList=[]<->it.link.size=0 by rw[fF,bi]; simp);clear hcv hok henv;unfold sC
 cases hv:dH (bl it.name)
 ·have ho:=ag hv;clear hv
  go_enter Tryz.func96,Tryz.ntmps96
  go_wp2_with fail;obtain⟨W,hW⟩:=bH (w.alloc (.cells #[.string it.name, .int .i64 it.kind, .int .i64 it.mode, .int .i64 it.time, .int .i64 it.size, .string it.link, .slice a it.chunks.length cap, .string it.node.name, .int .i64 it.node.gen, .int .i64 it.node.size] 28));rw[<-hW];have hf:=ag (show Below w.heap.size w W by rw[hW]; exact eT);have he:=ag (show W.heap[w.heap.size]? =some (.cells #[.string it.name, .int .i64 it.kind, .int .i64 it.mode, .int .i64 it.time, .int .i64 it.size, .string it.link, .slice a it.chunks.length cap, .string it.node.name, .int .i64 it.node.gen, .int .i64 it.node.size] 28 (0,0)) by rw[hW]; exact aC w _)
  clear hW;refine(nf it.name false _ (HE.o.below hf.o) ho.o).mono ?_;rintro e w1 ⟨rfl,hd⟩;have ha:=ag (aj hf.o hd);clear hd;go_wp2_with fail;go_ret;exact⟨cj (by simp[jA,uj,ho.o]),ha.o⟩
 ·have ho:=ag hv;clear hv
  cases hw:(bl it.name).contains 47
  ·have hp:=ag hw;clear hw
   by_cases hx:0<=it.mode/\it.mode<=511/\0<=it.time
   ·have HH:=ag (show jA it=kX it by obtain⟨x1,x2,x3⟩:=hx; unfold jA uj; rw[ho.o,hp.o]; simp[x1,x2,x3]);obtain⟨hI,hJ,hL⟩:=hx
    go_enter Tryz.func96,Tryz.ntmps96
    go_wp2_with fail;obtain⟨W,hW⟩:=bH (w.alloc (.cells #[.string it.name, .int .i64 it.kind, .int .i64 it.mode, .int .i64 it.time, .int .i64 it.size, .string it.link, .slice a it.chunks.length cap, .string it.node.name, .int .i64 it.node.gen, .int .i64 it.node.size] 28));rw[<-hW];have hf:=ag (show Below w.heap.size w W by rw[hW]; exact eT);have he:=ag (show W.heap[w.heap.size]? =some (.cells #[.string it.name, .int .i64 it.kind, .int .i64 it.mode, .int .i64 it.time, .int .i64 it.size, .string it.link, .slice a it.chunks.length cap, .string it.node.name, .int .i64 it.node.gen, .int .i64 it.node.size] 28 (0,0)) by rw[hW]; exact aC w _)
    clear hW;refine(nf it.name true _ (HE.o.below hf.o) ho.o).mono ?_;rintro e w1 ⟨rfl,hd⟩;have hb:=ag ((hd.block w.heap.size ((aN.1 he.o).1)).trans he.o);have ha:=ag (aj hf.o hd);have hu:w.heap.size<w1.heap.size:=(aN.1 hb.o).1;obtain⟨c0,c1,c2,c3,c4,c5,c6,c7,c8,c9,_⟩:=aT hb.o;clear hd he
    go_wp2_with fail;refine(qQ it.name false _ hp.o).mono ?_;rintro e w2 ⟨rfl,rfl⟩
    by_cases hg:it.kind=1
    ·have e1:(it.kind == 1)=true:=by simp[hg]
     have HK:=ag (show kX it=(decide (it.link.size=0) && decide (it.node=eL) && lC it) by unfold kX; rw[if_pos hg]);clear hg;have hB:=ag (show dJ S (w1.alloc (.cells #[.string ⟨#[]⟩, .int .i64 0, .int .i64 0] 26)) (.slice a it.chunks.length cap) it.chunks from cU.below HV.o (by omega) (ha.o.alloc ha.o.size _) (fun _ _ _ h=>h));go_wp2_with fail
     ·have hz:=vW S ⟨it.name,it.kind,it.mode,it.time,it.size,it.link,it.chunks,eL⟩ (.slice a it.chunks.length cap) _ hB.o;simp only[sC,lC]at hz;refine hz.mono ?_;rintro e w3 ⟨rfl,hr⟩;have hy:=ag (aj (ha.o.alloc ha.o.size _) hr);have hl:it.link.size=0:=HL.o.1 (by assumption);have hn:it.node=eL:=by assumption
      have hj:=ag (aB hl hn);clear hr hl hn;go_wp2_with fail;go_ret;exact⟨cj (by rw[HH.o,HK.o]; simp[hj.o.1,hj.o.2]; rfl),hy.o⟩
     all_goals (
      go_ret;refine⟨cj ?_,ha.o.alloc ha.o.size _⟩;rw[HH.o,HK.o];refine(fw.2 fun hh=> ?_).symm;simp only[aE,aG]at hh;obtain⟨⟨x1,x2⟩,x3⟩:=hh
      first | exact absurd x2 (by assumption) | exact absurd (HL.o.2 x1) (by assumption))
    ·have e1:(it.kind == 1)=false:=by simp[hg]
     by_cases hk:it.kind=2
     ·have e2:(it.kind == 2)=true:=by simp[hk]
      have HK:=ag (show kX it=(decide (it.link.size=0) && decide (it.size=0) && decide (it.chunks.length=0) && lj it.node) by unfold kX; rw[if_neg hg,if_pos hk]);clear hg hk;go_wp2_with fail
      ·refine(uk it.node _ HO.o.nd).mono ?_;rintro e w3 ⟨rfl,hr⟩;have hy:=ag (aj (ha.o.alloc ha.o.size _) hr);have hl:it.link.size=0:=HL.o.1 (by assumption);have hs:it.size=0:=by assumption
       have hn:it.chunks=[]:=by assumption
       have hj:=ag (aB hl (aB hs hn));clear hr hl hn hs;go_wp2_with fail;go_ret;exact⟨cj (by rw[HH.o,HK.o]; simp[hj.o.1,hj.o.2.1,hj.o.2.2]),hy.o⟩
      all_goals (
       go_ret;refine⟨cj ?_,ha.o.alloc ha.o.size _⟩;rw[HH.o,HK.o];refine(fw.2 fun hh=> ?_).symm;simp only[aE,aG]at hh;obtain⟨⟨⟨x1,x2⟩,x3⟩,x4⟩:=hh
       first | exact absurd (bq x3) (by assumption) | exact absurd x2 (by assumption) | exact absurd (HL.o.2 x1) (by assumption))
     ·have e2:(it.kind == 2)=false:=by simp[hk]
      by_cases hq:it.kind=3
      ·have e3:(it.kind == 3)=true:=by simp[hq]
       have HK:=ag (show kX it=((decide (it.size=0) && decide (it.chunks.length=0) && decide (it.node=eL)) && (decide (1<=it.link.size) && decide (it.link.size<=512) && !(bl it.link).contains 0)) by unfold kX; rw[if_neg hg,if_neg hk,if_pos hq]);clear hg hk hq;go_wp2_with fail
       any_goals (
        go_ret;refine⟨cj ?_,ha.o.alloc ha.o.size _⟩;rw[HH.o,HK.o];refine(fw.2 fun hh=> ?_).symm;simp only[aE,aG]at hh;obtain⟨⟨⟨x1,x2⟩,x3⟩,⟨x4,x5⟩,x6⟩:=hh
        first
         | exact absurd x1 (by assumption)
         | exact absurd (bq x2) (by assumption)
         | (exfalso; have hn:(!decide (it.node=eL))=true:=(by assumption); simp[x3]at hn)
         | omega)
       refine(yW it.link _).mono ?_;rintro e w3 ⟨rfl,rfl⟩;have hs:it.size=0:=by assumption
       have hC:it.chunks=[]:=by assumption
       have hn:(!decide (it.node=eL))=false:=by assumption
       have hD:1<=(it.link.size:Int):=by assumption
       have hE:(it.link.size:Int)<=512:=by assumption
       have hj:=ag (aB hs (aB hC (aB hn (aB hD hE))));go_wp2_with fail;go_ret;refine⟨cj ?_,ha.o.alloc ha.o.size _⟩;obtain⟨y1,y2,y3,y4,y5⟩:=hj.o;have y6:it.node=eL:=by simpa using y3
       rw[HH.o,HK.o,<-lF];have z1:decide (1<=it.link.size)=true:=by simp; omega
       have z2:decide (it.link.size<=512)=true:=by simp; omega
       rw[z1,z2];simp[y1,y2,y6];rw[dy]; simp
      ·have e3:(it.kind == 3)=false:=by simp[hq]
       have HK:=ag (show kX it=false by unfold kX; rw[if_neg hg,if_neg hk,if_neg hq]);clear hg hk hq;go_wp2_with fail;go_ret;exact⟨cj (by rw[HH.o,HK.o]),ha.o.alloc ha.o.size _⟩
   ·have HF:=ag (show jA it=false by
     have:(decide (0<=it.mode) && decide (it.mode<=511) && decide (0<=it.time))=false:=by rw[fw]; simp; omega
     unfold jA uj; rw[this]; simp)
    go_enter Tryz.func96,Tryz.ntmps96
    go_wp2_with fail;obtain⟨W,hW⟩:=bH (w.alloc (.cells #[.string it.name, .int .i64 it.kind, .int .i64 it.mode, .int .i64 it.time, .int .i64 it.size, .string it.link, .slice a it.chunks.length cap, .string it.node.name, .int .i64 it.node.gen, .int .i64 it.node.size] 28));rw[<-hW];have hf:=ag (show Below w.heap.size w W by rw[hW]; exact eT);have he:=ag (show W.heap[w.heap.size]? =some (.cells #[.string it.name, .int .i64 it.kind, .int .i64 it.mode, .int .i64 it.time, .int .i64 it.size, .string it.link, .slice a it.chunks.length cap, .string it.node.name, .int .i64 it.node.gen, .int .i64 it.node.size] 28 (0,0)) by rw[hW]; exact aC w _)
    clear hW;refine(nf it.name true _ (HE.o.below hf.o) ho.o).mono ?_;rintro e w1 ⟨rfl,hd⟩;have hb:=ag ((hd.block w.heap.size ((aN.1 he.o).1)).trans he.o);have ha:=ag (aj hf.o hd);have hu:w.heap.size<w1.heap.size:=(aN.1 hb.o).1;obtain⟨c0,c1,c2,c3,c4,c5,c6,c7,c8,c9,_⟩:=aT hb.o;clear hd he
    go_wp2_with fail;refine(qQ it.name false _ hp.o).mono ?_;rintro e w2 ⟨rfl,rfl⟩;have hA:=ag hx;clear hx
    rcases Int.lt_or_le it.mode 0 with h1 | h1
    ·go_wp2_with fail;go_ret;exact⟨cj (by rw[HF.o]),ha.o⟩
    ·rcases Int.lt_or_le 511 it.mode with h2 | h2
     ·go_wp2_with fail;go_ret;exact⟨cj (by rw[HF.o]),ha.o⟩
     ·have h3:it.time<0:=by have:=hA.o; omega
      go_wp2_with fail;go_ret;exact⟨cj (by rw[HF.o]),ha.o⟩
  ·have hp:=ag hw;clear hw
   go_enter Tryz.func96,Tryz.ntmps96
   go_wp2_with fail;obtain⟨W,hW⟩:=bH (w.alloc (.cells #[.string it.name, .int .i64 it.kind, .int .i64 it.mode, .int .i64 it.time, .int .i64 it.size, .string it.link, .slice a it.chunks.length cap, .string it.node.name, .int .i64 it.node.gen, .int .i64 it.node.size] 28));rw[<-hW];have hf:=ag (show Below w.heap.size w W by rw[hW]; exact eT);have he:=ag (show W.heap[w.heap.size]? =some (.cells #[.string it.name, .int .i64 it.kind, .int .i64 it.mode, .int .i64 it.time, .int .i64 it.size, .string it.link, .slice a it.chunks.length cap, .string it.node.name, .int .i64 it.node.gen, .int .i64 it.node.size] 28 (0,0)) by rw[hW]; exact aC w _)
   clear hW;refine(nf it.name true _ (HE.o.below hf.o) ho.o).mono ?_;rintro e w1 ⟨rfl,hd⟩;have hb:=ag ((hd.block w.heap.size ((aN.1 he.o).1)).trans he.o);have ha:=ag (aj hf.o hd);have hu:w.heap.size<w1.heap.size:=(aN.1 hb.o).1;obtain⟨c0,c1,c2,c3,c4,c5,c6,c7,c8,c9,_⟩:=aT hb.o;clear hd he
   go_wp2_with fail;refine(qQ it.name true _ hp.o).mono ?_;rintro e w2 ⟨rfl,rfl⟩;go_wp2_with fail;go_ret;exact⟨cj (by unfold jA uj; rw[hp.o]; simp),ha.o⟩
def lm (S:Nat->Prop) (w:World) (c:List Value) (it:ci):Prop:= ∃cv,c=fu cv it/\dJ S w cv it.chunks/\iI it
theorem lm.len {S:Nat->Prop} {w:World} (c:List Value) (it:ci) (h:lm S w c it):c.length=10:=by obtain⟨cv,rfl,_⟩:=h; rfl
def eO (S:Nat->Prop) (w:World) (v:Value) (l:List ci):Prop:=cU S w 10 (lm S w) v l
theorem eO.below {S:Nat->Prop} {w w':World} {v:Value} {l:List ci} (h:eO S w v l) (hb:Below w.heap.size w w'):eO S w' v l:=
 cU.below h (by omega) hb (fun c x _ ⟨cv,h1,h2,h3⟩=>⟨cv,h1,cU.below h2 (by omega) hb (fun _ _ _ h=>h),h3⟩)
theorem lR {S:Nat->Prop} {w w':World} {a:Option Addr} {n cap:Nat} {l:List ci} (hv:eO S w (.slice a n cap) l) (hb:Below w.heap.size w w') {k:Nat} {it:ci} (hr:l[k]? =some it):
  ∃b o ca cc,a=some ⟨b,o,none⟩/\iI it/\dJ S w' (.slice ca it.chunks.length cc) it.chunks/\b<w.heap.size/\S b/\ ∀j,j<10->w'.cell? ⟨b,o+k*10+j,none⟩=(fu (.slice ca it.chunks.length cc) it)[j]? :=by
 obtain⟨a',cap',hf,_,_,hx⟩:=cU.shape hv lm.len
 cases hf
 obtain⟨b,o,c,rfl,hS,⟨cv,rfl,hd,he⟩,_,ha⟩:=hx k it hr;have q0:=ha 0 (by omega);have hc:b<w.heap.size:=cR (a:=⟨b,o+(k*10+0),none⟩) (v:= .string it.name) q0;obtain⟨ca,cc,rfl,_,_,_⟩:=cU.shape hd pA.len;refine⟨b,o,ca,cc,rfl,he,cU.below hd (by omega) hb (fun _ _ _ h=>h),hc,hS,fun j hj=> ?_⟩;rw[dp];exact(hb.cell (p:=⟨b,o+(k*10+j),none⟩) hc).trans (ha j hj)
def PA (a b:ByteArray):Bool:=Op.bytesLess a.toList b.toList
def qm (p:Option ByteArray) (n:ByteArray):Bool:=match p with
 | none=>true
 | some q=>PA q n
def ke :Option ByteArray->List ci->Bool
 | _,[]=>true
 | p,it::r=>jA it && qm p it.name && ke (some it.name) r
def jL (l:List ci):Bool:=decide (l.length<=4096) && ke none l
def qH (l:List ci) (k:Nat):Option ByteArray:=match k with
 | 0=>none
 | k+1=>l[k]?.map ci.name
theorem KM {l:List ci} {k:Nat} {it:ci} (hk:1<=k) (h:l[k-1]? =some it):qH l k=some it.name:=by
 cases k with
 | zero=>omega
 | succ k=>
  simp only[jC]at h;simp[qH,h]
theorem pf {l:List ci} {k:Nat} {it:ci} (h:l[k]? =some it):ke (qH l k) (l.drop k)=(jA it && qm (qH l k) it.name && ke (qH l (k+1)) (l.drop (k+1))):=by
 obtain⟨hk,rfl⟩:=aA.1 h;rw[cD hk]
 show(jA l[k] && qm (qH l k) l[k].name && ke (some l[k].name) _)=_
 simp[qH,hk]
theorem nH (S:Nat->Prop) (it:ci) (cv:Value) (b:Bool) (w:World) (hcv:dJ S w cv it.chunks) (hok:iI it) (henv:nJ w) (h:jA it=b):Calls Tryz.prog 96 #[sC cv it] w fun e w'=>e= .returned (.bool b)/\Below w.heap.size w w':=by rw[<-h]; exact zr S it cv w hcv hok henv
theorem zu (S:Nat->Prop) (l:List ci) (v:Value) (w:World) (hv:eO S w v l) (henv:nJ w):Calls Tryz.prog 47 #[v] w fun e w'=>e= .returned (.bool (jL l))/\Below w.heap.size w w':=by
 obtain⟨a,cap,rfl,hc,hm,-⟩:=cU.shape hv lm.len;unfold maxLen at hm;have HV:=ag hv;have HE:=ag henv;clear hv henv
 by_cases hA:4096<l.length
 ·have HF:=ag (show jL l=false by
   unfold jL;have:decide (l.length<=4096)=false:=by simp; omega
   rw[this]; rfl)
  go_enter Tryz.func47,Tryz.ntmps47
  go_wp2_with fail;go_ret;exact⟨cj (by rw[HF.o]),ak _ _⟩
 ·have HN:=ag (show jL l=ke none l by
   unfold jL;have:decide (l.length<=4096)=true:=by simp; omega
   rw[this]; rfl)
  go_enter Tryz.func47,Tryz.ntmps47
  go_wp2_with fail
  go_loopw [3,4,10] (fun x p i wr=> ∃k:Nat,k<=l.length/\i= .int .i64 k/\ke none l=ke (qH l k) (l.drop k)/\Below w.heap.size w wr) (fun _ _ i _=>l.length-(intOf i).toNat)
  ·exact⟨0,aR _,rfl,rfl,ak _ _⟩
  ·obtain⟨k,hk,rfl,hx,hb⟩:=hrel;have HB:=ag hb;have HA:=ag hx;clear hb hx
   by_cases hB:k<l.length
   ·obtain⟨it,hr⟩: ∃it,l[k]? =some it:=⟨l[k],by simp[hB]⟩;obtain⟨b,o,ca,cc,rfl,hy,hz,hG,-,hf⟩:=lR HV.o HB.o hr;have HR:=ag hr;have HO:=ag hy;have ho:=ag hz;have q0:=hf 0 (by omega);have q1:=hf 1 (by omega);have q2:=hf 2 (by omega);have q3:=hf 3 (by omega);have q4:=hf 4 (by omega);have q5:=hf 5 (by omega);have q6:=hf 6 (by omega);have q7:=hf 7 (by omega)
    have q8:=hf 8 (by omega);have q9:=hf 9 (by omega);simp only[fu,aD,cI,dh]at q0 q1 q2 q3 q4 q5 q6 q7 q8 q9;clear hr hy hz hf;have hI:=HB.o.size
    cases hp:jA it
    ·have hg:=ag hp;clear hp;have HF:=ag (show ke none l=false by rw[HA.o,pf HR.o,hg.o]; rfl);go_wp2_with fail;refine bL [some 1,none,some 16] (by kernel_rfl) (by kernel_rfl) (by kernel_rfl) ?_;simp only[ef,aS,aY,bA,bQ]
     repeat (first | (refine cy rfl ?_; simp only[bM]) | (refine cP rfl (fun K hK=> ?_); go_simp; refine hK _ ?_; clear hK K))
     refine cO ?_;have hl:=ag (show dJ S (wr.alloc (.cells #[.string it.name, .int .i64 it.kind, .int .i64 it.mode, .int .i64 it.time, .int .i64 it.size, .string it.link, .slice ca it.chunks.length cc, .string it.node.name, .int .i64 it.node.gen, .int .i64 it.node.size] 28)).drew (.slice ca it.chunks.length cc) it.chunks from cU.below ho.o (by omega) ((eT).drew) (fun _ _ _ h=>h))
     have hj:=ag (show nJ (wr.alloc (.cells #[.string it.name, .int .i64 it.kind, .int .i64 it.mode, .int .i64 it.time, .int .i64 it.size, .string it.link, .slice ca it.chunks.length cc, .string it.node.name, .int .i64 it.node.gen, .int .i64 it.node.size] 28)).drew from HE.o.below ((HB.o.alloc HB.o.size _).drew));refine eE rfl (fun K hK=> ?_);go_wp2_with (go_at_call 96; refine(nH S it (.slice ca it.chunks.length cc) false _ hl.o HO.o hj.o hg.o).mono ?_; rintro e w1 ⟨rfl,ha⟩)
     have hh:=ag (aj ((HB.o.alloc HB.o.size _).drew) ha);have he:=ag (((ak _ _).alloc (ah _) (.cells #[.string it.name, .int .i64 it.kind, .int .i64 it.mode, .int .i64 it.time, .int .i64 it.size, .string it.link, .slice ca it.chunks.length cc, .string it.node.name, .int .i64 it.node.gen, .int .i64 it.node.size] 28)).drew.trans (ha.mono (by simp)));have n0:w1.cell? ⟨wr.heap.size,0,none⟩=some (.string it.name):=(ha.cell (p:=⟨wr.heap.size,0,none⟩) (by simp)).trans (bD (aC wr _))
     clear ha
     repeat (first | (refine cy rfl ?_; simp only[bM]) | (refine cP rfl (fun K hK=> ?_); go_simp; refine hK _ ?_; clear hK K))
     refine cO ?_;go_wp2_with fail;go_ret;exact⟨cj (by rw[HN.o,HF.o]),hh.o⟩
    ·have hg:=ag hp;clear hp
     by_cases hJ:k<=0
     ·have HF:=ag (show ke none l=ke (qH l (k+1)) (l.drop (k+1)) by
       obtain rfl:k=0:=by omega
       rw[HA.o,pf HR.o,hg.o]; simp[qH,qm])
      have ek:decide (0<k)=false:=by simp; omega
      go_wp2_with fail;refine bL [some 1,none,some 16] (by kernel_rfl) (by kernel_rfl) (by kernel_rfl) ?_;simp only[ef,aS,aY,bA,bQ]
      repeat (first | (refine cy rfl ?_; simp only[bM]) | (refine cP rfl (fun K hK=> ?_); go_simp; refine hK _ ?_; clear hK K))
      refine cO ?_;have hl:=ag (show dJ S (wr.alloc (.cells #[.string it.name, .int .i64 it.kind, .int .i64 it.mode, .int .i64 it.time, .int .i64 it.size, .string it.link, .slice ca it.chunks.length cc, .string it.node.name, .int .i64 it.node.gen, .int .i64 it.node.size] 28)).drew (.slice ca it.chunks.length cc) it.chunks from cU.below ho.o (by omega) ((eT).drew) (fun _ _ _ h=>h))
      have hj:=ag (show nJ (wr.alloc (.cells #[.string it.name, .int .i64 it.kind, .int .i64 it.mode, .int .i64 it.time, .int .i64 it.size, .string it.link, .slice ca it.chunks.length cc, .string it.node.name, .int .i64 it.node.gen, .int .i64 it.node.size] 28)).drew from HE.o.below ((HB.o.alloc HB.o.size _).drew));refine eE rfl (fun K hK=> ?_);go_wp2_with (go_at_call 96; refine(nH S it (.slice ca it.chunks.length cc) true _ hl.o HO.o hj.o hg.o).mono ?_; rintro e w1 ⟨rfl,ha⟩)
      have hh:=ag (aj ((HB.o.alloc HB.o.size _).drew) ha);have he:=ag (((ak _ _).alloc (ah _) (.cells #[.string it.name, .int .i64 it.kind, .int .i64 it.mode, .int .i64 it.time, .int .i64 it.size, .string it.link, .slice ca it.chunks.length cc, .string it.node.name, .int .i64 it.node.gen, .int .i64 it.node.size] 28)).drew.trans (ha.mono (by simp)));have n0:w1.cell? ⟨wr.heap.size,0,none⟩=some (.string it.name):=(ha.cell (p:=⟨wr.heap.size,0,none⟩) (by simp)).trans (bD (aC wr _))
      clear ha
      repeat (first | (refine cy rfl ?_; simp only[bM]) | (refine cP rfl (fun K hK=> ?_); go_simp; refine hK _ ?_; clear hK K))
      refine cO ?_;go_wp2_with fail
      go_roundw
      ·exact⟨k+1,by omega,by go_num,HF.o,hh.o⟩
      simp[intOf]; omega
     ·obtain⟨ip,hq⟩: ∃ip,l[k-1]? =some ip:=⟨l[k-1],by simp⟩;obtain⟨b2,o2,ca2,cc2,e2,-,-,-,-,hn⟩:=lR HV.o HB.o hq
      cases e2
      have p0:=hn 0 (by omega);simp only[fu,aD,dh]at p0;have hw:=ag (show qH l k=some ip.name from KM (by omega) hq);clear hn hq;have hF:(0:Int)<=(k:Int)-1:=by omega
      have hH:(k:Int)-1<(l.length:Int):=by omega
      have ek:decide (0<k)=true:=by simp; omega
      cases hd:PA ip.name it.name
      ·have e3:Op.bytesLess ip.name.toList it.name.toList=false:=hd;have HF:=ag (show ke none l=false by rw[HA.o,pf HR.o,hg.o,hw.o]; simp[qm,hd]);clear hd;go_wp2_with fail;refine bL [some 1,none,some 16] (by kernel_rfl) (by kernel_rfl) (by kernel_rfl) ?_;simp only[ef,aS,aY,bA,bQ]
       repeat (first | (refine cy rfl ?_; simp only[bM]) | (refine cP rfl (fun K hK=> ?_); go_simp; refine hK _ ?_; clear hK K))
       refine cO ?_;have hl:=ag (show dJ S (wr.alloc (.cells #[.string it.name, .int .i64 it.kind, .int .i64 it.mode, .int .i64 it.time, .int .i64 it.size, .string it.link, .slice ca it.chunks.length cc, .string it.node.name, .int .i64 it.node.gen, .int .i64 it.node.size] 28)).drew (.slice ca it.chunks.length cc) it.chunks from cU.below ho.o (by omega) ((eT).drew) (fun _ _ _ h=>h))
       have hj:=ag (show nJ (wr.alloc (.cells #[.string it.name, .int .i64 it.kind, .int .i64 it.mode, .int .i64 it.time, .int .i64 it.size, .string it.link, .slice ca it.chunks.length cc, .string it.node.name, .int .i64 it.node.gen, .int .i64 it.node.size] 28)).drew from HE.o.below ((HB.o.alloc HB.o.size _).drew));refine eE rfl (fun K hK=> ?_);go_wp2_with (go_at_call 96; refine(nH S it (.slice ca it.chunks.length cc) true _ hl.o HO.o hj.o hg.o).mono ?_; rintro e w1 ⟨rfl,ha⟩)
       have hh:=ag (aj ((HB.o.alloc HB.o.size _).drew) ha);have he:=ag (((ak _ _).alloc (ah _) (.cells #[.string it.name, .int .i64 it.kind, .int .i64 it.mode, .int .i64 it.time, .int .i64 it.size, .string it.link, .slice ca it.chunks.length cc, .string it.node.name, .int .i64 it.node.gen, .int .i64 it.node.size] 28)).drew.trans (ha.mono (by simp)));have n0:w1.cell? ⟨wr.heap.size,0,none⟩=some (.string it.name):=(ha.cell (p:=⟨wr.heap.size,0,none⟩) (by simp)).trans (bD (aC wr _))
       clear ha;have p1:w1.cell? ⟨b,o+(k-1)*10,none⟩=some (.string ip.name):=(he.o.cell (p:=⟨b,o+(k-1)*10,none⟩) (by show b<wr.heap.size; omega)).trans p0;have hs:IntKind.i64.wrap ((k:Int)-1)=(k:Int)-1:=IntWalk.i64_in _ (by omega);have hu:((k:Int)-1).toNat=k-1:=by omega
       have hC:(1:Int)<=(k:Int):=by omega
       have hD:1<=k:=by omega
       have hE:0<k:=by omega
       repeat (first | (refine cy rfl ?_; simp only[bM]) | (refine cP rfl (fun K hK=> ?_); go_simp; refine hK _ ?_; clear hK K))
       refine cO ?_;clear hs hu;go_wp2_with fail;go_ret;exact⟨cj (by rw[HN.o,HF.o]),hh.o⟩
      ·have e3:Op.bytesLess ip.name.toList it.name.toList=true:=hd;have HF:=ag (show ke none l=ke (qH l (k+1)) (l.drop (k+1)) by rw[HA.o,pf HR.o,hg.o,hw.o]; simp[qm,hd]);clear hd;go_wp2_with fail;refine bL [some 1,none,some 16] (by kernel_rfl) (by kernel_rfl) (by kernel_rfl) ?_;simp only[ef,aS,aY,bA,bQ]
       repeat (first | (refine cy rfl ?_; simp only[bM]) | (refine cP rfl (fun K hK=> ?_); go_simp; refine hK _ ?_; clear hK K))
       refine cO ?_;have hl:=ag (show dJ S (wr.alloc (.cells #[.string it.name, .int .i64 it.kind, .int .i64 it.mode, .int .i64 it.time, .int .i64 it.size, .string it.link, .slice ca it.chunks.length cc, .string it.node.name, .int .i64 it.node.gen, .int .i64 it.node.size] 28)).drew (.slice ca it.chunks.length cc) it.chunks from cU.below ho.o (by omega) ((eT).drew) (fun _ _ _ h=>h))
       have hj:=ag (show nJ (wr.alloc (.cells #[.string it.name, .int .i64 it.kind, .int .i64 it.mode, .int .i64 it.time, .int .i64 it.size, .string it.link, .slice ca it.chunks.length cc, .string it.node.name, .int .i64 it.node.gen, .int .i64 it.node.size] 28)).drew from HE.o.below ((HB.o.alloc HB.o.size _).drew));refine eE rfl (fun K hK=> ?_);go_wp2_with (go_at_call 96; refine(nH S it (.slice ca it.chunks.length cc) true _ hl.o HO.o hj.o hg.o).mono ?_; rintro e w1 ⟨rfl,ha⟩)
       have hh:=ag (aj ((HB.o.alloc HB.o.size _).drew) ha);have he:=ag (((ak _ _).alloc (ah _) (.cells #[.string it.name, .int .i64 it.kind, .int .i64 it.mode, .int .i64 it.time, .int .i64 it.size, .string it.link, .slice ca it.chunks.length cc, .string it.node.name, .int .i64 it.node.gen, .int .i64 it.node.size] 28)).drew.trans (ha.mono (by simp)));have n0:w1.cell? ⟨wr.heap.size,0,none⟩=some (.string it.name):=(ha.cell (p:=⟨wr.heap.size,0,none⟩) (by simp)).trans (bD (aC wr _))
       clear ha;have p1:w1.cell? ⟨b,o+(k-1)*10,none⟩=some (.string ip.name):=(he.o.cell (p:=⟨b,o+(k-1)*10,none⟩) (by show b<wr.heap.size; omega)).trans p0;have hs:IntKind.i64.wrap ((k:Int)-1)=(k:Int)-1:=IntWalk.i64_in _ (by omega);have hu:((k:Int)-1).toNat=k-1:=by omega
       have hC:(1:Int)<=(k:Int):=by omega
       have hD:1<=k:=by omega
       have hE:0<k:=by omega
       repeat (first | (refine cy rfl ?_; simp only[bM]) | (refine cP rfl (fun K hK=> ?_); go_simp; refine hK _ ?_; clear hK K))
       refine cO ?_;clear hs hu;go_wp2_with fail
       go_roundw
       ·exact⟨k+1,by omega,by go_num,HF.o,hh.o⟩
       simp[intOf]; omega
   ·go_wp2_with fail;go_ret;exact⟨cj (by rw[HN.o,HA.o,fq (by omega)]; simp[ke]),HB.o⟩
end
section
open Go
section
variable {P : Program} {md : Region.Mode} {Q : Exit → Act → World → Prop}
def zx (P:Program) (ops:Array Oper) (m:Nat) (Q:Exit->Act->World->Prop):Exit->Act->World->Prop
 | .normal,a,w=>wpOp P ops Q m (fun a' w'=>Q .normal a' w') a w
 | e,a,w=>Q e a w
def DF (md:Region.Mode) (L:List Oper):Bool:=
 Fl md L.toArray (L.length-1) && decide (0<L.length) &&
 ((List.range L.length).all fun i=>match L[i]? with | some x=>x.after.all (fun e=>decide (e.on<i)) && (match x.guard with | none=>true | some (j,_)=>decide (j<i)) | none=>true)
theorem Cb {L:List Oper} {i:Nat} (hi:i<L.length-1):L.dropLast.toArray[i]? =L.toArray[i]? :=by simp[hi]
theorem OE {L:List Oper} {i m:Nat} (hi:i<L.length-1) (hg: ∀(x:Oper) (j:Nat) (b:Bool),L[i]? =some x->x.guard=some (j,b)->j<i) {K:Act->World->Prop} {a:Act} {w:World}
  (h:wpOp P L.dropLast.toArray (zx P L.toArray m Q) i K a w):wpOp P L.toArray Q i K a w:=by
 unfold wpOp at h ⊢;rw[Cb hi]at h
 cases hx:L.toArray[i]? with
 | none=>rw[hx]at h; exact h
 | some x=>
  rw[hx]at h;simp only at h ⊢;have hw:Region.wanted x (yielded L.dropLast.toArray a.tmps)=Region.wanted x (yielded L.toArray a.tmps):=by
   unfold Region.wanted
   cases ha:x.guard with
   | none=>rfl
   | some p=>
    obtain⟨j,b⟩:=p;have hj:=hg x j b (by simpa using hx) ha;simp only[yielded];rw[Cb (by omega)]
  rw[hw]at h
  split at h
  ·rename_i hh;rw[if_pos hh];exact h
  ·rename_i hh;rw[if_neg hh];exact h
theorem Br {ops:Array Oper} {listed:Array Bool} {a:Act} {w:World} (hr:Region.ready md ops listed=[]) (h:Q .normal a w): ∀fuel,wpAny P md ops Q fuel listed a w
 | 0=>⟨hr,h⟩
 | _+1=>⟨fun _=>h,by rw[hr]; simp⟩
theorem rT {L:List Oper} {i:Nat} {listed:Array Bool} (hi:i<L.length-1):i∈Region.ready md L.dropLast.toArray listed<->i∈Region.ready md L.toArray listed:=by rw[iF,iF,Cb hi]
theorem IB {listed:Array Bool} {i:Nat} (hi:i<listed.size) (h:listed.getD i true=true):listed.getD i false=true:=by simp[hi]at h ⊢; exact h
theorem rk {L:List Oper} {i:Nat} {listed:Array Bool} (h:i∈Region.ready md L.toArray listed):i<L.length:=by
 obtain⟨_,o,ho,_⟩:=iF.1 h
 simpa using (aN.1 ho).1
theorem Mg {L:List Oper} {listed:Array Bool} (hs:listed.size=L.length) (hback: ∀(i:Nat) (x:Oper),L[i]? =some x-> ∀e∈x.after,e.on<i) (hr:Region.ready md L.dropLast.toArray listed=[]):
  ∀(n i:Nat),i<n->i<L.length-1->listed.getD i true=true
 | 0,i,hn,_=>by omega
 | n+1,i,hn,hi=>by
  cases hg:listed.getD i true with
  | true=>rfl
  | false=>
   exfalso
   obtain⟨x,hx⟩: ∃x,L[i]? =some x:=⟨L[i]'(by omega),by simp⟩;have:i∈Region.ready md L.dropLast.toArray listed:=by rw[rT hi,iF];refine⟨hg,x,by simpa using hx,fun e he _=> ?_⟩;have hb:=hback i x hx e he;exact IB (by omega) (Mg hs hback hr n e.on (by omega) (by omega))
   rw[hr]at this
   cases this
theorem Ij {L:List Oper} (hc:Fl md L.toArray (L.length-1)=true) (hpos:0<L.length) (hback: ∀(i:Nat) (x:Oper),L[i]? =some x-> ∀e∈x.after,e.on<i) (hg: ∀(i:Nat) (x:Oper) (j:Nat) (b:Bool),L[i]? =some x->x.guard=some (j,b)->j<i):
  ∀(fuel:Nat) (listed:Array Bool) (a:Act) (w:World),HeadInv md L.toArray (L.length-1) listed->wpAny P md L.dropLast.toArray (zx P L.toArray (L.length-1) Q) fuel listed a w->wpAny P md L.toArray Q (fuel+1) listed a w:=by
 have hh: ∀listed:Array Bool,HeadInv md L.toArray (L.length-1) listed->Region.ready md L.dropLast.toArray listed=[]->(L.length-1)∈Region.ready md L.toArray listed:=fun listed inv hr=>by
  have hs:listed.size=L.length:=by simpa using inv.size
  obtain⟨x,hx⟩: ∃x,L[L.length-1]? =some x:=⟨L[L.length-1]'(by omega),by simp⟩;rw[iF];refine⟨inv.tail _ (ah _) (by simp; omega),x,by simpa using hx,fun e he _=> ?_⟩;have hb:=hback _ x hx e he;exact IB (by omega) (Mg hs hback hr L.length e.on (by omega) (by omega))
 have hl: ∀listed:Array Bool,HeadInv md L.toArray (L.length-1) listed->Region.ready md L.toArray listed≠[]:=fun listed inv e=>by
  cases hr:Region.ready md L.dropLast.toArray listed with
  | nil=>have:=hh listed inv hr; rw[e]at this; cases this
  | cons i r=>
   have hi:i∈Region.ready md L.dropLast.toArray listed:=by rw[hr]; simp
   have ha:=rk hi;simp only[fZ]at ha;rw[rT ha,e]at hi
   cases hi
 have hd: ∀listed:Array Bool,HeadInv md L.toArray (L.length-1) listed->(L.length-1)∈Region.ready md L.toArray listed->Region.ready md L.dropLast.toArray listed=[]/\Region.ready md L.toArray (listed.setIfInBounds (L.length-1) true)=[]:=fun listed inv hm=>by
  have hs:listed.size=L.length:=by simpa using inv.size
  have hf: ∀i,i<L.length-1->listed.getD i true=true:=fun i hi=>by
   cases hj:listed.getD i true with
   | true=>rfl
   | false=>exact absurd hm (uz hc inv _ i rfl hi hj _ (ah _))
  constructor
  ·rw[List.eq_nil_iff_forall_not_mem];intro i hi;have ha:=rk hi;simp only[fZ]at ha;have:=(iF.1 hi).1;rw[hf i ha]at this
   cases this
  ·rw[List.eq_nil_iff_forall_not_mem];intro i hi;have ha:=rk hi;have h1:=(iF.1 hi).1
   by_cases e:i=L.length-1
   ·rw[e]at h1;simp[hs]at h1
   ·rw[getD_set_ne true (ks e),hf i (by omega)]at h1
    cases h1
 intro fuel
 induction fuel with
 | zero=>
  intro listed a w inv h;refine⟨fun e=>absurd e (hl listed inv),fun i hi=> ?_⟩;have ha:=rk hi
  by_cases e:i=L.length-1
  ·subst e;exact wpOp_mono (fun a' w' h'=>Br (hd listed inv hi).2 h' 0) h.2
  ·have:=(rT (by omega)).2 hi;rw[h.1]at this
   cases this
 | succ fuel ih=>
  intro listed a w inv h;refine⟨fun e=>absurd e (hl listed inv),fun i hi=> ?_⟩;have ha:=rk hi
  by_cases e:i=L.length-1
  ·subst e;exact wpOp_mono (fun a' w' h'=>Br (hd listed inv hi).2 h' (fuel+1)) (h.1 (hd listed inv hi).1)
  ·have hk:i<L.length-1:=by omega
   refine OE hk (fun x j b hx hj=>hg i x j b hx hj) (wpOp_mono (fun a' w' h'=>ih _ a' w' (inv.set hi hk) h') (h.2 i ((rT hk).2 hi)))
theorem Dq {ops:Array Oper} {m:Nat} :HeadInv md ops m (Array.replicate ops.size false):=by refine⟨by simp,fun j oj hj hl=> ?_,fun t _ ht=>by simp[ht]⟩;have:=(aN.1 hj).1;simp[this]at hl
theorem eP {id:Nat} {a:Act} {w:World} {L:List Oper} (S:World->Prop) (hm:P.follows .mixedOrders=true) (hB:DF .any L=true)
  (h:pV P L.dropLast.toArray (zx P L.toArray (L.length-1) Q) S (L.length-1) (Array.replicate L.length false) a w.drew):(Code.region id L.toArray true).wp P Q a w:=by
 simp only[DF,aE,aG]at hB;obtain⟨⟨hc,hd⟩,hb⟩:=hB;have ha: ∀(i:Nat) (x:Oper),L[i]? =some x->(∀e∈x.after,e.on<i)/\ ∀j b,x.guard=some (j,b)->j<i:=fun i x hx=>by
  have:=cB.1 hb i (eh.2 (aA.1 hx).1);rw[hx]at this;simp only[aE]at this;refine⟨fun e he=> ?_,fun j b hg=> ?_⟩
  ·have:=Array.all_eq_true'.1 this.1 e he
   simpa using this
  ·have:=this.2;rw[hg]at this
   simpa using this
 refine wp_region_any hm ?_;have:=Ij hc hd (fun i x hx=>(ha i x hx).1) (fun i x j b hx=>(ha i x hx).2 j b) (L.length-1) _ a w.drew Dq (wpAny_of_held _ _ _ _ (by simpa using h.out));rw[show L.length-1+1=L.length by omega]at this
 simpa using this
theorem eX {L:List Oper} {m:Nat} {a:Act} {w:World} {dst:Option Tmp} {op:Op} {ty:TypeId} {pos:String} {aft:Array Edge} {g:Option (Nat×Bool)} (hi:L[m]? =some ⟨dst,op,ty,pos,aft,g⟩) (hw:Region.wanted ⟨dst,op,ty,pos,aft,g⟩ (yielded L.toArray a.tmps)=true)
  (h: ∀K:Act->World->Prop,(∀a w,Q .normal a w->K a w)->wpList P #[] (Exit.then K Q) [⟨dst,op,ty,pos, #[],none⟩] a w):zx P L.toArray m Q .normal a w:=by
 show wpOp P L.toArray Q m _ a w
 have hb:yP P L.toArray (fun a' w'=>Q .normal a' w') Q [⟨dst,op,ty,pos,aft,g⟩] a w:=eE hw (fun K hK=>h K (fun a w hh=>hK a w hh));unfold wpOp;have ha:L.toArray[m]? =some ⟨dst,op,ty,pos,aft,g⟩:=by simpa using hi
 simp only[ha];exact yP.out hb
end
end
section
open Go.RowKit
theorem Tryz.appBytes :kz Tryz.prog 29 5 1 1:=kz.mk' (z:= .int .u8 0) cV (by kernel_rfl) rfl (by decide) (by decide)
theorem Tryz.appRefs :kz Tryz.prog 24 26 3 32:=kz.mk' (z:= .agg #[.string ⟨#[]⟩, .int .i64 0, .int .i64 0]) Tryz.underlying24 (by kernel_rfl) rfl (by decide) (by decide)
theorem Tryz.appItems :kz Tryz.prog 22 28 10 120:=kz.mk' (z:= .agg #[.string ⟨#[]⟩, .int .i64 0, .int .i64 0, .int .i64 0, .int .i64 0, .string ⟨#[]⟩, .slice none 0 0, .string ⟨#[]⟩, .int .i64 0, .int .i64 0]) Tryz.underlying22 (by kernel_rfl) rfl (by decide) (by decide)
def bB (S:Nat->Prop) (w:World) (v:Value) (bs:List UInt8):Prop:=bX S w 1 v bs.length (bs.map aZ)
def QV (bs:List UInt8) (w:World) (e:Ending) (w':World):Prop:= ∃rb dv,e= .returned (.pointer (some ⟨rb,0,none⟩))/\w.heap.size<=rb/\tr w' rb dv bs ⟨0,0,0⟩/\Below w.heap.size w w'
theorem fE (bs:List UInt8): ∀u∈bs.map aZ,u.oneCell'=true:=fun u hu=>by
 obtain⟨b,_,rfl⟩:=aQ.1 hu
 rfl
theorem ze (S:Nat->Prop) (bs:List UInt8) (v:Value) (w:World) (hv:bB S w v bs) (hl:bs.length<=32768):Calls Tryz.prog 58 #[v] w (QV bs w):=by
 obtain⟨_,a,cap,rfl,hn,hm,-⟩:=id hv;unfold maxLen at hm;have HV:=ag (show bX S (w.alloc (.cells #[] 5)) 1 (.slice a bs.length cap) bs.length (bs.map aZ)from bX.below hv (by omega) (eT));have HO:=ag (World.ownsRow_made (base:=w.heap.size) (e:=5) (size:=1) w #[] 0 (ah _) (by unfold maxLen; omega) rfl);clear hv
 go_enter Tryz.func58,Tryz.ntmps58
 go_wp2_with (at_builtin; go_must (refine dV Tryz.appBytes rfl _ _ rfl w.heap.size _ 0 [] rfl HO.o _ bs.length (bs.map aZ) rfl HV.o (fE bs) (by omega) (by simp) ?_); intro v5 w5 ha hb; rw[bO,aJ]at ha; have hd:=ag ha; obtain⟨a5,c5,rfl,hf,he⟩:=aH ha; have hc:=ag (show Below w.heap.size w w5 from bZ ((ak w.heap.size w).alloc (ah _) _) HO.o hb (ah _) (by simp)); clear ha hb)
 go_ret;refine⟨w5.heap.size,_,rfl,hc.o.size,⟨aC w5 _, ?_,aR _,aR _,hl⟩,hc.o.alloc hc.o.size _⟩;have hr:=bX.below (cK hd.o) (by omega) ((ak w5.heap.size w5).alloc (ah _) (.cells #[.slice a5 bs.length c5, .int .i64 0, .int .i64 0, .int .i64 0] 165));refine hr.weak (fun k hk e=> ?_);have:=(hd.o.lt k hk.2).2;omega
def jq (data:List UInt8) (s0:RS):Nat->List bY×RS
 | 0=>([],s0)
 | k+1=>((jq data s0 k).1++[(ss data (jq data s0 k).2).1],(ss data (jq data s0 k).2).2)
def qY (data:List UInt8) (nm:List UInt8) (kd md td:Nat) (s:RS):Option (ci×RS):=
 if oE kd=1 then some (⟨⟨nm.toArray⟩,oE kd,oE md,oE td,nt (jq data (Cs data 963 s).2 (Cs data 963 s).1).1,⟨#[]⟩,(jq data (Cs data 963 s).2 (Cs data 963 s).1).1,eL⟩,(jq data (Cs data 963 s).2 (Cs data 963 s).1).2)
 else if oE kd=2 then some (⟨⟨nm.toArray⟩,oE kd,oE md,oE td,0,⟨#[]⟩,[],(ss data s).1⟩,(ss data s).2)
 else if oE kd=3 then some (⟨⟨nm.toArray⟩,oE kd,oE md,oE td,0,⟨(EN data 512 s).1.toArray⟩,[],eL⟩,(EN data 512 s).2)
 else none
def nZ (data:List UInt8) (s:RS):Option (ci×RS):=
 qY data (EN data 64 s).1 (vV data (EN data 64 s).2).1 (vV data (vV data (EN data 64 s).2).2).1 (vV data (vV data (vV data (EN data 64 s).2).2).2).1 (vV data (vV data (vV data (EN data 64 s).2).2).2).2
theorem xC {data:List UInt8} {s s2 s3 s4 s5:RS} {nm:List UInt8} {kd md td:Nat} (h1:EN data 64 s=(nm,s2)) (h2:vV data s2=(kd,s3)) (h3:vV data s3=(md,s4)) (h4:vV data s4=(td,s5)):nZ data s=qY data nm kd md td s5:=by
 have e1:(EN data 64 s).1=nm:=by rw[h1]
 have e2:(EN data 64 s).2=s2:=by rw[h1]
 have e3:(vV data s2).1=kd:=by rw[h2]
 have e4:(vV data s2).2=s3:=by rw[h2]
 have e5:(vV data s3).1=md:=by rw[h3]
 have e6:(vV data s3).2=s4:=by rw[h3]
 have e7:(vV data s4).1=td:=by rw[h4]
 have e8:(vV data s4).2=s5:=by rw[h4]
 unfold nZ;rw[e2,e4,e6,e1,e3,e5,e7,e8]
theorem xA {data:List UInt8} {s s1 s2:RS} {nm:List UInt8} {kd md td n:Nat} {ch:List bY} (hk:oE kd=1) (h1:Cs data 963 s=(n,s1)) (h2:jq data s1 n=(ch,s2)):qY data nm kd md td s=some (⟨⟨nm.toArray⟩,oE kd,oE md,oE td,nt ch,⟨#[]⟩,ch,eL⟩,s2):=by
 have e1:(Cs data 963 s).1=n:=by rw[h1]
 have e2:(Cs data 963 s).2=s1:=by rw[h1]
 have e3:(jq data s1 n).1=ch:=by rw[h2]
 have e4:(jq data s1 n).2=s2:=by rw[h2]
 unfold qY;rw[if_pos hk,e1,e2,e3,e4]
theorem Ai {data:List UInt8} {s s1:RS} {nm:List UInt8} {kd md td:Nat} {r:bY} (hk:oE kd=2) (h1:ss data s=(r,s1)):qY data nm kd md td s=some (⟨⟨nm.toArray⟩,oE kd,oE md,oE td,0,⟨#[]⟩,[],r⟩,s1):=by
 have e1:(ss data s).1=r:=by rw[h1]
 have e2:(ss data s).2=s1:=by rw[h1]
 have ha: ¬oE kd=1:=by rw[hk]; omega
 unfold qY;rw[if_neg ha,if_pos hk,e1,e2]
theorem xB {data:List UInt8} {s s1:RS} {nm lk:List UInt8} {kd md td:Nat} (hk:oE kd=3) (h1:EN data 512 s=(lk,s1)):qY data nm kd md td s=some (⟨⟨nm.toArray⟩,oE kd,oE md,oE td,0,⟨lk.toArray⟩,[],eL⟩,s1):=by
 have e1:(EN data 512 s).1=lk:=by rw[h1]
 have e2:(EN data 512 s).2=s1:=by rw[h1]
 have ha: ¬oE kd=1:=by rw[hk]; omega
 have hb: ¬oE kd=2:=by rw[hk]; omega
 unfold qY;rw[if_neg ha,if_neg hb,if_pos hk,e1,e2]
theorem FH {data:List UInt8} {s:RS} {nm:List UInt8} {kd md td:Nat} (hk1: ¬oE kd=1) (hk2: ¬oE kd=2) (hk3: ¬oE kd=3):qY data nm kd md td s=none:=by unfold qY;rw[if_neg hk1,if_neg hk2,if_neg hk3]
def ku (data:List UInt8) (s0:RS):Nat->Option (List ci×RS)
 | 0=>some ([],s0)
 | k+1=>(ku data s0 k).bind fun p=>(nZ data p.2).map fun q=>(p.1++[q.1],q.2)
def js (data:List UInt8):Option (List ci):=
 if 32768<data.length then none else
 (ku data (Cs data 4096 ⟨0,0,0⟩).2 (Cs data 4096 ⟨0,0,0⟩).1).bind fun p=>if uB data p.2=0/\jL p.1=true then some p.1 else none
theorem oO (data:List UInt8) (s0:RS) (k:Nat):ku data s0 (k+1)=(ku data s0 k).bind fun p=>(nZ data p.2).map fun q=>(p.1++[q.1],q.2):=rfl
theorem Dx {data:List UInt8} {s0:RS} {k:Nat} (h:ku data s0 k=none): ∀n,k<=n->ku data s0 n=none:=by
 intro n hn
 induction n with
 | zero=>
  obtain rfl:k=0:=by omega
  exact h
 | succ n ih=>
  by_cases e:k=n+1
  ·rw[<-e]; exact h
  ·rw[oO,ih (by omega),Option.bind_none]
theorem JB {α β γ:Type} {x:Option α} {f:α->Option β} {g:α->β->γ} {a:α} {b:β} (h:x=some a) (h1:f a=some b):(x.bind fun p=>(f p).map fun q=>g p q)=some (g a b):=by subst h; rw[Option.bind_some,h1]; rfl
theorem JC {α β γ:Type} {x:Option α} {f:α->Option β} {g:α->β->γ} {a:α} (h:x=some a) (h1:f a=none):(x.bind fun p=>(f p).map fun q=>g p q)=none:=by subst h; rw[Option.bind_some,h1]; rfl
theorem oN {data:List UInt8} {s0 s s1:RS} {k:Nat} {l:List ci} {it:ci} (h:ku data s0 k=some (l,s)) (h1:nZ data s=some (it,s1)):ku data s0 (k+1)=some (l++[it],s1):=by rw[oO]; exact JB (f:=fun p:List ci×RS=>nZ data p.2) (g:=fun p q=>(p.1++[q.1],q.2)) h h1
theorem Dy {data:List UInt8} {s0 s:RS} {k:Nat} {l:List ci} (h:ku data s0 k=some (l,s)) (h1:nZ data s=none):ku data s0 (k+1)=none:=by rw[oO]; exact JC (f:=fun p:List ci×RS=>nZ data p.2) (g:=fun p q=>(p.1++[q.1],q.2)) h h1
theorem wP (data:List UInt8) (s0:RS): ∀k,(jq data s0 k).1.length=k
 | 0=>rfl
 | k+1=>by rw[jq]; simp[wP data s0 k]
theorem zL (data:List UInt8) (s0:RS): ∀k,∀r∈(jq data s0 k).1,dZ r
 | 0=>by simp[jq]
 | k+1=>fun r hr=>by
  rw[jq]at hr;simp only[aP,aL]at hr
  rcases hr with hr | rfl
  ·exact zL data s0 k r hr
  ·exact Jd _ _
theorem BH (data:List UInt8) (most:Nat) (s:RS):(Cs data most s).1<=most:=by
 unfold Cs rv
 split
 ·split
  ·rename_i x o h;exact(uH h).1
  ·exact aR _
 ·exact aR _
theorem Jo (data:List UInt8) (most:Nat) (s:RS):(EN data most s).1.length<=most:=by
 unfold EN rv
 split
 ·split
  ·rename_i x o h;unfold kt at h
   split at h
   ·simp at h
   ·rename_i n o' hn;unfold kN at h
    split at h
    ·simp at h
    ·simp only[dj,cM]at h;obtain⟨rfl,rfl⟩:=h;have:=(uH hn).1
     simp; omega
  ·exact aR _
 ·exact aR _
structure kD (rb ib : Nat) (wr wc : World) (dv : Value) (data : List UInt8) (s : RS) (cs : Array Value) : Prop where
 rd:tr wc rb dv data s
 rd0: ∃s0,tr wr rb dv data s0
 box:wc.heap[ib]? =some (.cells cs 28 (0,0))
 grown:wr.grownBy wc (some rb)
 ge:wr.heap.size<=ib
theorem kD.lt {rb ib:Nat} {wr wc:World} {dv:Value} {data:List UInt8} {s:RS} {cs:Array Value} (h:kD rb ib wr wc dv data s cs):rb<wr.heap.size:=by obtain⟨s0,h0⟩:=h.rd0;exact dr.lt h0
theorem kD.call {rb ib:Nat} {wr wc w':World} {dv:Value} {data:List UInt8} {s s':RS} {cs:Array Value} (h:kD rb ib wr wc dv data s cs) (h1:tr w' rb dv data s') (h2:wc.grownBy w' (some rb)):kD rb ib wr w' dv data s' cs:=
 ⟨h1,h.rd0,mq h2 h.box (by have:=h.lt; have:=h.ge; omega),bW h.grown h2,h.ge⟩
theorem kD.set {rb ib:Nat} {wr wc:World} {dv:Value} {data:List UInt8} {s:RS} {cs:Array Value} (h:kD rb ib wr wc dv data s cs) (k:Nat) (x:Value):kD rb ib wr (wc.setCell ⟨ib,k,none⟩ x) dv data s (cs.setIfInBounds k x):=by obtain⟨s0,h0⟩:=h.rd0;exact⟨dr.setOther h0 h.rd h.ge x,h.rd0,jb h.box x,nL h.grown h.ge x,h.ge⟩
theorem kD.below {rb ib:Nat} {wr wc w':World} {dv:Value} {data:List UInt8} {s:RS} {cs:Array Value} (h:kD rb ib wr wc dv data s cs) (hb:Below wc.heap.size wc w'):kD rb ib wr w' dv data s cs:=
 ⟨dr.below h.rd hb,h.rd0,(hb.block ib ((aN.1 h.box).1)).trans h.box,bW h.grown (gO hb _),h.ge⟩
theorem kD.start {rb:Nat} {wr w2:World} {dv:Value} {data:List UInt8} {s s2:RS} (h0:tr wr rb dv data s) (h1:tr w2 rb dv data s2) (h2:wr.grownBy w2 (some rb)) (cs:Array Value):
  kD rb w2.heap.size wr (w2.alloc (.cells cs 28)) dv data s2 cs:=
 ⟨dr.below h1 (eT),⟨s,h0⟩,aC w2 _,bW h2 (gO (eT) _),h2.size⟩
theorem kD.cell {rb ib:Nat} {wr wc:World} {dv:Value} {data:List UInt8} {s:RS} {cs:Array Value} (h:kD rb ib wr wc dv data s cs) (k:Nat):wc.cell? ⟨ib,k,none⟩=cs[k]? :=bD h.box
theorem kD.free {rb ib:Nat} {wr wc:World} {dv:Value} {data:List UInt8} {s:RS} {cs:Array Value} (h:kD rb ib wr wc dv data s cs) (k:Nat):wc.frozen? ⟨ib,k,none⟩=false:=dD h.box
theorem dr.keep {w1 wc w':World} {rb:Nat} {v:Value} {data:List UInt8} {off last off0 last0:Nat} {err err0:Int} (h0:dr w1 rb v data off0 last0 err0) (h:dr wc rb v data off last err) (hs: ∀k,k<w1.heap.size->w'.heap[k]? =wc.heap[k]?):dr w' rb v data off last err:=by
 have h1:=h0.lt;have hd:=h0.row.mono (T:=fun k=>k≠rb/\k<w1.heap.size) (fun k hk hS=>⟨hS,hk⟩) (by omega);obtain⟨_,a0,cap0,he,_,_,ha⟩:=hd;obtain⟨hl,a,cap,hv,hn,hm,h2⟩:=h.row;refine⟨(hs rb h1).trans h.box,⟨hl,a,cap,hv,hn,hm, ?_⟩,h.le,h.ls,h.small⟩
 rcases h2 with h2 | ⟨bk,o,rfl,hk,hc⟩
 ·exact .inl h2
 ·rcases ha with ha | ⟨bk0,o0,rfl,hb,_⟩
  ·exact .inl ha
  ·rw[he]at hv
   cases hv
   refine .inr ⟨bk,o,rfl,hk,fun j u hj=> ?_⟩;rw[<-hc j u hj];exact cC (hs bk hb.2)
theorem kD.app {rb ib:Nat} {wr wc w':World} {dv:Value} {data:List UInt8} {s:RS} {cs:Array Value} {r:Option Nat} (h:kD rb ib wr wc dv data s cs) (h2:wc.grownBy w' r) (hr: ∀k,r=some k->ib<k):kD rb ib wr w' dv data s cs:=by
 obtain⟨s0,h0⟩:=h.rd0;have hg:=h.grown.size;have ha:=h.ge;refine⟨dr.keep h0 h.rd (fun k hk=>h2.block k (by omega) (fun e=>by have:=hr k e.symm; omega)),h.rd0, ?_, ?_,h.ge⟩
 ·exact(h2.block ib ((aN.1 h.box).1) (fun e=>by have:=hr ib e.symm; omega)).trans h.box
 ·refine⟨h2.os.trans h.grown.os,h2.tape.trans h.grown.tape,h2.output.trans h.grown.output,an hg h2.size,fun k hk hn=> ?_⟩;rw[h2.block k (by omega) (fun e=>by have:=hr k e.symm; omega)];exact h.grown.block k hk hn
theorem vp {data:List UInt8} {s0 s s1:RS} {k:Nat} {l:List bY} {r:bY} (h:jq data s0 k=(l,s)) (h1:ss data s=(r,s1)):jq data s0 (k+1)=(l++[r],s1):=by
 have e1:(jq data s0 k).1=l:=by rw[h]
 have e2:(jq data s0 k).2=s:=by rw[h]
 have e3:(ss data s).1=r:=by rw[h1]
 have e4:(ss data s).2=s1:=by rw[h1]
 rw[jq,e1,e2,e3,e4]
theorem rm {r:bY} : ∀u∈jt r,u.oneCell'=true:=by
 intro u hu;simp only[jt,aU,du,or_false]at hu
 rcases hu with rfl | rfl | rfl<;> rfl
theorem AV : ∀ {rs:List bY},(∀r∈rs,dZ r)->em pA (rs.flatMap jt) rs
 | [],_=>rfl
 | r::rs,h=>⟨jt r,rs.flatMap jt,rfl,⟨rfl,h r (by simp)⟩,AV (fun x hx=>h x (by simp[hx]))⟩
theorem oq {w:World} {base:Nat} {v:Value} {rs:List bY} (h:w.ownsRow base 26 3 v rs.length (rs.flatMap jt)) (hok: ∀r∈rs,dZ r):dJ (fun k=>base<=k/\v.ownBlock=some k) w v rs:=
 ⟨rs.flatMap jt,cK h,AV hok⟩
structure wC (w1 : World) (rb : Nat) (wr : World) (dv v : Value) (data : List UInt8) (s : RS) (l : List ci) : Prop where
 rd:tr wr rb dv data s
 rd1: ∃s0,tr w1 rb dv data s0
 row: ∃cells,wr.ownsRow w1.heap.size 28 10 v l.length cells/\em (lm (fun k=>w1.heap.size<=k/\v.ownBlock≠some k) wr) cells l
 grown:w1.grownBy wr (some rb)
theorem dJ.same {S T:Nat->Prop} {w w':World} {v:Value} {rs:List bY} (h:dJ S w v rs) (hs: ∀k,k<w.heap.size->S k->T k/\w'.heap[k]? =w.heap[k]?):dJ T w' v rs:=by obtain⟨cells,hr,ha⟩:=h;have h2:=hr.mono (T:=fun k=>k<w.heap.size/\S k) (fun k hk hS=>⟨hk,hS⟩) (by omega);have h3:=h2.same (w':=w') (fun k hk=>(hs k hk.1 hk.2).2);exact⟨cells,h3.weak (fun k hk=>(hs k hk.1 hk.2).1),ha⟩
theorem lm.same {S T:Nat->Prop} {w w':World} {c:List Value} {it:ci} (h:lm S w c it) (hs: ∀k,k<w.heap.size->S k->T k/\w'.heap[k]? =w.heap[k]?):lm T w' c it:=by obtain⟨cv,h1,h2,h3⟩:=h;exact⟨cv,h1,h2.same hs,h3⟩
theorem kS {a:Option Addr} {n c:Nat} {it:ci} : ∀u∈fu (.slice a n c) it,u.oneCell'=true:=by
 intro u hu;simp only[fu,aU,du,or_false]at hu
 rcases hu with rfl | rfl | rfl | rfl | rfl | rfl | rfl | rfl | rfl | rfl<;> rfl
theorem wC.added {rb ib:Nat} {w1 wr wc w':World} {dv v v':Value} {data:List UInt8} {s s':RS} {l:List ci} {it:ci} {cv:Value} {cells:List Value} (h:wC w1 rb wr dv v data s l) (hm:kD rb ib wr wc dv data s' (fu cv it).toArray)
  (hcv:dJ (wr.heap.size<= ·) wc cv it.chunks) (hok:iI it) (hrow:em (lm (fun k=>w1.heap.size<=k/\v.ownBlock≠some k) wr) cells l) (hown:wr.ownsRow w1.heap.size 28 10 v l.length cells)
  (h1:w'.ownsRow w1.heap.size 28 10 v' (l.length+1) (cells++fu cv it)) (h2:wc.grownBy w' v.ownBlock) (h3: ∀k,v'.ownBlock=some k->v.ownBlock=some k\/wc.heap.size<=k):wC w1 rb w' dv v' data s' (l++[it]):=by
 have he:=hm.lt;have hc:=hm.grown.size;have hb:=h.grown.size;obtain⟨s0,h0⟩:=h.rd1;have hd:=dr.lt h0;have ha: ∀k,v.ownBlock=some k->w1.heap.size<=k/\k<wr.heap.size:=fun k hk=>hown.lt k hk
 refine⟨?_,h.rd1,⟨cells++fu cv it,by simpa using h1, ?_⟩, ?_⟩
 ·exact dr.keep h0 hm.rd (fun k hk=>h2.block k (by omega) (fun e=>by have:=ha k e.symm; omega))
 ·refine em.snoc (hrow.mono (fun c x _ hx=>hx.same (fun k hk hS=>⟨⟨hS.1,fun e=> ?_⟩, ?_⟩))) ⟨cv,rfl,hcv.same (fun k hk hS=>⟨⟨by omega,fun e=> ?_⟩, ?_⟩),hok⟩
  ·rcases h3 k e with e | e
   ·have:=ha k e; omega
   ·omega
  ·exact h2.block k hk (fun e=>by have:=ha k e.symm; omega)
  ·rcases h3 k e with e | e
   ·exact hS.2 e
   ·omega
  ·rw[h2.block k (by omega) (fun e=>hS.2 e.symm)];exact hm.grown.block k hk (by simp; omega)
 ·refine⟨h2.os.trans (hm.grown.os.trans h.grown.os),h2.tape.trans (hm.grown.tape.trans h.grown.tape),h2.output.trans (hm.grown.output.trans h.grown.output),an hb (an hc h2.size),fun k hk hn=> ?_⟩;rw[h2.block k (by omega) (fun e=>by have:=ha k e.symm; omega),hm.grown.block k (by omega) hn];exact h.grown.block k hk hn
def wB (data:List UInt8) (w:World) (e:Ending) (w':World):Prop:=Below w.heap.size w w'/\match js data with
 | none=>e= .returned (.tuple #[.slice none 0 0, .int .i64 3])
 | some l=> ∃v,e= .returned (.tuple #[v, .int .i64 0])/\eO (w.heap.size<= ·) w' v l
theorem FJ {data:List UInt8} (h:32768<data.length):js data=none:=by unfold js; rw[if_pos h]
theorem Al {data:List UInt8} (h: ¬32768<data.length) {n:Nat} {s1:RS} (h1:Cs data 4096 ⟨0,0,0⟩=(n,s1)):js data=(ku data s1 n).bind fun p=>if uB data p.2=0/\jL p.1=true then some p.1 else none:=by unfold js; rw[if_neg h,h1]
theorem Dz {data:List UInt8} (h: ¬32768<data.length) {n:Nat} {s1:RS} (h1:Cs data 4096 ⟨0,0,0⟩=(n,s1)) (h2:ku data s1 n=none):js data=none:=by rw[Al h h1,h2]; rfl
theorem vA {data:List UInt8} (h: ¬32768<data.length) {n:Nat} {s1 s2:RS} {l:List ci} (h1:Cs data 4096 ⟨0,0,0⟩=(n,s1)) (h2:ku data s1 n=some (l,s2)):js data=if uB data s2=0/\jL l=true then some l else none:=by rw[Al h h1,h2]; rfl
theorem jI {w w':World} {base:Nat} {e:TypeId} {sz:Nat} {v:Value} {n:Nat} {xs:List Value} (h:w.ownsRow base e sz v n xs) (hb:Below w.heap.size w w'):w'.ownsRow base e sz v n xs:=
 h.kept (gO hb none) (by cases v.ownBlock<;> simp)
open Go Go.RowKit
def dL (v:V8) (buf:List UInt8) (n:Nat):List Value:=v.list.map fp++(buf.map aZ++[.int .i64 (n:Int)])
def oF (w:World) (sb:Nat) (ty:TypeId) (rest:List Value) (data:List UInt8):Prop:=
 ∃buf:List UInt8,buf.length=64/\buf.take (data.length%64)=data.drop (64*(data.length/64))/\w.heap[sb]? =some (.cells (dL (jY data (data.length/64)) buf data.length++rest).toArray ty (0,0))
theorem bB.call {w w':World} {sb:Nat} {v:Value} {bs:List UInt8} (h:bB (· ≠sb) w v bs) (hg:w.grownBy w' (some sb)):bB (· ≠sb) w' v bs:=by have h2:=bX.mono (T:=fun k=>k≠sb/\k<w.heap.size) h (fun k hk hS=>⟨hS,hk⟩) (by omega);exact(bX.same h2 (fun k hk=>hg.block k hk.2 (fun e=>hk.1 (bt e)))).weak (fun k hk=>hk.1)
theorem tg {S:Nat->Prop} {w:World} {a:Option Addr} {n cap:Nat} {bs:List UInt8} (h:bB S w (.slice a n cap) bs) {k:Nat} (hk:k<=bs.length):
  ∃a' cap',(∀w',(Instr.slice 29 (.slice a n cap) (some (.int .i64 (k:Int))) none none).run Tryz.prog w'= .ok (.slice a' (bs.drop k).length cap') w')/\bB S w (.slice a' (bs.drop k).length cap') (bs.drop k):=by
 obtain⟨hl,a0,cap0,hv,hn,hm,h0⟩:=h;simp only[df]at hv;obtain⟨rfl,rfl,rfl⟩:=hv;have hz: ∀w',(sizeOf (Tryz.prog.elem 29)).run Tryz.prog w'= .ok 1 w':=fun _=>by kernel_rfl
 refine⟨if cap=k then a else a.map (fun p=>p.add k),cap-k,fun w'=> ?_, ?_⟩
 ·rw[run_slice_l _ _ _ _ _ cV _ _ (by omega) (by omega),hz];simp only[Result.andThen,sliced,fx,kr,bz]
 ·refine⟨by simp,_,_,rfl,by rw[bz]; omega,by omega, ?_⟩
  rcases h0 with h0 | ⟨b,o,rfl,hS,hc⟩
  ·exact .inl (by rw[bz]; omega)
  ·by_cases ha:(bs.drop k).length=0
   ·exact .inl ha
   ·rw[bz]at ha;refine .inr ⟨b,o+k, ?_,hS,fun j x hj=> ?_⟩
    ·rw[if_neg (by omega),dE,jU]
    ·rw[dp];exact hc (k+j) x (by rw[<-hj,List.map_drop,fN])
theorem EB {S:Nat->Prop} {w:World} {a:Option Addr} {n cap:Nat} {bs:List UInt8} (h:bB S w (.slice a n cap) bs) {k:Nat} (hk:k<=bs.length) (h0:0<k):
  (∀w',(Instr.slice 29 (.slice a n cap) none (some (.int .i64 (k:Int))) none).run Tryz.prog w'= .ok (.slice a k cap) w')/\bB S w (.slice a (bs.take k).length cap) (bs.take k)/\ ∃b o,a=some ⟨b,o,none⟩:=by
 obtain⟨hl,a0,cap0,hv,hn,hm,h1⟩:=h;simp only[df]at hv;obtain⟨rfl,rfl,rfl⟩:=hv;have hz: ∀w',(sizeOf (Tryz.prog.elem 29)).run Tryz.prog w'= .ok 1 w':=fun _=>by kernel_rfl
 rcases h1 with h1 | ⟨b,o,rfl,hS,hc⟩
 ·omega
 ·refine⟨fun w'=> ?_,⟨by simp,_,_,rfl,by rw[aW]; omega,hm, .inr ⟨b,o,rfl,hS,fun j x hj=> ?_⟩⟩,b,o,rfl⟩
  ·rw[run_slice_h _ _ _ _ _ cV _ _ (by omega) (by omega),hz];simp only[Result.andThen,sliced,fx,jl,Nat.sub_zero]
   by_cases ha:cap=0
   ·omega
   ·rw[if_neg ha,dE,jU,dh]
  ·refine hc j x ?_;rw[List.map_take,eF]at hj
   split at hj
   ·exact hj
   ·cases hj
theorem kT {ops:Array Oper} {rest:List Oper} {o:Oper} {a:Act} {Q:Exit->Act->World->Prop} {w:World} (hgd:o.guard=none) (d s:Operand)
  (ho:o.op= .call {callee:= .builtin .copy,args:= #[d,s],argTypes:= #[29,29]}) (g off dLen dCap:Nat) (sp:Option Addr) (sLen sCap:Nat) (hd:a.eval d= .slice (some ⟨g,off,none⟩) dLen dCap) (hs:a.eval s= .slice sp sLen sCap)
  (cur:List Value) (t:TypeId) (hg:w.heap[g]? =some (.cells cur.toArray t (0,0))) (S:Nat->Prop) (bs:List UInt8) (hb:bB S w (.slice sp sLen sCap) bs) (k:Nat) (hk:k=Nat.min bs.length dLen) (hfit:off+dLen<=cur.length)
  (h: ∀w',w'.heap[g]? =some (.cells (splice cur off ((bs.take k).map aZ)).toArray t (0,0))->w.grownBy w' (some g)->wpList Tryz.prog ops Q rest (a.put o.dst (.int .i64 (k:Int))) w'):wpList Tryz.prog ops Q (o::rest) a w:=by
 obtain⟨hl,a0,cap0,hv,hn,hm,h1⟩:=hb;simp only[df]at hv;obtain⟨rfl,rfl,rfl⟩:=hv
 by_cases he:k=0
 ·subst he;refine wpList_copy_nothing hgd d s _ _ ho 5 cV (by kernel_rfl) _ _ _ _ _ _ hd hs (by rw[<-hk]) ?_;refine h w ?_ (qe w _);rw[hg,aY,eY];simp[splice]
 ·have hh:k<=bs.length:=by rw[hk]; exact Nat.min_le_left _ _
  have hp:k<=dLen:=by rw[hk]; exact Nat.min_le_right _ _
  rcases h1 with h1 | ⟨b,o2,rfl,hS,hc⟩
  ·omega
  ·have ha:((bs.take k).map aZ).length=k:=by rw[aw,aW]; omega
   refine wpList_copy_own hgd d s _ _ ho 5 cV (by kernel_rfl) g off dLen dCap ⟨b,o2,none⟩ bs.length sCap hd hs cur.toArray t hg ((bs.take k).map aZ) (by rw[ha,hk]) (fun j x hj=> ?_) (by rw[ha,bR]; omega) (fun v hv=>by obtain⟨x,_,rfl⟩:=aQ.1 hv; rfl) ?_
   ·rw[jU];refine hc j x ?_;rw[List.map_take,eF]at hj
    split at hj
    ·exact hj
    ·cases hj
   ·rw[ha];refine h _ ?_ ?_
    ·rw[eu w g _ _ t _ hg];simp only[splice,ha]
    ·exact⟨rfl,rfl,rfl,by simp[World.setRow],fun i _ hf=>setRow_other w g i _ (fun e=>hf (by rw[e]))⟩
theorem mQ (v:V8) {buf:List UInt8} (h:buf.length=64) (n:Nat):(dL v buf n).length=73:=by unfold dL V8.list; simp[h]
theorem Bb (v:V8) {buf:List UInt8} (h:buf.length=64) (n:Nat) (rest:List Value):(dL v buf n++rest).toArray[72]? =some (.int .i64 (n:Int)):=by rw[aF,bJ (by rw[mQ v h]; decide)];unfold dL;rw[bE (by simp[V8.list]),bE (by simp[V8.list,h])];simp[V8.list,h]
theorem Lm (v:V8) {buf:List UInt8} (h:buf.length=64) (n n':Nat) (rest:List Value):(dL v buf n++rest).set 72 (.int .i64 (n':Int))=dL v buf n'++rest:=by
 rw[List.set_append_left _ _ (by rw[mQ v h]; decide)]
 congr 1
 unfold dL;rw[et _ _ (by simp[V8.list]),et _ _ (by simp[V8.list,h])]
 congr 2
 simp[V8.list,h]
theorem ko (v:V8) (buf:List UInt8) (n:Nat) (rest:List Value):dL v buf n++rest=v.list.map fp++(buf.map aZ++([.int .i64 (n:Int)]++rest)):=by unfold dL; simp
theorem tf (v:V8) {buf:List UInt8} (h:buf.length=64) (n:Nat) (rest:List Value) {off:Nat} {xs:List UInt8} (ho:off+xs.length<=64):splice (dL v buf n++rest) (8+off) (xs.map aZ)=dL v (splice buf off xs) n++rest:=by
 have e: ∀(A B C:List Value),A.length=8->B.length=64->splice (A++(B++C)) (8+off) (xs.map aZ)=A++(splice B off (xs.map aZ)++C):=by
  intro A B C hA hB;unfold splice;have hx:(xs.map aZ).length=xs.length:=by simp
  rw[hx,List.take_append,jg,hA,show 8+off-8=off by omega,show 8+off+xs.length-8=off+xs.length by omega,bo (by omega),ee (by omega),aJ,fH (by omega),fG (by omega)];simp
 rw[ko,e _ _ _ (by simp[V8.list]) (by simpa using h),ko]
 congr 2
 unfold splice;simp
theorem qj {buf xs:List UInt8} (h:buf.length=64) {off:Nat} (ho:off+xs.length<=64):(splice buf off xs).length=64:=by rw[length_splice _ _ _ (by omega),h]
structure Cx (sb : Nat) (ty : TypeId) (rest : List Value) (D buf : List UInt8) (w wr : World) (j : Nat) : Prop where
 box:wr.heap[sb]? =some (.cells (dL (jY D j) buf D.length++rest).toArray ty (0,0))
 len:buf.length=64
 grown:w.grownBy wr (some sb)
theorem mw.grown {w wr:World} {sb:Nat} (h:mw w) (hne:sb≠5) (hg:w.grownBy wr (some sb)) (hlt:5<w.heap.size):mw wr:=by intro j x hj;rw[<-h j x hj];exact cC (hg.block _ hlt (fun e=>hne (bt e).symm))
theorem PU (v:V8) {buf:List UInt8} (n:Nat) (rest:List Value) {j:Nat} {x:UInt8} (hj:buf[j]? =some x):(dL v buf n++rest).toArray[8+j]? =some (aZ x):=by have ha:=(aA.1 hj).1;rw[aF,ko,bE (by simp[V8.list]),bJ (by simp[V8.list]; omega)];rw[show 8+j-(List.map fp v.list).length=j by simp[V8.list],bm,hj]; rfl
theorem zT {data xs:List UInt8} {q:Nat} (h:64*q<=data.length):(data++xs).drop (64*q)=data.drop (64*q)++xs:=fG h
theorem ED {buf xs:List UInt8} {u:Nat} (hb:buf.length=64) (hx:u+xs.length=64):splice buf u xs=buf.take u++xs:=by unfold splice;rw[hx,ee (by omega),cg]
def Pv :Value->Nat
 | .slice _ n _=>n
 | _=>0
def GY (sb:Nat) (ty:TypeId) (rest:List Value) (D:List UInt8) (w:World) (x:Value) (wr:World):Prop:=
 ∃(j rl cap:Nat) (a:Option Addr) (buf:List UInt8),rl=(D.drop (64*j)).length/\64*j<=D.length/\x= .slice a rl cap/\bB (· ≠sb) wr (.slice a rl cap) (D.drop (64*j))/\Cx sb ty rest D buf w wr j
theorem Cx.done {sb:Nat} {ty:TypeId} {rest:List Value} {D buf:List UInt8} {w wr w':World} {j:Nat} (h:Cx sb ty rest D buf w wr j) (hj:64*j<=D.length) (hl:(D.drop (64*j)).length<64)
  (hb:w'.heap[sb]? =some (.cells (splice (dL (jY D j) buf D.length++rest) 8 (((D.drop (64*j)).take (D.drop (64*j)).length).map aZ)).toArray ty (0,0))) (hg:wr.grownBy w' (some sb)):oF w' sb ty rest D/\w.grownBy w' (some sb):=by
 have e:D.length/64=j:=by rw[bz]at hl; omega
 have e2:D.length%64=(D.drop (64*j)).length:=by rw[bz]at hl ⊢; omega
 refine⟨⟨splice buf 0 (D.drop (64*j)),qj h.len (by omega), ?_, ?_⟩,bW h.grown hg⟩
 ·rw[e2,e];unfold splice;rw[aY,aJ,List.take_left]
 ·rw[hb,dw,e,tf _ h.len D.length rest (off:=0) (by omega)]
theorem me (sb:Nat) (ty:TypeId) (rest:List Value) (data xs:List UInt8) (xv:Value) (w:World) (h:oF w sb ty rest data) (hx:bB (· ≠sb) w xv xs) (hlen:data.length+xs.length<1152921504606846976) (hK:mw w) (hKlt:5<w.heap.size) (hne:sb≠5):
  Calls Tryz.prog 168 #[.pointer (some ⟨sb,0,none⟩),xv] w fun e w'=>e= .returned (.tuple #[])/\oF w' sb ty rest (data++xs)/\w.grownBy w' (some sb):=by
 obtain⟨buf,hD,Ht,hS⟩:=h;obtain⟨_,a,cap,rfl,h7,HD,-⟩:=id hx;have HX:=ag hx;have hV:=ag hS;have Hl:=ag Ht;have HK:=ag hK;have ha:=ag hD;obtain⟨n,hn⟩:=bH data.length;obtain⟨m,hm⟩:=bH xs.length;rw[<-hn]at hV hlen;rw[<-hm]at hlen h7;have c72:=(br w _ 72 _ _ _ hV.o).trans (Bb _ hD n rest);have f72:=dT w _ 72 _ _ hV.o
 have HN:=ag (aB hn hm);clear hx hS Ht hK hD;rw[<-hm];clear hn hm
 go_enter Tryz.func168,Tryz.ntmps168
 go_upto_region 2 with(fail)
 obtain⟨W1,hW⟩:=bH (w.setCell ⟨sb,72,none⟩ (.int .i64 ((n:Int)+(m:Int))));rw[<-hW];have h0:=ag (show W1.heap[sb]? =some (.cells (dL (jY data (n/64)) buf (n+m)++rest).toArray ty (0,0)) by rw[hW,gZ w _ _ _ _ _ hV.o,aX,<-Lm _ ha.o n (n+m) rest];rw[Int.natCast_add])
 have hJ:=ag (show w.grownBy W1 (some sb) by rw[hW]; exact cJ w sb 72 _);have Hm:=ag (HX.o.call hJ.o);clear hW c72 f72
 by_cases hu:n%64=0
 ·have He:(n:Int)%64=0:=by omega
  have h2:=ag (show GY sb ty rest (data++xs) w (.slice a m cap) W1 from by
   have e1:64*(n/64)=data.length:=by have:=HN.o.1; omega
   refine⟨n/64,m,cap,a,buf, ?_,by rw[ai]; omega,rfl, ?_, ?_⟩
   ·rw[e1,List.drop_left]; exact HN.o.2
   ·rw[e1,List.drop_left];have:=Hm.o;rw[<-HN.o.2]at this;exact this
   ·refine⟨?_,ha.o,hJ.o⟩;rw[tC xs (by omega),ai,<-HN.o.1,<-HN.o.2];exact h0.o)
  go_wp2_with fail;clear He hu
  go_loopw [1] (fun x wr=>GY sb ty rest (data++xs) w x wr) (fun x _=>Pv x)
  ·exact h2.o
  ·obtain⟨j,rl,cap2,a2,bf,hw,hj,rfl,hE,hl⟩:=hrel;have hb:=ag hw;have hA:=ag hE
   have hc:=ag hl;have Hd:rl<1152921504606846976:=by have:=HN.o;rw[hw,bz,ai]; omega
   obtain⟨_,_,_,hp,hf,hF,-⟩:=id hE
   simp only[df]at hp;obtain⟨rfl,-,rfl⟩:=hp;rw[<-hw]at hf;clear hw hE hl
   by_cases hP:64<=rl
   ·obtain⟨s1,s2,b,o,rfl⟩:=EB hA.o (k:=64) (by rw[<-hb.o]; exact hP) (by decide);obtain⟨a3,cap3,s3,s4⟩:=tg hA.o (k:=64) (by rw[<-hb.o]; exact hP);have S1: ∀w',(Instr.slice 29 (.slice (some ⟨b,o,none⟩) rl cap2) none (some (.int .i64 64)) none).run Tryz.prog w'= .ok (.slice (some ⟨b,o,none⟩) 64 cap2) w':=s1;obtain⟨r3,hv⟩:=bH (((List.drop (64*j) (data++xs)).drop 64).length)
    have S3: ∀w',(Instr.slice 29 (.slice (some ⟨b,o,none⟩) rl cap2) (some (.int .i64 64)) none none).run Tryz.prog w'= .ok (.slice a3 r3 cap3) w':=by rw[hv]; exact s3
    rw[<-hv]at s4;have hO:=ag hv;have S2:=ag s2;have S4:=ag s4;clear s1 s2 s3 s4 hv;go_wp2_with fail;refine(rj sb (jY (data++xs) j) (bf.map aZ++([.int .i64 ((data++xs).length:Int)]++rest)) ty b o cap2 ((List.drop (64*j) (data++xs)).take 64) wr (by rw[<-ko]; exact hc.o.box) (tD _ _) (by rw[aW,<-hb.o]; omega) (by omega) hF ?_ (HK.o.grown hne hc.o.grown hKlt) (by have:=hc.o.grown.size; omega)).mono ?_
    ·intro i x hi;obtain⟨_,_,_,hU,_,_,h9⟩:=S2.o;simp only[df]at hU;rw[<-hU.1]at h9
     rcases h9 with h9 | ⟨b9,o9,e9,_,h9⟩
     ·rw[aW,<-hb.o]at h9; omega
     ·simp only[aV,iK]at e9;rw[e9.1,e9.2.1];exact h9 i _ (by rw[bm,hi]; rfl)
    ·rintro e w2 ⟨rfl,hR,hG⟩;have h3:=ag (show Cx sb ty rest (data++xs) bf w w2 (j+1)from⟨by rw[ko]; exact hR,hc.o.len,bW hc.o.grown hG⟩);have h4:=ag (S4.o.call hG);clear hR hG;go_wp2_with fail
     go_roundw
     case rel=>
      refine⟨j+1,r3,cap3,a3,bf, ?_, ?_,rfl, ?_,h3.o⟩
      ·rw[hO.o,fY,show 64*j+64=64*(j+1) by omega]
      ·have:=hb.o;rw[bz]at this; omega
      ·have:=h4.o;rw[fY,show 64*j+64=64*(j+1) by omega]at this;exact this
     case measure=>
      have h1:=hO.o;rw[bz,<-hb.o]at h1
      show r3<rl
      omega
   ·have ho:rl=Nat.min (List.drop (64*j) (data++xs)).length 64:=by rw[<-hb.o]; exact(fC (by omega)).symm
    have hg:8+64<=(dL (jY (data++xs) j) bf (data++xs).length++rest).length:=by rw[ai,mQ _ hc.o.len]; omega
    have hC:=ag ho;have hd:=ag hg;clear ho hg;go_wp2_with (refine kT rfl _ _ rfl sb 8 64 64 a2 rl cap2 rfl rfl (dL (jY (data++xs) j) bf (data++xs).length++rest) ty hc.o.box (· ≠sb) (List.drop (64*j) (data++xs)) hA.o rl hC.o hd.o ?_; intro w3 he hh; have hz:=ag he; have hr:=ag hh; clear he hh)
    go_end0
    refine⟨rfl, ?_⟩;refine hc.o.done hj (by rw[<-hb.o]; omega) ?_ hr.o;rw[<-hb.o]; exact hz.o
 ·obtain⟨u,Hu⟩:=bH (n%64);have He:(n:Int)%64=(u:Int):=by omega
  have hT:(0:Int)<(u:Int):=by omega
  have Hf:(u:Int)<=64:=by omega
  obtain⟨k,hk⟩:=bH (Nat.min xs.length (64-u));have hH:k<=xs.length:=by rw[hk]; exact Nat.min_le_left _ _
  have hy:k<=64-u:=by rw[hk]; exact Nat.min_le_right _ _
  have Hs:k=xs.length\/k=64-u:=by
   rw[hk]
   rcases Nat.le_total xs.length (64-u)with e | e
   ·exact .inl (fC e)
   ·exact .inr (Nat.min_eq_right e)
  have HU:=ag (aB Hu hu);have Hk:=ag hk;have Hj:=ag Hs;have hN:=ag (aB hH hy);have hX:=Hm.o;rw[<-HN.o.2]at hX;obtain⟨a4,cap4,s4,y4⟩:=tg hX hH;obtain⟨m4,Hc⟩:=bH ((xs.drop k).length);rw[<-Hc]at s4 y4;have Hy:=ag Hc;have Y4:=ag y4;have Hn:=ag hX;have hd:=ag (show 8+u+(64-u)<=(dL (jY data (n/64)) buf (n+m)++rest).length by rw[ai,mQ _ ha.o]; omega)
  clear hu Hu hk Hs hH hy hX Hc y4;have Hg:wrap64 ((u:Int)+(k:Int))=(u:Int)+(k:Int):=by unfold wrap64; have:=hN.o.2; omega
  by_cases HB:u+k<64
  ·have HC:(u:Int)+(k:Int)<64:=by omega
   go_wp2_with (refine kT rfl _ _ rfl sb (8+u) (64-u) (64-u) a m cap rfl rfl (dL (jY data (n/64)) buf (n+m)++rest) ty h0.o (· ≠sb) xs Hn.o k Hk.o hd.o ?_; intro w3 he hh; have hz:=ag he; have hr:=ag hh; clear he hh);refine cS (gI rfl _ _ _) rfl ?_;have hk:k=xs.length:=by rcases Hj.o with e | e<;> omega
   have hs:=HN.o.1;have hI:=HN.o.2;have hL:=HU.o.1;have hq:64*(n/64)<=data.length:=by omega
   refine⟨rfl,⟨splice buf u xs,qj ha.o (by omega), ?_, ?_⟩,bW hJ.o hr.o⟩
   ·rw[ai,<-hs,<-hI,show(n+m)/64=n/64 by omega,show(n+m)%64=u+xs.length by omega,zT hq];have:=Hl.o;rw[<-hs,<-hL]at this;rw[<-this];unfold splice;rw[<-bg,List.take_left' (by rw[ai,aW]; have:=ha.o; omega)]
   ·rw[hz.o,hk,dw,tf _ ha.o _ rest (by omega),ai,<-hs,<-hI,show(n+m)/64=n/64 by omega,tC xs hq]
  ·have Hz:64<=(u:Int)+(k:Int):=by omega
   have hk:k=64-u:=by have:=hN.o.2; rcases Hj.o with e | e<;> omega
   have Hv:u+k=64:=by have:=hN.o.2; omega
   have hM:=ag (aB hk Hv);clear hk Hv;go_wp2_with (refine kT rfl _ _ rfl sb (8+u) (64-u) (64-u) a m cap rfl rfl (dL (jY data (n/64)) buf (n+m)++rest) ty h0.o (· ≠sb) xs Hn.o k Hk.o hd.o ?_; intro w3 he hh; have hz:=ag he; have hr:=ag hh; clear he hh);obtain⟨B,hB⟩:=bH (splice buf u (xs.take k));have Hb:=hN.o.1;have hZ:(xs.take k).length=k:=by rw[aW]; omega
   have hL:=HU.o.1;have hs:=HN.o.1;have hI:=HN.o.2;have hq:64*(n/64)<=data.length:=by omega
   have Hq:B.length=64:=by rw[hB]; exact qj ha.o (by rw[hZ]; have:=hM.o.2; omega)
   have Ho:w3.heap[sb]? =some (.cells (dL (jY data (n/64)) B (n+m)++rest).toArray ty (0,0)):=by rw[hz.o,tf _ ha.o _ rest (by rw[hZ]; have:=hM.o.2; omega),<-hB]
   have Hp:B=((data++xs).drop (64*(n/64))).take 64:=by have ht:=Hl.o;rw[<-hs,<-hL]at ht;rw[hB,ED ha.o (by rw[hZ]; exact hM.o.2),zT hq,<-ht,List.take_append,aW,ha.o,fC (by omega),<-hM.o.1,bo (l:=List.take u buf) (by rw[aW]; omega)]
   have Hi:=ag Hq;have Hw:=ag Hp;have Hh:=ag Ho;clear Hb hZ hL hs hI hq Hq Ho Hp hB;refine(rj sb (jY data (n/64)) (B.map aZ++([.int .i64 ((n+m:Nat):Int)]++rest)) ty sb 8 64 B w3 (by rw[<-ko]; exact Hh.o) (tD _ _) Hi.o (ah _) (by unfold maxLen; omega) ?_ (HK.o.grown hne (bW hJ.o hr.o) hKlt) (by have:=hJ.o.size; have:=hr.o.size; omega)).mono ?_
   ·intro i x hi;rw[br w3 _ _ _ _ _ Hh.o,PU _ _ rest hi]; rfl
   ·rintro e w4 ⟨rfl,Hr,Ha⟩;have hs:=HN.o.1;have hI:=HN.o.2;have hL:=HU.o.1;have hq:64*(n/64)<=data.length:=by omega
    have HA:=hM.o.2;have Hb:=hN.o.1;have Hx:=ag (bW hJ.o (bW hr.o Ha));have hY:=(Y4.o.call hr.o).call Ha;have h8:(data++xs).drop (64*(n/64+1))=xs.drop k:=by rw[show 64*(n/64+1)=data.length+k by omega,<-fY,List.drop_left]
    have h2:=ag (show GY sb ty rest (data++xs) w (.slice a4 m4 cap4) w4 from by
     refine⟨n/64+1,m4,cap4,a4,B, ?_,by rw[ai]; omega,rfl, ?_, ?_⟩
     ·rw[h8]; exact Hy.o
     ·rw[h8]; exact hY
     ·refine⟨?_,Hi.o,Hx.o⟩;rw[ko,jY,<-Hw.o,tC xs hq,ai,<-hs,<-hI];exact Hr)
    clear Hr Ha hs hI hL hq HA Hb hY h8;go_wp2_with fail;clear Hg HB Hz hT Hf He
    go_loopw [1] (fun x wr=>GY sb ty rest (data++xs) w x wr) (fun x _=>Pv x)
    ·exact h2.o
    ·obtain⟨j,rl,cap2,a2,bf,hw,hj,rfl,hE,hl⟩:=hrel;have hb:=ag hw;have hA:=ag hE
     have hc:=ag hl;have Hd:rl<1152921504606846976:=by have:=HN.o;rw[hw,bz,ai]; omega
     obtain⟨_,_,_,hp,hf,hF,-⟩:=id hE
     simp only[df]at hp;obtain⟨rfl,-,rfl⟩:=hp;rw[<-hw]at hf;clear hw hE hl
     by_cases hP:64<=rl
     ·obtain⟨s1,s2,b,o,rfl⟩:=EB hA.o (k:=64) (by rw[<-hb.o]; exact hP) (by decide);obtain⟨a3,cap3,s3,s4⟩:=tg hA.o (k:=64) (by rw[<-hb.o]; exact hP);have S1: ∀w',(Instr.slice 29 (.slice (some ⟨b,o,none⟩) rl cap2) none (some (.int .i64 64)) none).run Tryz.prog w'= .ok (.slice (some ⟨b,o,none⟩) 64 cap2) w':=s1;obtain⟨r3,hv⟩:=bH (((List.drop (64*j) (data++xs)).drop 64).length)
      have S3: ∀w',(Instr.slice 29 (.slice (some ⟨b,o,none⟩) rl cap2) (some (.int .i64 64)) none none).run Tryz.prog w'= .ok (.slice a3 r3 cap3) w':=by rw[hv]; exact s3
      rw[<-hv]at s4;have hO:=ag hv;have S2:=ag s2;have S4:=ag s4;clear s1 s2 s3 s4 hv;go_wp2_with fail;refine(rj sb (jY (data++xs) j) (bf.map aZ++([.int .i64 ((data++xs).length:Int)]++rest)) ty b o cap2 ((List.drop (64*j) (data++xs)).take 64) wr (by rw[<-ko]; exact hc.o.box) (tD _ _) (by rw[aW,<-hb.o]; omega) (by omega) hF ?_ (HK.o.grown hne hc.o.grown hKlt) (by have:=hc.o.grown.size; omega)).mono ?_
      ·intro i x hi;obtain⟨_,_,_,hU,_,_,h9⟩:=S2.o;simp only[df]at hU;rw[<-hU.1]at h9
       rcases h9 with h9 | ⟨b9,o9,e9,_,h9⟩
       ·rw[aW,<-hb.o]at h9; omega
       ·simp only[aV,iK]at e9;rw[e9.1,e9.2.1];exact h9 i _ (by rw[bm,hi]; rfl)
      ·rintro e w2 ⟨rfl,hR,hG⟩;have h3:=ag (show Cx sb ty rest (data++xs) bf w w2 (j+1)from⟨by rw[ko]; exact hR,hc.o.len,bW hc.o.grown hG⟩);have h4:=ag (S4.o.call hG);clear hR hG;go_wp2_with fail
       go_roundw
       case rel=>
        refine⟨j+1,r3,cap3,a3,bf, ?_, ?_,rfl, ?_,h3.o⟩
        ·rw[hO.o,fY,show 64*j+64=64*(j+1) by omega]
        ·have:=hb.o;rw[bz]at this; omega
        ·have:=h4.o;rw[fY,show 64*j+64=64*(j+1) by omega]at this;exact this
       case measure=>
        have h1:=hO.o;rw[bz,<-hb.o]at h1
        show r3<rl
        omega
     ·have ho:rl=Nat.min (List.drop (64*j) (data++xs)).length 64:=by rw[<-hb.o]; exact(fC (by omega)).symm
      have hg:8+64<=(dL (jY (data++xs) j) bf (data++xs).length++rest).length:=by rw[ai,mQ _ hc.o.len]; omega
      have hC:=ag ho;have hd:=ag hg;clear ho hg;go_wp2_with (refine kT rfl _ _ rfl sb 8 64 64 a2 rl cap2 rfl rfl (dL (jY (data++xs) j) bf (data++xs).length++rest) ty hc.o.box (· ≠sb) (List.drop (64*j) (data++xs)) hA.o rl hC.o hd.o ?_; intro w3 he hh; have hz:=ag he; have hr:=ag hh; clear he hh)
      go_end0
      refine⟨rfl, ?_⟩;refine hc.o.done hj (by rw[<-hb.o]; omega) ?_ hr.o;rw[<-hb.o]; exact hz.o
theorem Mu {S:Nat->Prop} {w:World} {v:Value} {bs:List UInt8} (hd:bB S w v bs):(convert 29 9 v).run Tryz.prog w= .ok (.string ⟨bs.toArray⟩) w:=by
 obtain⟨_,a,cap,rfl,hn,hm,h0⟩:=hd
 rcases h0 with h0 | ⟨b,o,rfl,_,hc⟩
 ·obtain rfl:=bq h0
  show(convert 29 9 (.slice a 0 cap)).run Tryz.prog w=_
  cases a<;> kernel_rfl
 ·have h:=run_convert_bytes_arg (P:=Tryz.prog) w 29 5 cV Tryz.underlying5 b o bs.length cap (bs.map fun b=>(b.toNat:Int)) (by simp) (fun i hi=>by rw[hc i (aZ bs[i]) (by simp[hi])];simp[aZ,List.getD,hi]) 9 eo
  rw[yx]at h;exact h
def ph (w:World):Prop:= ∀j x,qx.list[j]? =some x->w.cell? ⟨2,j,none⟩=some (fp x)
def IF :List Value:=[.int .u32 1779033703, .int .u32 3144134277, .int .u32 1013904242, .int .u32 2773480762, .int .u32 1359893119, .int .u32 2600822924, .int .u32 528734635, .int .u32 1541459225]
theorem ph.range {w:World} (h:ph w):w.rangeAt 2 0 IF:=by
 intro j x hj;rw[bO];have h2:IF=qx.list.map fp:=by kernel_rfl
 rw[h2,bm]at hj
 cases hq:qx.list[j]? with
 | none=>rw[hq]at hj; cases hj
 | some y=>
  rw[hq]at hj;rw[h j y hq];exact hj
theorem yr (w:World) (hI:ph w):Calls Tryz.prog 167 #[] w fun e w'=>e= .returned (.pointer (some ⟨w.heap.size,0,none⟩))/\oF w' w.heap.size 218 [] []/\Below w.heap.size w w'/\w.heap.size<w'.heap.size:=by
 have HR:=ag hI.range;clear hI
 go_enter Tryz.func167,Tryz.ntmps167
 go_wp2_with (first | (refine el rfl 216 _ rfl 2 0 rfl IF _ HR.o fP rfl (by kernel_rfl) ?_) | (refine wpList_build rfl 218 _ rfl (by kernel_rfl) ?_));go_ret;refine⟨rfl,⟨List.replicate 64 0,by simp,by simp, ?_⟩,eT,by simp⟩;rw[aC,show(Tryz.prog.built 218 [(0,Value.agg IF.toArray)]).getD #[]=(dL (jY [] (([]:List UInt8).length/64)) (List.replicate 64 0) ([]:List UInt8).length++[]).toArray by kernel_rfl]
theorem rB {ops:Array Oper} {rest:List Oper} {o:Oper} {a:Act} {Q:Exit->Act->World->Prop} (hgd:o.guard=none) (s x:Operand)
  (ho:o.op= .call {callee:= .builtin .append,args:= #[s,x],argTypes:= #[29,29]}) (base:Nat) (v:Value) (n m:Nat) (xs:List Value) (hs:a.eval s=v) (w0:World) (news:List Value) (e2:TypeId)
  (hx:a.eval x= .slice (some ⟨w0.heap.size,0,none⟩) m m) (hl:news.length=m) (h1: ∀u∈news,u.oneCell'=true) (hown:w0.ownsRow base 5 1 v n xs) (hn:n+m<1099511627775) (hbase:base<=w0.heap.size)
  (h: ∀v' w',w'.ownsRow base 5 1 v' (n+m) (xs++news)->w0.grownBy w' v.ownBlock->wpList Tryz.prog ops Q rest (a.put o.dst v') w'):wpList Tryz.prog ops Q (o::rest) a (w0.alloc (.cells news.toArray e2)):=by
 obtain⟨ht,⟨i,z,hc,hd,he,hf,hh⟩,hb,hq⟩:=Tryz.appBytes;have ha: ∀(j:Nat) u,news[j]? =some u->(w0.alloc (.cells news.toArray e2)).cell? ((⟨w0.heap.size,0,none⟩:Addr).add j)=some u:=by
  intro j u hj;rw[jU,bO,br _ _ _ _ _ _ (aC w0 (.cells news.toArray e2))]
  simpa using hj
 have hm:news.length=m*1:=by rw[hl,kr]
 obtain⟨v',w',hr,h2,hg,_⟩:=run_append_own (P:=Tryz.prog) (w0.alloc (.cells news.toArray e2)) base _ o.type _ i z 1 1 ht hc hd he hf hh hb v n xs (hown.alloc _) ⟨w0.heap.size,0,none⟩ m m news hm ha h1 (by unfold maxLen; omega) (by omega) (by simp; omega);refine gJ hgd fun K hK=> ?_
 unfold Oper.wp execOp;simp only[ho,resolve,invoke,builtin,Sem.run_bind,Sem.run_pure,iP,ji,bS,eY,hs,hx,hr];refine hK _ _ (h v' w' h2 ⟨hg.os,hg.tape,hg.output,by have:=hg.size; simp at this; omega,fun k hk hp=> ?_⟩);rw[hg.block k (by simp; omega) hp];exact cN _ _ _ hk
theorem NY (v:V8) {buf:List UInt8} (h:buf.length=64) (n:Nat):(dL v buf n).toArray.size=73:=by rw[bR,mQ v h]
theorem PV (v:V8) (buf:List UInt8) (n:Nat): ∀x∈dL v buf n,x.oneCell'=true:=by
 intro x hx;unfold dL at hx
 rcases aP.1 hx with hx | hx
 ·obtain⟨y,_,rfl⟩:=aQ.1 hx; rfl
 ·rcases aP.1 hx with hx | hx
  ·obtain⟨y,_,rfl⟩:=aQ.1 hx; rfl
  ·rw[aL.1 hx]; rfl
theorem Ll {w:World} {sb:Nat} {v:V8} {buf:List UInt8} {n:Nat} {rest:List Value} {ty:TypeId} (h:w.heap[sb]? =some (.cells (dL v buf n++rest).toArray ty (0,0))):w.rangeAt sb 0 (dL v buf n):=by intro j x hj;rw[br w _ _ _ _ _ h,bO,aF,bJ (aA.1 hj).1];exact hj
theorem CC : ∀l:List Nat,(l.flatMap BC).length=4*l.length
 | []=>rfl
 | x::l=>by rw[bC,ai,CC l,Ik,ay]; omega
theorem Rm (v:V8) {k:Nat} (h:k<8):v.list.take (k+1)=v.list.take k++[v.list.getD k 0]:=by
 have hc:k=0\/k=1\/k=2\/k=3\/k=4\/k=5\/k=6\/k=7:=by omega
 rcases hc with rfl | rfl | rfl | rfl | rfl | rfl | rfl | rfl<;> rfl
theorem jE {w w':World} (h:w.grownBy w' none):Below w.heap.size w w':=⟨h.os,h.tape,h.output,h.size,fun k hk=>h.block k hk (by simp)⟩
def vS (z:Nat):List UInt8:=128::List.replicate z 0
theorem KJ (z:Nat):vS (z+1)=vS z++[0]:=by unfold vS; rw[List.replicate_succ',aK]
theorem xX (z:Nat):(vS z).length=z+1:=by simp[vS]
structure wF (w W1 wr : World) (v : Value) (pad : List UInt8) : Prop where
 row:wr.ownsRow (w.heap.size+1) 5 1 v pad.length (pad.map aZ)
 below:Below W1.heap.size W1 wr
theorem wF.app {w W1 wr w':World} {v v':Value} {pad:List UInt8} {x:UInt8} {n:Nat} {cs:List Value} (h:wF w W1 wr v pad) (hs:W1.heap.size=w.heap.size+1) (h1:w'.ownsRow (w.heap.size+1) 5 1 v' (n+1) cs) (h2:wr.grownBy w' v.ownBlock) (hn:n=pad.length:=by simp[xX]) (hc:cs=pad.map aZ++[aZ x]:=by rfl):wF w W1 w' v' (pad++[x]):=by subst hn hc;refine⟨by simpa using h1,bZ h.below h.row h2 (by omega) (by have:=h.below.size; omega)⟩
theorem Pa (c:Nat) {k s:Nat} (h:k<8) (hs:s=56-8*k):(nR c).getD k 0=UInt8.ofNat (c/2^s):=by
 subst hs;have hc:k=0\/k=1\/k=2\/k=3\/k=4\/k=5\/k=6\/k=7:=by omega
 rcases hc with rfl | rfl | rfl | rfl | rfl | rfl | rfl | rfl
 case inr.inr.inr.inr.inr.inr.inr=>simp[nR]
 all_goals rfl
theorem Mk (c:Nat) {k:Nat} (h:k<8):(nR c)[k]? =some ((nR c).getD k 0):=by have:k<(nR c).length:=h;simp[List.getD_eq_getElem?_getD,this]
theorem pD (y:Nat) (v:Int) (h:v=(y:Int)):Value.int .u8 (v%256)=aZ (UInt8.ofNat y):=by subst h;unfold aZ;rw[UInt8.toNat_ofNat'];simp
theorem yt (sb:Nat) (ty:TypeId) (rest:List Value) (data:List UInt8) (w:World) (h:oF w sb ty rest data) (hlen:data.length<576460752303423488) (hK:mw w) (hKlt:5<w.heap.size):
  Calls Tryz.prog 169 #[.pointer (some ⟨sb,0,none⟩)] w fun e w'=>e= .returned (.string ⟨(qv data).toArray⟩)/\Below w.heap.size w w':=by
 obtain⟨buf,ho,Hv,hp⟩:=h;have Hh:=ag hp;have HH:=ag Hv;have HK:=ag hK;have hm:=ag ho;have HY:=am hp;obtain⟨n,hn⟩:=bH data.length;have c72:=(br w _ 72 _ _ _ Hh.o).trans (Bb _ ho data.length rest);rw[<-hn]at c72 hlen;have HN:=ag hn;clear hp Hv hK ho hn;have Hn:=ag (NY (jY data (data.length/64)) hm.o data.length)
 have hP:=ag (er (PV (jY data (data.length/64)) buf data.length));have hO:=ag (show(Tryz.prog.info? 218).map (·.size)=some (dL (jY data (data.length/64)) buf data.length).length by rw[mQ _ hm.o]; kernel_rfl);have hs:=ag (show(Tryz.prog.info? 218).map (·.size)=some (dL (jY data (data.length/64)) buf data.length).toArray.size by rw[Hn.o]; kernel_rfl)
 have HF:=ag (Ll Hh.o)
 go_enter Tryz.func169,Tryz.ntmps169
 go_wp2_with (first | (refine el rfl 218 _ rfl sb 0 rfl (dL (jY data (data.length/64)) buf data.length) _ HF.o Tryz.underlying218 rfl hO.o ?_) | (refine dF rfl 218 _ _ rfl w.heap.size _ rfl rfl _ _ (aC w _) hs.o (Hn.o.symm) hP.o ?_));obtain⟨W1,hu⟩:=bH ((w.alloc (.cells Tryz.zeroCells218 218)).setRow w.heap.size (dL (jY data (data.length/64)) buf data.length).toArray)
 rw[<-hu];have hq:W1.heap.size=w.heap.size+1:=by rw[hu]; simp
 have hE:=ag (show Below w.heap.size w W1 by rw[hu]; exact eK (eT) (ah _) _);have HC:=ag (show oF W1 w.heap.size 218 [] data from⟨buf,hm.o,HH.o,by rw[hu,cg]; exact eu _ _ _ _ _ _ (aC w _)⟩);clear hu;rw[<-hq];obtain⟨W2,hH⟩:=bH (W1.alloc (.cells #[.int .u8 128] 5));have Hj:=ag (show wF w W1 W2 (.slice (some ⟨W1.heap.size,0,none⟩) 1 1) (vS 0)from⟨by rw[hH];exact cW (e:=5) (size:=1) (base:=w.heap.size+1) W1 #[.int .u8 128] 1 (by omega) (by decide) (by simp),by rw[hH]; exact eT⟩)
 rw[<-hH];clear hH;have hd:=ag hq;clear hq;have yc:iT n<64:=by unfold iT; omega
 go_loopw [4] (fun x wr=> ∃z:Nat,z<=iT n/\wF w W1 wr x (vS z)) (fun x _=>64-Pv x)
 ·exact⟨0,by omega,Hj.o⟩
 ·obtain⟨z,hz,hc⟩:=hrel;obtain⟨ao,co,rfl,h1,h2⟩:=aH hc.row;have hl:(vS z).length=z+1:=xX z;have h0:=hc;rw[hl]at h0;have hT:=ag h0;clear h0;rw[hl]at h1 ⊢;have hU:=ag (show wr.ownsRow (w.heap.size+1) 5 1 (.slice ao (z+1) co) (z+1) ((vS z).map aZ) by have:=hc.row; rw[hl]at this; exact this);have H6:=hc.below.size;clear hc Hj
  have c72r:=(hT.o.below.cell (p:=⟨sb,72,none⟩) (by have:=hd.o; show sb<_; omega)).trans ((hE.o.cell (p:=⟨sb,72,none⟩) HY).trans c72)
  by_cases Hw:z<iT n
  ·have H8: ¬((n:Int)+((z:Int)+1))%64=56:=by unfold iT at Hw; omega
   have HZ:=ag (show ∀u∈[(Value.int .u8 0)],u.oneCell'=true by simp[Value.oneCell']);have Ha:z+1+1<1099511627775:=by omega
   have Hb:w.heap.size+1<=wr.heap.size:=by have:=hd.o; omega
   go_wp2_with (at_builtin; (refine rB rfl _ _ rfl (w.heap.size+1) (.slice ao (z+1) co) (z+1) 1 ((vS z).map aZ) rfl wr [.int .u8 0] _ rfl rfl HZ.o hU.o Ha Hb ?_); intro v' wc hb ha; have hS:=ag (hT.o.app (x:=0) hd.o hb ha hl.symm rfl); obtain⟨ae,ce,rfl,-,-⟩:=aH hb; clear hb ha)
   go_roundw
   ·exact⟨z+1,by omega,by rw[KJ]; exact hS.o⟩
   simp[Pv]; omega
  ·have hY:z=iT n:=by omega
   have HS:((n:Int)+((z:Int)+1))%64=56:=by rw[hY]; unfold iT; omega
   have HJ:=ag hY
   go_upto_region 6 with(fail)
   rename ((_ != _)=false)=>hcond
   clear hcond HS hY Hw;obtain⟨pz,h3⟩:=bH (vS z);have Hl:=ag h3;have HD:=ag (show wF w W1 wr (.slice ao (z+1) co) (pz++(nR (n*8)).take 0) by rw[aY,cg,h3]; exact hT.o);clear h3;go_wp2_with fail
   go_loopw [4,6] (fun x s wr=> ∃k:Nat,k<=8/\s= .int .i64 (56-8*(k:Int))/\wF w W1 wr x (pz++(nR (n*8)).take k)) (fun _ s _=>(intOf s+8).toNat)
   ·exact⟨0,by omega,rfl,HD.o⟩
   ·obtain⟨k,hk,rfl,hc⟩:=hrel;obtain⟨aq,cq,rfl,HL,H4⟩:=aH hc.row;obtain⟨pl,hC⟩:=bH ((pz++(nR (n*8)).take k).length);rw[<-hC]at hc HL ⊢;have hF:=ag hc;have hg:=ag (show wr.ownsRow (w.heap.size+1) 5 1 (.slice aq pl cq) pl ((pz++(nR (n*8)).take k).map aZ) by have:=hc.row; rw[<-hC]at this; exact this);have Hk:=ag hC;have HX:pl<=72:=by rw[hC,ai,Hl.o,xX]; have:=List.length_take_le k (nR (n*8)); have:(nR (n*8)).length=8:=rfl; omega
    have hX:=hc.below.size;have HR:=hd.o▸hX;clear hc hC
    by_cases hA:k<8
    ·obtain⟨sN,h4⟩: ∃sN:Nat,56-8*(k:Int)=(sN:Int):=⟨56-8*k,by omega⟩;rw[h4];have H0:(sN:Int)<=56:=by omega
     have HU:min sN 64=sN:=by omega
     obtain⟨x,hx⟩:=bH ((nR (n*8)).getD k 0);have HV:=ag (show Value.int .u8 ((n:Int)*8/2^sN%256)=aZ x by rw[hx,Pa _ hA (by omega:sN=56-8*k)]; exact pD _ _ rfl);have hV:=ag (show(nR (n*8)).take (k+1)=(nR (n*8)).take k++[x] by rw[hx,cw,Mk _ hA]; rfl);have HG:=ag h4;have H2: -8<=(sN:Int)-8:=by omega
     clear hx h4;have HZ:=ag (show ∀u∈[(Value.int .u8 ((n:Int)*8/2^sN%256))],u.oneCell'=true by simp[Value.oneCell']);have Ha:pl+1<1099511627775:=by omega
     have Hb:w.heap.size+1<=wr.heap.size:=by have:=hd.o; omega
     go_wp2_with (at_builtin; go_loud (refine rB rfl _ _ rfl (w.heap.size+1) (.slice aq pl cq) pl 1 ((pz++(nR (n*8)).take k).map aZ) rfl wr [.int .u8 ((n:Int)*8/2^sN%256)] _ rfl rfl HZ.o hg.o Ha Hb ?_); intro v' wc hb ha; go_loud (have hS:=ag (hF.o.app (x:=x) hd.o hb ha Hk.o (by rw[HV.o]))); obtain⟨ae,ce,rfl,-,-⟩:=aH hb; clear hb ha)
     go_roundw
     ·exact⟨k+1,by omega,by have:=HG.o; congr 1; omega,by rw[hV.o,<-bg]; exact hS.o⟩
     simp[intOf]; omega
    ·obtain rfl:k=8:=by omega
     have hJ:pz++(nR (n*8)).take 8=pN data.length:=by rw[Hl.o,HJ.o,<-HN.o,bo (show(nR (n*8)).length<=8 from ah _)];unfold pN vS;rw[eM (by omega)]
     have Ht:bB (· ≠w.heap.size) wr (.slice aq pl cq) (pN data.length):=by
      have h9:=cK hg.o;rw[hJ]at h9;have hG:pl=(pN data.length).length:=by rw[<-hJ]; exact Hk.o
      rw[hG]at h9 ⊢;exact h9.weak (fun j hj=>by show j≠w.heap.size; have:=hj.1; omega)
     have Hy:=ag Ht
     have H3:=ag hJ;clear Ht hJ;have HW:(pN data.length).length<=80:=by rw[xW]; unfold iT; omega
     go_wp2_with fail;refine(me w.heap.size 218 [] data (pN data.length) (.slice aq pl cq) wr ?_ Hy.o (by have:=HN.o; omega) ?_ (by have:=hd.o; omega) (by omega)).mono ?_
     ·obtain⟨b1,b2,b3,b4⟩:=HC.o;exact⟨b1,b2,b3,(hF.o.below.block _ (am b4)).trans b4⟩
     ·intro j x hj;rw[<-HK.o j x hj];exact cC ((hF.o.below.block _ (by have:=hd.o; show 5<_; omega)).trans (hE.o.block _ hKlt))
     ·rintro e w3 ⟨rfl,h7,hZ⟩;obtain⟨buf2,HP,HQ,hW⟩:=h7;obtain⟨vv,h8⟩:=bH (jY (data++pN data.length) ((data++pN data.length).length/64));rw[<-h8,ko]at hW;have Hf:=ag hW;have HI:=ag h8;have yb:=hZ.size;have hr:=ag (show Below w.heap.size w w3 from((hE.o.trans (hF.o.below.mono hE.o.size)).grown hZ (by have:=hd.o; omega) (fun k hk=>by cases hk; exact ah _)))
      have Hc:w.heap.size+1<=w3.heap.size:=by have:=hd.o; omega
      clear HP HQ hW h8 hZ;obtain⟨ya,⟨i9,z9,Ho,Hp,Hq,Hr,HO⟩,-,-⟩:=Tryz.appBytes;have hv:i9.bytes*32<=281474976710656:=by rw[Hr]; decide
      have H9:=ag (aB Ho (aB Hp (aB Hq hv)));clear Ho Hp Hq Hr HO hv
      go_upto_region 12 with(refine wpList_make_own _ rfl _ _ 29 rfl (w.heap.size+1) 5 i9 z9 1 cV H9.o.1 H9.o.2.1 H9.o.2.2.1 .i64 .i64 32 32 rfl rfl rfl H9.o.2.2.2 (by decide) Hc ?_; intro w4 hh Hu; have Hz:=ag hh; have hN:=ag Hu; clear hh Hu)
      have hM:=ag (hr.o.trans ((jE hN.o).mono hr.o.size));have Hx:=ag ((hN.o.block _ (am Hf.o) (by simp)).trans Hf.o);have HE:=ag (vO Hx.o);have Hd:w.heap.size+1<=w4.heap.size:=by have:=hN.o.size; omega
      have HA:=ag (show w4.ownsRow (w.heap.size+1) 5 1 (.slice (some ⟨w3.heap.size,0,none⟩) 0 32) (((vv.list.take 0).flatMap BC).length) (((vv.list.take 0).flatMap BC).map aZ)from Hz.o);go_wp2_with (refine el rfl 216 _ rfl w.heap.size 0 rfl [.int .u32 (vv.a:Int), .int .u32 (vv.b:Int), .int .u32 (vv.c:Int), .int .u32 (vv.d:Int), .int .u32 (vv.e:Int), .int .u32 (vv.f:Int), .int .u32 (vv.g:Int), .int .u32 (vv.h:Int)] _ HE.o fP rfl (by kernel_rfl) ?_)
      go_loopw [7,48] (fun x i wr=> ∃k:Nat,k<=8/\i= .int .i64 (k:Int)/\wr.ownsRow (w.heap.size+1) 5 1 x (((vv.list.take k).flatMap BC).length) (((vv.list.take k).flatMap BC).map aZ)/\Below w.heap.size w wr/\w.heap.size+1<=wr.heap.size) (fun _ i _=>8-(intOf i).toNat)
      ·exact⟨0,by omega,rfl,HA.o,hM.o,Hd⟩
      ·obtain⟨k,hk,rfl,he,hw,He⟩:=hrel;obtain⟨asx,csx,rfl,HM,H5⟩:=aH he;obtain⟨sl,hf⟩:=bH (((vv.list.take k).flatMap BC).length);rw[<-hf]at he HM ⊢;have Hm:=ag hf;have hR:=ag he;have Hg:=ag hw;have H1:sl<=32:=by rw[hf,CC,aW]; omega
       clear hf he hw
       by_cases hA:k<8
       ·have hI: ∀w,(Instr.index 216 (.agg #[.int .u32 (vv.a:Int), .int .u32 (vv.b:Int), .int .u32 (vv.c:Int), .int .u32 (vv.d:Int), .int .u32 (vv.e:Int), .int .u32 (vv.f:Int), .int .u32 (vv.g:Int), .int .u32 (vv.h:Int)]) (.int .i64 (k:Int))).run Tryz.prog w= .ok (.int .u32 ((vv.list.getD k 0:Nat):Int)) w:=MR vv hA;obtain⟨y,hy⟩:=bH (vv.list.getD k 0);rw[<-hy]at hI
        have hV:=ag (show(vv.list.take (k+1)).flatMap BC=(vv.list.take k).flatMap BC++BC y by rw[hy,Rm vv hA,bV]; simp);have HZ:=ag (show ∀u∈[(Value.int .u8 ((y:Int)/16777216%256)), .int .u8 ((y:Int)/65536%256), .int .u8 ((y:Int)/256%256), .int .u8 ((y:Int)%256)],u.oneCell'=true by simp[Value.oneCell']);have HV:=ag (show [(Value.int .u8 ((y:Int)/16777216%256)), .int .u8 ((y:Int)/65536%256), .int .u8 ((y:Int)/256%256), .int .u8 ((y:Int)%256)]=(BC y).map aZ by rw[pD (y/2^24) _ (by simp),pD (y/2^16) _ (by simp),pD (y/2^8) _ (by simp),pD y _ rfl]; rfl)
        have HT:(k:Int)<8:=by omega
        have hD:sl+4<1099511627775:=by omega
        clear hy;go_wp2_with (at_builtin; go_loud (refine rB rfl _ _ rfl (w.heap.size+1) (.slice asx sl csx) sl 4 (((vv.list.take k).flatMap BC).map aZ) rfl wr [.int .u8 ((y:Int)/16777216%256), .int .u8 ((y:Int)/65536%256), .int .u8 ((y:Int)/256%256), .int .u8 ((y:Int)%256)] _ rfl rfl HZ.o hR.o hD He ?_); intro v' wc hb ha; have HB:=ag hb; have Hi:=ag ha; obtain⟨ae,ce,rfl,-,-⟩:=aH hb; clear hb ha)
        go_roundw
        ·refine⟨k+1,by omega,by simp, ?_,bZ Hg.o hR.o Hi.o (by omega) (by omega),by have:=Hi.o.size; omega⟩;rw[hV.o,ai,Ik,aI,<-HV.o,<-Hm.o];exact HB.o
        simp[intOf]; omega
       ·obtain rfl:k=8:=by omega
        have hB:(vv.list.take 8).flatMap BC=qv data:=by unfold qv V8.out;rw[<-HI.o]; rfl
        have Hs:bB (fun _=>True) wr (.slice asx sl csx) (qv data):=by have h9:=cK hR.o;have hG:=Hm.o;rw[hB]at h9 hG;rw[hG]at h9 ⊢;exact h9.weak (fun _ _=>trivial)
        have H7:=Mu Hs;have hL:=ag Hg.o;clear Hs hB;go_wp2_with fail;go_ret;exact⟨rfl,hL.o⟩
theorem Pu {bs:List UInt8} (hl:bs.length=64) {k:Nat} (hk:k<64) {b:UInt8} (hb:bs[k]? =some b) (w:World):(Instr.index 213 (.agg (bs.map aZ).toArray) (.int .i64 (k:Int))).run Tryz.prog w= .ok (.int .u8 (b.toNat:Int)) w:=by
 have hz:(sizeOf 5).run Tryz.prog w= .ok 1 w:=by kernel_rfl
 obtain⟨h1,rfl⟩:=aA.1 hb;simp[Instr.index,asIntOf,run_underlying Tryz.underlying213,part,hz,hl,hk]
 rfl
theorem vo {w:World} {fb o:Nat} {bs:List UInt8} {ty:TypeId} (h:w.heap[fb]? =some (.cells (bs.map aZ).toArray ty (0,0))) (ho:o=0:=by rfl):w.rangeAt fb o (bs.map aZ):=by subst ho;intro j x hj;rw[br w _ _ _ _ _ h,bO,aF];exact hj
def gM (bs:List UInt8) (p:UInt8):List UInt8:=bs.map fun x=>x^^^p
structure sy (w : World) (bs : List UInt8) (p : UInt8) (k : Nat) (wr : World) : Prop where
 box:wr.heap[w.heap.size]? =some (.cells ((gM bs p).take k++List.replicate (64-k) 0 |>.map aZ).toArray 213 (0,0))
 below:Below w.heap.size w wr
theorem GT (a b:UInt8):bits BinOp.xor IntKind.u8 (a.toNat:Int) (b.toNat:Int)=(((a^^^b).toNat:Nat):Int):=by rw[u8_xor_nat _ _ a.toNat_lt b.toNat_lt,UInt8.toNat_xor]
theorem sy.put {w wr:World} {bs:List UInt8} {p b:UInt8} {k:Nat} (h:sy w bs p k wr) (hl:bs.length=64) (hk:k<64) (hb:bs[k]? =some b):sy w bs p (k+1) (wr.setCell ⟨w.heap.size,k,none⟩ (aZ (b^^^p))):=by
 refine⟨?_,h.below.trans ⟨rfl,rfl,rfl,by simp[World.setCell],fun j hj=>heap_setCell_other wr _ j _ (by show j≠w.heap.size; omega)⟩⟩;rw[gZ wr _ _ _ _ _ h.box]
 congr 2
 have e1:(gM bs p).take (k+1)=(gM bs p).take k++[b^^^p]:=by
  rw[cw]
  congr 1
  unfold gM;rw[bm,hb]; rfl
 have e2:((gM bs p).take k).length=k:=by unfold gM; rw[aW,aw,hl]; omega
 rw[e1,show 64-k=(64-(k+1))+1 by omega,iq,aX,aI,et _ _ (by rw[aw,e2]; omega),aw,e2,fa];simp
theorem sy.here {w wr:World} {bs:List UInt8} {p:UInt8} {k:Nat} (h:sy w bs p k wr) (hl:bs.length=64) (hk:k<64):wr.cell? ⟨w.heap.size,k,none⟩=some (.int .u8 0):=by
 have e2:((gM bs p).take k).length=k:=by unfold gM; rw[aW,aw,hl]; omega
 rw[br wr _ _ _ _ _ h.box,aF,aI,bE (by rw[aw,e2]; omega),aw,e2,fa,show 64-k=(64-(k+1))+1 by omega]
 rfl
theorem sy.drew {w wr:World} {bs:List UInt8} {p:UInt8} {k:Nat} (h:sy w bs p k wr):sy w bs p k wr.drew:=⟨h.box,h.below.trans (ak _ _).drew⟩
theorem nD (fb:Nat) (bs:List UInt8) (p:UInt8) (w:World) (hf:w.heap[fb]? =some (.cells (bs.map aZ).toArray 213 (0,0))) (hl:bs.length=64):
  Calls Tryz.prog 166 #[.int .u8 (p.toNat:Int), .pointer (some ⟨fb,0,none⟩)] w fun e w'=>e= .returned (.agg ((gM bs p).map aZ).toArray)/\Below w.heap.size w w':=by
 have HF:=ag hf;have hp:=am hf;clear hf
 go_enter Tryz.func166,Tryz.ntmps166
 go_upto_region 1 with(fail)
 change Code.wp _ _ _ _ (w.alloc (.cells (List.replicate 64 (Value.int .u8 0)).toArray 213))
 obtain⟨W1,hd⟩:=bH (w.alloc (.cells (List.replicate 64 (Value.int .u8 0)).toArray 213));have hj:=ag (show sy w bs p 0 W1 from⟨by rw[hd]; exact aC w _,by rw[hd]; exact eT⟩);have HR:=ag (vo ((hj.o.below.block fb hp).trans HF.o));have HL:=ag hl;have HI:=ag (show(Tryz.prog.info? 213).map (·.size)=some (bs.map aZ).length by rw[aw,hl]; kernel_rfl)
 rw[<-hd];clear hd;go_wp2_with (refine el rfl 213 _ rfl fb 0 rfl (bs.map aZ) _ HR.o Tryz.underlying213 rfl HI.o ?_)
 go_loopw [7] (fun i wr=> ∃k:Nat,k<=64/\i= .int .i64 (k:Int)/\sy w bs p k wr) (fun i _=>64-(intOf i).toNat)
 ·exact⟨0,by omega,rfl,hj.o⟩
 ·obtain⟨k,hk,rfl,hx⟩:=hrel;have HX:=ag hx;have hz:=hx.below.size;clear hx hl
  by_cases hc:k<64
  ·obtain⟨b,hb⟩: ∃b,bs[k]? =some b:=⟨bs[k]'(by rw[HL.o]; exact hc),bn _⟩;have hI:=Pu HL.o hc hb;have ch:=HX.o.here HL.o hc;have cf:=dT wr _ k _ _ HX.o.box;have ho:(k:Int)<64:=by omega
   have HB:=ag hb;clear hb;go_wp2_with fail
   go_roundw
   ·rw[GT];exact⟨k+1,by omega,by simp,HX.o.put HL.o hc HB.o⟩
   simp[intOf]; omega
  ·obtain rfl:k=64:=by omega
   have he:wr.heap[w.heap.size]? =some (.cells ((gM bs p).map aZ).toArray 213 (0,0)):=by rw[HX.o.box,fa,List.replicate_zero,cg,bo (by unfold gM; rw[aw,HL.o]; exact ah _)]
   have ha:(gM bs p).length=64:=by unfold gM; rw[aw,HL.o]
   have hg:=ag he;have hn:=ag (vo he);have hm:=ag (show(Tryz.prog.info? 213).map (·.size)=some ((gM bs p).map aZ).length by rw[aw,ha]; kernel_rfl);have hh:=ag (show(Tryz.prog.info? 213).map (·.size)=some ((gM bs p).map aZ).toArray.size by rw[bR,aw,ha]; kernel_rfl);have H1:=ag (er (fE (gM bs p)))
   clear he;go_wp2_with (first | (refine el rfl 213 _ rfl w.heap.size 0 rfl ((gM bs p).map aZ) _ hn.o Tryz.underlying213 rfl hm.o ?_) | (refine dF rfl 213 _ _ rfl w.heap.size _ rfl rfl _ _ hg.o hh.o rfl H1.o ?_));refine cS (results_cell_row rfl _ _ w.heap.size _ _ _ _ rfl (eu wr _ _ _ _ _ hg.o) Tryz.underlying213 rfl hh.o) rfl ?_;exact⟨rfl,eK HX.o.below (ah _) _⟩
def LT (w:World):Prop:=w.cell? ⟨0,0,none⟩=some (.int .u8 54)/\w.cell? ⟨0,1,none⟩=some (.int .u8 92)
theorem CG (w:World) (e:TypeId) (s:ByteArray):Below w.heap.size w (Lib.bytesWorld w e s):=
 ⟨rfl,rfl,rfl,by rw[Lib.bytesWorld_size]; omega,fun k hk=>Lib.bytesWorld_at_old w e s k hk⟩
theorem BE (w:World) (s:ByteArray) (hs:s.size<=maxLen):bB (fun k=>k=w.heap.size) (Lib.bytesWorld w 5 s) (.slice (some ⟨w.heap.size,0,none⟩) s.size (grownCap w s.size 0 5)) (bl s):=by
 have e:s.size=(bl s).length:=bi s;unfold bB bX;rw[<-e];refine⟨by rw[aw,e,kr],_,_,rfl,grownCap_ge _ _ _ _,grownCap_le_maxLen _ _ _ _ hs, .inr ⟨w.heap.size,0,rfl,rfl,fun j u hj=> ?_⟩⟩;have ha:=(aA.1 hj).1;rw[aw,<-e]at ha;rw[bO,Lib.bytesWorld_cell w _ s j ha,<-hj,bm]
 have hb:j<s.data.toList.length:=by simpa using ha
 show _=Option.map aZ (s.data.toList[j]?)
 rw[bn hb,cL,bn hb]
 rfl
theorem uy (s:ByteArray) (w:World) (hs:s.size<=maxLen): ∃W cp,(convert 9 29 (.string s)).run Tryz.prog w= .ok (.slice (some ⟨w.heap.size,0,none⟩) s.size cp) W/\bB (fun k=>k=w.heap.size) W (.slice (some ⟨w.heap.size,0,none⟩) s.size cp) (bl s)/\Below w.heap.size w W/\W.heap.size=w.heap.size+1:=
 ⟨_,_,Lib.run_convert_string_bytes (P:=Tryz.prog) w 9 29 5 s eo cV Tryz.underlying5,BE w s hs,CG w _ s,Lib.bytesWorld_size w _ s⟩
def nx (xs:List ByteArray):List UInt8:=xs.flatMap bl
theorem oF.below {w w':World} {sb:Nat} {ty:TypeId} {rest:List Value} {data:List UInt8} (h:oF w sb ty rest data) (hb:Below w.heap.size w w'):oF w' sb ty rest data:=by obtain⟨b,h1,h2,h3⟩:=h;exact⟨b,h1,h2,eA hb h3⟩
theorem mw.below {w w':World} (h:mw w) (hb:Below w.heap.size w w') (hlt:5<w.heap.size):mw w':=by intro j x hj;rw[<-h j x hj];exact cC (hb.block _ hlt)
theorem xD {xs:List ByteArray} {k:Nat} {s:ByteArray} (h:xs[k]? =some s):nx (xs.take (k+1))=nx (xs.take k)++bl s:=by unfold nx;rw[cw,h,bV]; simp
theorem MW {xs:List ByteArray} (k:Nat):(nx (xs.take k)).length<=(nx xs).length:=by
 unfold nx
 conv=>rhs; rw[<-dA k xs,bV,ai]
 omega
theorem EA (S:Nat->Prop) (xs:List ByteArray) (v:Value) (w:World) (hv:lP S w v xs) (hx: ∀s∈xs,s.size<=maxLen) (hn:xs.length<=1000) (hl:(nx xs).length<576460752303423488) (hI:ph w) (hK:mw w) (hKlt:5<w.heap.size):
  Calls Tryz.prog 165 #[v] w fun e w'=>e= .returned (.string ⟨(qv (nx xs)).toArray⟩)/\Below w.heap.size w w':=by
 obtain⟨hR,a,cap,rfl,hE,hM,h0⟩:=hv;have HK:=ag hK;have HX:=ag hx;have H0:=ag h0;have HL:=ag hl;clear hx h0 hK hl
 go_enter Tryz.func165,Tryz.ntmps165
 go_wp2_with fail;refine(yr _ hI).mono ?_;rintro e w1 ⟨rfl,hu,ho,hJ⟩;have hC:=ag hu;have hA:=ag ho;clear hu ho hI;go_wp2_with fail;obtain⟨n,hh⟩:=bH xs.length;have HN:=ag hh;rw[<-hh]at hn ⊢;clear hh
 go_loopw [9] (fun i wr=> ∃k:Nat,k<=n/\i= .int .i64 (k:Int)/\oF wr w.heap.size 218 [] (nx (xs.take k))/\Below w.heap.size w wr/\w.heap.size<wr.heap.size) (fun i _=>n-(intOf i).toNat)
 ·exact⟨0,by omega,rfl,hC.o,hA.o,hJ⟩
 ·obtain⟨k,hk,rfl,hs,hb,hz⟩:=hrel;have HS:=ag hs;have HB:=ag hb;clear hs hb
  by_cases hP:k<n
  ·have hF:k<xs.length:=by have:=HN.o; omega
   obtain⟨s,hs⟩: ∃s,xs[k]? =some s:=⟨_,bn hF⟩;have hy:=H0.o
   rcases hy with h0 | ⟨b,o,rfl,hS,hc⟩
   ·omega
   ·have c0:=hc k (.string s) (by rw[bm,hs]; rfl);have hg:=block_lt_of_cell c0;have c1:=(HB.o.cell (p:=⟨b,o+k,none⟩) hg).trans c0;have hO:(k:Int)<(n:Int):=by omega
    have hG:s.size<=maxLen:=HX.o s (aM hs);obtain⟨W2,cp,hN,hr,hq,hH⟩:=uy s wr hG;have hB:=ag hr
    have hd:=ag hq;have hm:=ag hs;clear hr hq hs c0 hc;go_wp2_with fail;refine(me w.heap.size 218 [] (nx (xs.take k)) (bl s) _ W2 (HS.o.below hd.o) (hB.o.weak (fun j hj=>by show j≠w.heap.size; omega)) (by have h1:=xD hm.o; have h2:=MW (xs:=xs) (k+1); rw[h1,ai]at h2; have:=HL.o; omega) (HK.o.below (aj HB.o hd.o) hKlt) (by have:=hd.o.size; omega) (by omega)).mono ?_
    rintro e w3 ⟨rfl,hw,hf⟩;have hD:=ag hw;have he:=ag (show Below w.heap.size w w3 from(aj HB.o hd.o).grown hf (by omega) (fun j hj=>by cases hj; exact ah _));have hL:w.heap.size<w3.heap.size:=by have:=hf.size; omega
    clear hw hf;go_wp2_with fail
    go_roundw
    ·exact⟨k+1,by omega,by simp,by rw[xD hm.o]; exact hD.o,he.o,hL⟩
    simp[intOf]; omega
  ·obtain rfl:k=n:=by omega
   have ha:nx (xs.take k)=nx xs:=by rw[HN.o,dw]
   go_wp2_with fail;refine(yt w.heap.size 218 [] (nx (xs.take k)) wr HS.o (by rw[ha]; exact HL.o) (HK.o.below HB.o hKlt) (by omega)).mono ?_;rintro e w3 ⟨rfl,hp⟩;have he:=ag (aj HB.o hp);clear hp;rw[ha];go_wp2_with fail;go_ret;exact⟨rfl,he.o⟩
theorem Dh (off:Nat): ∀(xs:List Value) (k:Nat) (cs:Array Value),off+k+xs.length<=cs.size->
  ((xs.zipIdx k).foldl (fun cs p=>cs.setIfInBounds (off+p.2) p.1) cs).toList=cs.toList.take (off+k)++(xs++cs.toList.drop (off+k+xs.length))
 | [],k,cs,_=>by simp
 | x::xs,k,cs,h=>by
  rw[ay]at h;rw[List.zipIdx_cons,ei,Dh off xs (k+1) _ (by simp; omega),Array.toList_setIfInBounds];have h1:off+k<cs.toList.length:=by simp; omega
  have h2:((cs.toList.set (off+k) x).take (off+(k+1)))=cs.toList.take (off+k)++[x]:=by rw[show off+(k+1)=off+k+1 by omega,cw,List.take_set_of_le (ah _),di h1]; rfl
  have h3:(cs.toList.set (off+k) x).drop (off+(k+1)+xs.length)=cs.toList.drop (off+k+(xs.length+1)):=by rw[List.drop_set_of_lt (by omega),show off+(k+1)+xs.length=off+k+(xs.length+1) by omega]
  rw[h2,h3,ay]; simp
theorem pI {place:Nat->Option (Nat×Nat)} {cells:Array Value} {i off size:Nat} {a:Array Value} {rest:List (Nat×Value)} (hp:place i=some (off,size)) (ha:a.size=size) (hf:off+size<=cells.size):
  Instr.fill place cells ((i, .agg a)::rest)=Instr.fill place (splice cells.toList off a.toList).toArray rest:=by
 subst ha;have hc:(Value.agg a).cells=a:=rfl;rw[Instr.fill,hp];simp only[hc];rw[if_neg (by simp; omega)]
 congr 1
 apply Array.ext'
 have h:=Dh off a.toList 0 cells (by simpa using hf);have e:(a.zipIdx.foldl (fun cs (p:Value×Nat)=>cs.setIfInBounds (off+p.2) p.1) cells)=((a.toList.zipIdx 0).foldl (fun cs (p:Value×Nat)=>cs.setIfInBounds (off+p.2) p.1) cells):=by rw[<-Array.foldl_toList,Array.toList_zipIdx]
 show(a.zipIdx.foldl (fun cs (p:Value×Nat)=>cs.setIfInBounds (off+p.2) p.1) cells).toList=_
 rw[e,h];simp[splice]
end
section
open Go
theorem ID {P:Program} {ops:Array Oper} {Q:Exit->Act->World->Prop} {S:World->Prop} {dst:Option Tmp} {op:Op} {ty:TypeId} {pos:String} {aft:Array Edge} {g:Option (Nat×Bool)} {fuel:Nat} {listed:Array Bool} {a:Act} {w:World} (i:Nat) (hi:ops[i]? =some ⟨dst,op,ty,pos,aft,g⟩)
  (hw:Region.wanted ⟨dst,op,ty,pos,aft,g⟩ (yielded ops a.tmps)=true)
  (h: ∀K:Act->World->Prop,(∀a w,S w/\pV P ops Q S fuel (listed.setIfInBounds i true) a w->K a w)->wpList P #[] (Exit.then K Q) [⟨dst,op,ty,pos, #[],none⟩] a w):
  wpOp P ops Q i (fun a' w'=>S w'/\wpAnyH P .any ops Q S fuel (listed.setIfInBounds i true) a' w') a w:=by
 have hb:yP P ops (fun a' w'=>S w'/\wpAnyH P .any ops Q S fuel (listed.setIfInBounds i true) a' w') Q [⟨dst,op,ty,pos,aft,g⟩] a w:=
  eE hw (fun K hK=>h K (fun a w hh=>hK a w ⟨hh.1,hh.2.out⟩))
 unfold wpOp;simp only[hi];exact yP.out hb
open Go Go.RowKit
theorem vY {ops:Array Oper} {rest:List Oper} {o:Oper} {a:Act} {Q:Exit->Act->World->Prop} {w:World} (hgd:o.guard=none) (d s:Operand)
  (ho:o.op= .call {callee:= .builtin .copy,args:= #[d,s],argTypes:= #[29,9]}) (g off dLen dCap:Nat) (k:ByteArray) (hd:a.eval d= .slice (some ⟨g,off,none⟩) dLen dCap) (hs:a.eval s= .string k)
  (cur:List Value) (t:TypeId) (hg:w.heap[g]? =some (.cells cur.toArray t (0,0))) (hle:k.size<=dLen) (hfit:off+k.size<=cur.length)
  (h:wpList Tryz.prog ops Q rest (a.put o.dst (.int .i64 (k.size:Int))) (w.setRow g (splice cur off ((bl k).map aZ)).toArray)):wpList Tryz.prog ops Q (o::rest) a w:=by
 refine gJ hgd fun K hK=> ?_
 have ha:=Lib.run_copy_row_string (P:=Tryz.prog) w 29 9 o.type 5 g off dLen dCap k cur.toArray t cV (by kernel_rfl) hg hle (by simpa using hfit);unfold Oper.wp;simp[execOp,ho,resolve,invoke,builtin,hd,hs,ha,Result.andThen];refine hK _ _ ?_;have e:splice cur off ((bl k).map aZ)=cur.take off++(Lib.byteCells k.data.toList++cur.drop (off+k.size)):=by unfold splice;rw[aw,<-bi]; rfl
 rw[e]at h
 simpa [goInt]using h
theorem GB {α:Type} (n:Nat) (x:α) (ys:List α):splice (List.replicate n x) 0 ys=ys++List.replicate (n-ys.length) x:=by unfold splice;rw[aY,aJ,List.drop_replicate,bO]
theorem FL {k:List UInt8} (h:k.length<=64):ja k=k++List.replicate (64-k.length) 0:=by unfold ja; rw[if_neg (by omega)]
theorem ph.below {w0 w w':World} (h:ph w) (hb:Below w0.heap.size w w') (hlt:2<w0.heap.size):ph w':=by intro j x hj;rw[<-h j x hj];exact cC (hb.block _ hlt)
theorem mJ {w:World} {sb:Nat} {cs:List Value} {ty:TypeId} (h:w.heap[sb]? =some (.cells cs.toArray ty (0,0))):w.rangeAt sb 0 cs:=by intro j x hj;rw[br w _ _ _ _ _ h,bO,aF];exact hj
theorem iS {ops:Array Oper} {rest:List Oper} {o:Oper} {a:Act} {w:World} {Q:Exit->Act->World->Prop} (hg:o.guard=none) (t:TypeId) (parts:Array (Nat×Operand)) (ho:o.op= .build t parts) (vs:List (Nat×Value))
  (hv:(parts.map fun(i,x)=>(i,a.eval x)).toList=vs) (c:Array Value) (hb:Tryz.prog.built t vs=some c) (h:wpList Tryz.prog ops Q rest (a.put o.dst (.agg c)) w):wpList Tryz.prog ops Q (o::rest) a w:=by
 subst hv;exact wpList_build hg t parts ho (by rw[hb]; rfl) (by rw[hb]; exact h)
def QP :List Value:=List.replicate 8 (.int .u32 0)++(List.replicate 64 (.int .u8 0)++([.int .i64 0]++List.replicate 64 (.int .u8 0)))
theorem pU :QP.length=137:=by kernel_rfl
theorem Cj {α:Type} {z a b:List α} (h:z.length=a.length+b.length):splice (splice z 0 a) a.length b=a++b:=by unfold splice;rw[aY,aJ,bO,List.take_left,jg,ee (by omega),aJ,fY,ee (by omega),cg]
theorem vm (a b:List Value) (ha:a.length=73) (hb:b.length=64):Tryz.prog.built 223 [(0, .agg a.toArray),(1, .agg b.toArray)]=some (a++b).toArray:=by
 have h: ∀parts,Tryz.prog.built 223 parts=Instr.fill (fun i=>(#[(0,73),(73,64)]:Array (Nat×Nat))[i]?) QP.toArray parts:=fun parts=>by kernel_rfl
 rw[h,pI (off:=0) (size:=73) rfl (by simpa using ha) (by rw[bR,pU]; decide),pI (off:=73) (size:=64) rfl (by simpa using hb) (by rw[bR,length_splice _ _ _ (by simp[pU,ha]),List.toList_toArray,pU]; decide)];simp only[Instr.fill];rw[<-ha,Cj (by rw[pU,ha,hb])]
theorem zG (c:List Value) (hc:c.length=137):Tryz.prog.built 225 [(0, .agg c.toArray)]=some c.toArray:=by
 have h: ∀parts,Tryz.prog.built 225 parts=Instr.fill (fun i=>(#[(0,137)]:Array (Nat×Nat))[i]?) QP.toArray parts:=fun parts=>by kernel_rfl
 rw[h,pI (off:=0) (size:=137) rfl (by simpa using hc) (by rw[bR,pU]; decide)];simp only[Instr.fill];unfold splice;rw[aY,aJ,bO,hc,ee (by rw[pU]; decide),cg]
def ve (w:World) (mb:Nat) (key data:List UInt8):Prop:=oF w mb 225 ((gM (ja key) 92).map aZ) (gM (ja key) 54++data)
theorem Dr (key:ByteArray) (w:World) (hk:key.size<=64) (hI:ph w) (hK:mw w) (hP:LT w) (hKlt:5<w.heap.size) (hplt:0<w.heap.size) (hilt:2<w.heap.size):
  Calls Tryz.prog 146 #[.string key] w fun e w'=> ∃mb,e= .returned (.pointer (some ⟨mb,0,none⟩))/\w.heap.size<=mb/\ve w' mb (bl key) []/\Below w.heap.size w w':=by
 have HK:=ag hK;have HI:=ag hI;have HP:=ag hP;clear hK hI hP
 go_enter Tryz.func146,Tryz.ntmps146
 go_upto_region 4 with(fail)
 change Code.wp _ _ _ _ (w.alloc (.cells (List.replicate 64 (Value.int .u8 0)).toArray 213))
 obtain⟨W1,hL⟩:=bH (w.alloc (.cells (List.replicate 64 (Value.int .u8 0)).toArray 213));rw[<-hL];have Hn:=ag (show W1.heap[w.heap.size]? =some (.cells (List.replicate 64 (Value.int .u8 0)).toArray 213 (0,0)) by rw[hL]; exact aC w _);have Hr:=ag (show Below w.heap.size w W1 by rw[hL]; exact eT);have Hj:W1.heap.size=w.heap.size+1:=by rw[hL]; simp
 clear hL;have Hs:=ag (show 0+key.size<=(List.replicate 64 (Value.int .u8 0)).length by simp; omega)
 go_upto_region 5 with(refine vY rfl _ _ rfl w.heap.size 0 64 64 key rfl rfl _ _ Hn.o hk Hs.o ?_)
 obtain⟨W2,hM⟩:=bH (W1.setRow w.heap.size (splice (List.replicate 64 (Value.int .u8 0)) 0 ((bl key).map aZ)).toArray);rw[<-hM];have Hv:=ag (show W2.heap[w.heap.size]? =some (.cells ((ja (bl key)).map aZ).toArray 213 (0,0)) by rw[hM,eu W1 _ _ _ _ _ Hn.o,FL (by rw[<-bi]; exact hk)];rw[GB,aw,aI,List.map_replicate]; rfl)
 have Hk:=ag (show Below w.heap.size w W2 by rw[hM]; exact eK Hr.o (ah _) _);have Hq:w.heap.size+1=W2.heap.size:=by rw[hM,size_setRow,Hj]
 clear hM Hj;have Ht:=ag (show W2.cell? ⟨0,1,none⟩=some (.int .u8 92)from(Hk.o.cell (p:=⟨0,1,none⟩) hplt).trans HP.o.2);go_wp2_with fail;refine eV (fun w'=>w'.cell? ⟨0,1,none⟩=some (.int .u8 92)) (by kernel_rfl) ?_;have hS:=Ht.o;obtain⟨V,hV⟩:=bH W2.drew;rw[<-hV];have h2:=ag (show Below w.heap.size w V by rw[hV]; exact Hk.o.trans ((ak _ _).drew))
 have Hw:=ag (show V.heap[w.heap.size]? =some (.cells ((ja (bl key)).map aZ).toArray 213 (0,0)) by rw[hV]; exact Hv.o);have hJ:V.cell? ⟨0,1,none⟩=some (.int .u8 92):=by rw[hV]; exact hS
 have Hx:w.heap.size+1=V.heap.size:=by rw[hV]; exact Hq
 clear hV hS Hq;refine dx 3 rfl hJ (by intro w' Hi; go_simp; rfl) ?_;simp only[bM];refine dx 4 rfl hJ (by intro w' Hi; go_simp; rfl) ?_;simp only[bM];refine dx 5 rfl hJ (by intro w' Hi; go_simp; rfl) ?_;simp only[bM];refine cA 0 rfl (fun K hK=> ?_);go_wp2_with fail;refine(yr V (HI.o.below h2.o hilt)).mono ?_;rintro e w1 ⟨rfl,Hp,hN,Hj⟩;have Hu:=ag Hp
 have hE:=ag hN;have hd:=ag (aj h2.o hN);have hH:w1.cell? ⟨0,1,none⟩=some (.int .u8 92):=(hN.cell (p:=⟨0,1,none⟩) (by have:=h2.o.size; show 0<_; omega)).trans hJ;have ho:=ag ((hN.block w.heap.size (by omega)).trans Hw.o);clear Hp hN hJ;go_wp2_with fail;refine⟨hH, ?_⟩;refine dx 1 rfl hH (by intro w' Hi; go_simp; rfl) ?_;simp only[bM];obtain⟨sbf,hB,Hg,hC⟩:=Hu.o
 rw[cg]at hC;have h3:=ag hC;have hY:=mQ (jY [] (([]:List UInt8).length/64)) hB ([]:List UInt8).length;have Hl:=ag hB;obtain⟨sc,Hh⟩:=bH (dL (jY [] (([]:List UInt8).length/64)) sbf ([]:List UInt8).length);rw[<-Hh]at h3 hY;have Hm:=ag Hh;have hX:=ag hY;have hF:=ag (show(Tryz.prog.info? 218).map (·.size)=some sc.length by rw[hY]; kernel_rfl)
 clear hB Hg hC hY Hh;refine pV.of (wpAnyH_all (rs:=[2,6]) (by kernel_rfl) (by simp) fun jj Ho=> ?_);simp only[aU,du,or_false]at Ho
 rcases Ho with rfl | rfl
 ·refine ID 2 rfl rfl (fun K hK=> ?_);have Hb:=ag (mJ h3.o);go_wp2_with (refine el rfl 218 _ rfl V.heap.size 0 rfl sc _ Hb.o Tryz.underlying218 rfl hF.o ?_);refine⟨hH, ?_⟩;refine cA 6 rfl (fun K hK=> ?_);go_wp2_with fail;refine(nD w.heap.size (ja (bl key)) 92 w1 ho.o (jy _)).mono ?_;rintro e w2 ⟨rfl,hm⟩;have hv:=ag hm;have hw:=ag (aj hd.o hm)
  have he:w2.cell? ⟨0,1,none⟩=some (.int .u8 92):=(hm.cell (p:=⟨0,1,none⟩) (by have:=hd.o.size; show 0<_; omega)).trans hH;clear hm;go_wp2_with fail;refine⟨he, ?_⟩;obtain⟨oc,hr⟩:=bH ((gM (ja (bl key)) 92).map aZ);have hc:oc.length=64:=by rw[hr]; unfold gM; rw[aw,aw,jy]
  rw[<-hr];have Ha:=ag hr;obtain⟨mc,hq⟩:=bH (sc++oc);have hA:=vm sc oc hX.o hc;rw[<-hq]at hA;have hb:mc.length=137:=by rw[hq,ai,hX.o,hc]
  have hR:=zG mc hb;have h8:=ag hq;clear hr hq hc hb;refine cA 7 rfl (fun K hK=> ?_);go_wp2_with (refine iS rfl 223 _ rfl [(0, .agg sc.toArray),(1, .agg oc.toArray)] (by kernel_rfl) mc.toArray hA ?_);refine⟨he, ?_⟩;simp only[bM];refine cA 8 rfl (fun K hK=> ?_);go_wp2_with (refine iS rfl 225 _ rfl [(0, .agg mc.toArray)] (by kernel_rfl) mc.toArray hR ?_)
  refine⟨he, ?_⟩;simp only[bM];clear hA hR;refine cA 9 rfl (fun K hK=> ?_);go_wp2_with fail;obtain⟨w3,hs⟩:=bH (w2.alloc (.cells mc.toArray 225));rw[<-hs];have h4:=ag (show w3.heap[w2.heap.size]? =some (.cells mc.toArray 225 (0,0)) by rw[hs]; exact aC _ _);have hp:Below w2.heap.size w2 w3:=by rw[hs]; exact eT
  have hD:=ag (aj hw.o hp);have hy:w3.cell? ⟨0,1,none⟩=some (.int .u8 92):=(hp.cell (p:=⟨0,1,none⟩) (by have:=hw.o.size; show 0<_; omega)).trans he;have Hd:=ag (((hp.block w.heap.size (by have:=hw.o.size; have:=hd.o.size; have:=hv.o.size; omega)).trans (eA hv.o ho.o)));clear hs hp he;refine⟨hy, ?_⟩;refine cA 10 rfl (fun K hK=> ?_);go_wp2_with fail
  refine⟨hy, ?_⟩;refine cH (by kernel_rfl) ?_;clear hy;have He:w3.cell? ⟨0,0,none⟩=some (.int .u8 54):=(hD.o.cell (p:=⟨0,0,none⟩) hplt).trans HP.o.1;go_wp2_with fail;refine(nD w.heap.size (ja (bl key)) 54 w3 Hd.o (jy _)).mono ?_;rintro e w4 ⟨rfl,hz⟩;have h0:=ag (aj hD.o hz);have hG:=ag (eA hz h4.o);have ha:(gM (ja (bl key)) 54).length=64:=by unfold gM; rw[aw,jy]
  have hx:=ag (show(Tryz.prog.info? 213).map (·.size)=some ((gM (ja (bl key)) 54).map aZ).toArray.size by rw[bR,aw,ha]; kernel_rfl);have hZ:=ag (er (fE (gM (ja (bl key)) 54)));have hg:=ag (show(List.replicate 64 (Value.int .u8 0)).toArray.size=((gM (ja (bl key)) 54).map aZ).toArray.size by rw[bR,bR,aw,ha]; simp)
  have hf:=ag (show(w4.alloc (.cells (List.replicate 64 (Value.int .u8 0)).toArray 213)).heap[w4.heap.size]? =some (.cells (List.replicate 64 (Value.int .u8 0)).toArray 213 (0,0))from aC w4 _);clear hz He;go_wp2_with (refine dF rfl 213 _ _ rfl w4.heap.size _ rfl rfl _ _ hf.o hx.o hg.o hZ.o ?_);simp only[Act.put];refine bL [some 5,none] (by kernel_rfl) (by kernel_rfl) (by kernel_rfl) ?_
  simp only[ef,aS,aY,bA,bQ];obtain⟨w5,hu⟩:=bH (((w4.alloc (.cells (List.replicate 64 (Value.int .u8 0)).toArray 213)).setRow w4.heap.size ((gM (ja (bl key)) 54).map aZ).toArray).drew);have h9:=ag (show w5.heap[w4.heap.size]? =some (.cells ((gM (ja (bl key)) 54).map aZ).toArray 213 (0,0)) by rw[hu]; exact eu _ _ _ _ _ _ hf.o)
  have hO:Below w4.heap.size w4 w5:=by rw[hu]; exact(eK (eT) (ah _) _).drew
  have h7:=ag (eA hO hG.o);have hn:=ag (aj h0.o hO);have hh:w4.heap.size≠w2.heap.size:=by have:=am hG.o; omega
  change Cr _ _ _ _ _ _
  repeat (first | (refine cy rfl ?_; simp only[bM]) | (refine cP rfl (fun K hK=> ?_); go_simp; refine hK _ ?_; clear hK K))
  refine cO ?_;refine eE rfl (fun K hK=> ?_);go_wp2_with fail
  change Calls _ _ _ (((w4.alloc (.cells (List.replicate 64 (Value.int .u8 0)).toArray 213)).setRow w4.heap.size ((gM (ja (bl key)) 54).map aZ).toArray).drew) _
  rw[<-hu];clear hu;have hT:bB (· ≠w2.heap.size) w5 (.slice (some ⟨w4.heap.size,0,none⟩) 64 64) (gM (ja (bl key)) 54):=⟨by simp,_,_,by rw[ha],by omega,by unfold maxLen; omega, .inr ⟨_,_,rfl,hh,fun j x hj=>by rw[br w5 _ _ _ _ _ h9.o,bO,aF]; exact hj⟩⟩;have hl:oF w5 w2.heap.size 225 oc []:=⟨sbf,Hl.o,by simp,by rw[<-Hm.o,<-h8.o]; exact h7.o⟩
  have Hf:w.heap.size+1<=w2.heap.size:=by have:=hv.o.size; have:=hE.o.size; omega
  refine(me w2.heap.size 225 oc [] (gM (ja (bl key)) 54) _ w5 hl hT (by rw[ha]; decide) (HK.o.below hn.o hKlt) (by have:=hn.o.size; omega) (by omega)).mono ?_;rintro e w6 ⟨rfl,hW,hU⟩;have Hc:=ag hW;have h1:=ag (hn.o.grown hU hn.o.size (fun k hk=>by cases hk; omega));clear hW hU hT hl;go_wp2_with fail;go_ret;refine⟨_,rfl,by omega, ?_,h1.o⟩;unfold ve
  rw[<-Ha.o,cg];exact Hc.o
 ·refine ID 6 rfl rfl (fun K hK=> ?_);go_wp2_with fail;refine(nD w.heap.size (ja (bl key)) 92 w1 ho.o (jy _)).mono ?_;rintro e w2 ⟨rfl,hm⟩;have hv:=ag hm;have hw:=ag (aj hd.o hm);have he:w2.cell? ⟨0,1,none⟩=some (.int .u8 92):=(hm.cell (p:=⟨0,1,none⟩) (by have:=hd.o.size; show 0<_; omega)).trans hH;have Hb:=ag (mJ (eA hm h3.o))
  clear hm;go_wp2_with fail;refine⟨he, ?_⟩;refine cA 2 rfl (fun K hK=> ?_);go_wp2_with (refine el rfl 218 _ rfl V.heap.size 0 rfl sc _ Hb.o Tryz.underlying218 rfl hF.o ?_);refine⟨he, ?_⟩;obtain⟨oc,hr⟩:=bH ((gM (ja (bl key)) 92).map aZ);have hc:oc.length=64:=by rw[hr]; unfold gM; rw[aw,aw,jy]
  rw[<-hr];have Ha:=ag hr;obtain⟨mc,hq⟩:=bH (sc++oc);have hA:=vm sc oc hX.o hc;rw[<-hq]at hA;have hb:mc.length=137:=by rw[hq,ai,hX.o,hc]
  have hR:=zG mc hb;have h8:=ag hq;clear hr hq hc hb;refine cA 7 rfl (fun K hK=> ?_);go_wp2_with (refine iS rfl 223 _ rfl [(0, .agg sc.toArray),(1, .agg oc.toArray)] (by kernel_rfl) mc.toArray hA ?_);refine⟨he, ?_⟩;simp only[bM];refine cA 8 rfl (fun K hK=> ?_);go_wp2_with (refine iS rfl 225 _ rfl [(0, .agg mc.toArray)] (by kernel_rfl) mc.toArray hR ?_)
  refine⟨he, ?_⟩;simp only[bM];clear hA hR;refine cA 9 rfl (fun K hK=> ?_);go_wp2_with fail;obtain⟨w3,hs⟩:=bH (w2.alloc (.cells mc.toArray 225));rw[<-hs];have h4:=ag (show w3.heap[w2.heap.size]? =some (.cells mc.toArray 225 (0,0)) by rw[hs]; exact aC _ _);have hp:Below w2.heap.size w2 w3:=by rw[hs]; exact eT
  have hD:=ag (aj hw.o hp);have hy:w3.cell? ⟨0,1,none⟩=some (.int .u8 92):=(hp.cell (p:=⟨0,1,none⟩) (by have:=hw.o.size; show 0<_; omega)).trans he;have Hd:=ag (((hp.block w.heap.size (by have:=hw.o.size; have:=hd.o.size; have:=hv.o.size; omega)).trans (eA hv.o ho.o)));clear hs hp he;refine⟨hy, ?_⟩;refine cA 10 rfl (fun K hK=> ?_);go_wp2_with fail
  refine⟨hy, ?_⟩;refine cH (by kernel_rfl) ?_;clear hy;have He:w3.cell? ⟨0,0,none⟩=some (.int .u8 54):=(hD.o.cell (p:=⟨0,0,none⟩) hplt).trans HP.o.1;go_wp2_with fail;refine(nD w.heap.size (ja (bl key)) 54 w3 Hd.o (jy _)).mono ?_;rintro e w4 ⟨rfl,hz⟩;have h0:=ag (aj hD.o hz);have hG:=ag (eA hz h4.o);have ha:(gM (ja (bl key)) 54).length=64:=by unfold gM; rw[aw,jy]
  have hx:=ag (show(Tryz.prog.info? 213).map (·.size)=some ((gM (ja (bl key)) 54).map aZ).toArray.size by rw[bR,aw,ha]; kernel_rfl);have hZ:=ag (er (fE (gM (ja (bl key)) 54)));have hg:=ag (show(List.replicate 64 (Value.int .u8 0)).toArray.size=((gM (ja (bl key)) 54).map aZ).toArray.size by rw[bR,bR,aw,ha]; simp)
  have hf:=ag (show(w4.alloc (.cells (List.replicate 64 (Value.int .u8 0)).toArray 213)).heap[w4.heap.size]? =some (.cells (List.replicate 64 (Value.int .u8 0)).toArray 213 (0,0))from aC w4 _);clear hz He;go_wp2_with (refine dF rfl 213 _ _ rfl w4.heap.size _ rfl rfl _ _ hf.o hx.o hg.o hZ.o ?_);simp only[Act.put];refine bL [some 5,none] (by kernel_rfl) (by kernel_rfl) (by kernel_rfl) ?_
  simp only[ef,aS,aY,bA,bQ];obtain⟨w5,hu⟩:=bH (((w4.alloc (.cells (List.replicate 64 (Value.int .u8 0)).toArray 213)).setRow w4.heap.size ((gM (ja (bl key)) 54).map aZ).toArray).drew);have h9:=ag (show w5.heap[w4.heap.size]? =some (.cells ((gM (ja (bl key)) 54).map aZ).toArray 213 (0,0)) by rw[hu]; exact eu _ _ _ _ _ _ hf.o)
  have hO:Below w4.heap.size w4 w5:=by rw[hu]; exact(eK (eT) (ah _) _).drew
  have h7:=ag (eA hO hG.o);have hn:=ag (aj h0.o hO);have hh:w4.heap.size≠w2.heap.size:=by have:=am hG.o; omega
  change Cr _ _ _ _ _ _
  repeat (first | (refine cy rfl ?_; simp only[bM]) | (refine cP rfl (fun K hK=> ?_); go_simp; refine hK _ ?_; clear hK K))
  refine cO ?_;refine eE rfl (fun K hK=> ?_);go_wp2_with fail
  change Calls _ _ _ (((w4.alloc (.cells (List.replicate 64 (Value.int .u8 0)).toArray 213)).setRow w4.heap.size ((gM (ja (bl key)) 54).map aZ).toArray).drew) _
  rw[<-hu];clear hu;have hT:bB (· ≠w2.heap.size) w5 (.slice (some ⟨w4.heap.size,0,none⟩) 64 64) (gM (ja (bl key)) 54):=⟨by simp,_,_,by rw[ha],by omega,by unfold maxLen; omega, .inr ⟨_,_,rfl,hh,fun j x hj=>by rw[br w5 _ _ _ _ _ h9.o,bO,aF]; exact hj⟩⟩;have hl:oF w5 w2.heap.size 225 oc []:=⟨sbf,Hl.o,by simp,by rw[<-Hm.o,<-h8.o]; exact h7.o⟩
  have Hf:w.heap.size+1<=w2.heap.size:=by have:=hv.o.size; have:=hE.o.size; omega
  refine(me w2.heap.size 225 oc [] (gM (ja (bl key)) 54) _ w5 hl hT (by rw[ha]; decide) (HK.o.below hn.o hKlt) (by have:=hn.o.size; omega) (by omega)).mono ?_;rintro e w6 ⟨rfl,hW,hU⟩;have Hc:=ag hW;have h1:=ag (hn.o.grown hU hn.o.size (fun k hk=>by cases hk; omega));clear hW hU hT hl;go_wp2_with fail;go_ret;refine⟨_,rfl,by omega, ?_,h1.o⟩;unfold ve
  rw[<-Ha.o,cg];exact Hc.o
structure Bv (w : World) : Prop where
 init:ph w
 kons:mw w
 pads:LT w
 ilt:2<w.heap.size
 klt:5<w.heap.size
 plt:0<w.heap.size
theorem Bv.below {w w':World} (h:Bv w) (hb:Below w.heap.size w w'):Bv w':=
 ⟨h.init.below hb h.ilt,h.kons.below hb h.klt,⟨(hb.cell (p:=⟨0,0,none⟩) h.plt).trans h.pads.1,(hb.cell (p:=⟨0,1,none⟩) h.plt).trans h.pads.2⟩,aO h.ilt hb.size,aO h.klt hb.size,aO h.plt hb.size⟩
theorem yV (mb:Nat) (key data xs:List UInt8) (xv:Value) (w:World) (h:ve w mb key data) (hx:bB (· ≠mb) w xv xs) (hlen:64+data.length+xs.length<1152921504606846976) (hE:Bv w) (hne:mb≠5):
  Calls Tryz.prog 147 #[.pointer (some ⟨mb,0,none⟩),xv] w fun e w'=>e= .returned (.tuple #[])/\ve w' mb key (data++xs)/\w.grownBy w' (some mb):=by
 have HH:=ag h;have HX:=ag hx;have HE:=ag hE;clear h hx hE
 go_enter Tryz.func147,Tryz.ntmps147
 go_wp2_with fail;refine(me mb 225 _ _ xs xv w HH.o HX.o (by rw[ai]; unfold gM; rw[aw,jy]; omega) HE.o.kons HE.o.klt hne).mono ?_;rintro e w1 ⟨rfl,h1,h2⟩;have H1:=ag h1;have H2:=ag h2;clear h1 h2;go_wp2_with fail
 go_end0
 refine⟨rfl, ?_,H2.o⟩;unfold ve;rw[<-bg];exact H1.o
theorem QO (k d:List UInt8):zq k d=qv (nx [⟨(gM (ja k) 92).toArray⟩,⟨(qv (gM (ja k) 54++d)).toArray⟩]):=by
 unfold nx zq;rw[bC,bC,List.flatMap_nil,cg,jQ,jQ]
 rfl
theorem Ks {w:World} {mb:Nat} {key data:List UInt8} (h:ve w mb key data): ∃C:List Value,w.heap[mb]? =some (.cells C.toArray 225 (0,0))/\ ∀w',w'.heap[mb]? =some (.cells C.toArray 225 (0,0))->bB (fun _=>True) w' (.slice (some ⟨mb,73,none⟩) 64 64) (gM (ja key) 92):=by
 obtain⟨buf,h1,h2,h3⟩:=h;refine⟨_,h3,fun w' hw=> ?_⟩;have hl:(gM (ja key) 92).length=64:=by unfold gM; rw[aw,jy]
 refine⟨by simp,_,_,by rw[hl],by omega,by unfold maxLen; omega, .inr ⟨mb,73,rfl,trivial,fun j x hj=> ?_⟩⟩;rw[br w' _ _ _ _ _ hw,aF,bE (by rw[mQ _ h1]; omega),mQ _ h1,show 73+j-73=j by omega];exact hj
theorem Ds (mb:Nat) (key data:List UInt8) (w:World) (h:ve w mb key data) (hlen:64+data.length<288230376151711744) (hE:Bv w):
  Calls Tryz.prog 148 #[.pointer (some ⟨mb,0,none⟩)] w fun e w'=>e= .returned (.string ⟨(zq key data).toArray⟩)/\Below w.heap.size w w':=by
 obtain⟨C,hC,hd⟩:=Ks h;have HH:=ag h;have HE:=ag hE;have HC:=ag hC;have hh:=ag hd;have hH:=am hC;clear h hE hC hd
 go_enter Tryz.func148,Tryz.ntmps148
 go_wp2_with fail;refine eV (fun w'=>w'.heap[mb]? =some (.cells C.toArray 225 (0,0))) (by kernel_rfl) ?_;obtain⟨V,hV⟩:=bH w.drew;rw[<-hV];have hg:=ag (show Below w.heap.size w V by rw[hV]; exact(ak _ _).drew);have ha:V.heap[mb]? =some (.cells C.toArray 225 (0,0)):=by rw[hV]; exact HC.o
 have hF:=ag (show oF V mb 225 ((gM (ja key) 92).map aZ) (gM (ja key) 54++data) by rw[hV]; exact HH.o);clear hV
 iterate 5 (refine cF rfl ha (by intro w' hu; go_simp; rfl) ?_; simp only[bM])
 have hA: ∀w':World,w'.heap[mb]? =some (.cells C.toArray 225 (0,0))->(convert 29 9 (.slice (some ⟨mb,73,none⟩) 64 64)).run Tryz.prog w'= .ok (.string ⟨(gM (ja key) 92).toArray⟩) w':=fun w' hw=>Mu (hh.o w' hw)
 refine cF rfl ha (by intro w' hu; have hG:=hA w' hu; go_simp; rfl) ?_;simp only[bM];clear hA
 iterate 4 (refine cF rfl ha (by intro w' hu; go_simp; rfl) ?_; simp only[bM])
 refine cA 10 rfl (fun K hK=> ?_);go_wp2_with fail;refine(yt mb 225 _ _ V hF.o (by rw[ai]; unfold gM; rw[aw,jy]; omega) (HE.o.below hg.o).kons (HE.o.below hg.o).klt).mono ?_;rintro e w1 ⟨rfl,hn⟩;have hB:=ag (aj hg.o hn);have hl:w1.heap[mb]? =some (.cells C.toArray 225 (0,0)):=eA hn ha;clear hn ha;go_wp2_with fail
 refine⟨hl, ?_⟩;refine cA 11 rfl (fun K hK=> ?_);obtain⟨so,hr⟩: ∃so:ByteArray,so=⟨(gM (ja key) 92).toArray⟩:=⟨_,rfl⟩;obtain⟨si,hq⟩: ∃si:ByteArray,si=⟨(qv (gM (ja key) 54++data)).toArray⟩:=⟨_,rfl⟩;have hy:=ag hr;have hx:=ag hq;rw[<-hr,<-hq];clear hr hq;go_wp2_with fail;obtain⟨w2,hf⟩:=bH (w1.alloc (.cells #[.string so, .string si] 9))
 rw[<-hf];have ho:Below w1.heap.size w1 w2:=by rw[hf]; exact eT
 have hv:=ag (aj hB.o ho);have hm:w2.heap[mb]? =some (.cells C.toArray 225 (0,0)):=eA ho hl;have hk:=ag (show lP (fun _=>True) w2 (.slice (some ⟨w1.heap.size,0,none⟩) 2 2) [so,si]from⟨by simp,_,_,rfl,by simp,by unfold maxLen; omega, .inr ⟨_,_,rfl,trivial,fun j x hj=>by rw[hf,br _ _ _ _ _ _ (aC w1 _),bO]; simpa using hj⟩⟩)
 clear hf ho hl;refine⟨hm, ?_⟩;refine cA 12 rfl (fun K hK=> ?_);go_wp2_with fail;have he:=HE.o.below hv.o;have hc:so.size=64:=by rw[hy.o,bi,jQ]; unfold gM; rw[aw,jy]
 have hb:si.size=32:=by rw[hx.o,bi,jQ,uf]
 refine(EA (fun _=>True) [so,si] _ w2 hk.o (fun s hs=>by
  simp only[aU,du,or_false]at hs;unfold maxLen
  rcases hs with rfl | rfl<;> omega) (by simp) (by unfold nx; rw[bC,bC,List.flatMap_nil,cg,ai,<-bi,<-bi,hc,hb]; decide) he.init he.kons he.klt).mono ?_
 rintro e w3 ⟨rfl,hp⟩;have hD:=ag (aj hv.o hp);have hz:w3.heap[mb]? =some (.cells C.toArray 225 (0,0)):=eA hp hm;rw[hy.o,hx.o,<-QO];clear hp hm he hc hb;go_wp2_with fail;refine⟨hz, ?_⟩;refine cA 13 rfl (fun K hK=> ?_);go_wp2_with fail;refine⟨hz, ?_⟩;refine cH (by kernel_rfl) ?_;go_wp2_with fail;go_ret;exact⟨rfl,hD.o⟩
theorem vy (S:Nat->Prop) (key:ByteArray) (xs:List UInt8) (xv:Value) (w:World) (hk:key.size<=64) (hx:bB S w xv xs) (hlen:xs.length<281474976710656) (hE:Bv w):
  Calls Tryz.prog 116 #[.string key,xv] w fun e w'=>e= .returned (.string ⟨(zq (bl key) xs).toArray⟩)/\Below w.heap.size w w':=by
 have HX:=ag hx;have HE:=ag hE;clear hx hE
 go_enter Tryz.func116,Tryz.ntmps116
 go_wp2_with fail;refine(Dr key w hk HE.o.init HE.o.kons HE.o.pads HE.o.klt HE.o.plt HE.o.ilt).mono ?_;rintro e w1 ⟨mb,rfl,hh,hm,hb⟩;have HM:=ag hm;have HB:=ag hb;clear hm hb;go_wp2_with fail;refine(yV mb (bl key) [] xs xv w1 HM.o ?_ (by simp; omega) (HE.o.below HB.o) (by have:=HE.o.klt; omega)).mono ?_
 ·have h2:=bX.mono (T:=fun k=>k≠mb) HX.o (fun k hk _=>by show k≠mb; omega) (by omega);exact bX.below h2 (by omega) HB.o
 ·rintro e w2 ⟨rfl,ha,he⟩;rw[aJ]at ha;have hg:=ag ha;have hc:=ag (HB.o.grown he HB.o.size (fun k hk=>by cases hk; omega));clear ha he;go_wp2_with fail;refine(Ds mb (bl key) xs w2 hg.o (by omega) (HE.o.below hc.o)).mono ?_;rintro e w3 ⟨rfl,hd⟩;have hf:=ag (aj hc.o hd);clear hd;go_wp2_with fail;go_ret;exact⟨rfl,hf.o⟩
end
section
open Go.RowKit
def jW :Nat->Nat->List UInt8
 | 0,n=>[UInt8.ofNat n]
 | f+1,n=>if 127<n then UInt8.ofNat (n%128+128)::jW f (n/128)else [UInt8.ofNat n]
def bG (n:Nat):List UInt8:=jW 10 n
theorem Ea : ∀(f n:Nat),(jW f n).length<=f+1
 | 0,_=>by simp[jW]
 | f+1,n=>by
  rw[jW]
  split
  ·have:=Ea f (n/128); simp; omega
  ·simp
theorem dG (n:Nat):(bG n).length<=11:=Ea 10 n
def LL (bs:List UInt8) (w:World) (e:Ending) (w':World):Prop:= ∃v,e= .returned v/\bB (w.heap.size<= ·) w' v bs/\Below w.heap.size w w'
theorem mB {n:Nat} (h:n<256):aZ (UInt8.ofNat n)= .int .u8 (n:Int):=by unfold aZ; rw[ep (by exact h)]
theorem pF (b:UInt8): ∀u∈[aZ b],u.oneCell'=true:=by simp[aZ,Value.oneCell']
theorem mP (n:Nat) (w:World) (hn:n<18446744073709551616):Calls Tryz.prog 103 #[.int .u64 (n:Int)] w (LL (bG n) w):=by
 have HO:=ag (cW (e:=5) (size:=1) (base:=w.heap.size) w #[] 0 (ah _) (aR _) (by simp));have HB:=ag ((ak w.heap.size w).alloc (ah _) (.cells #[] 5))
 go_enter Tryz.func103,Tryz.ntmps103
 go_wp2_with fail
 go_loopw [0,3] (fun x o wr=> ∃(f m:Nat) (acc:List UInt8),x= .int .u64 (m:Int)/\m<18446744073709551616/\m<2^(7*f)/\acc++jW f m=bG n/\wr.ownsRow w.heap.size 5 1 o acc.length (acc.map aZ)/\acc.length<=20/\Below w.heap.size w wr) (fun x _ _=>(intOf x).toNat)
 ·exact⟨10,n,[],rfl,hn,jk hn (by decide),rfl,HO.o,by simp,HB.o⟩
 ·obtain⟨f,m,acc,rfl,hm,hs,he,hd,hw,hb⟩:=hrel;have HE:=ag he;have hf:=ag hd;have hq:=ag hb;have hr:=ag hs;have hg:=hb.size;obtain⟨ao,co,rfl,h1,h2⟩:=aH hd;clear he hd hb hs HO HB
  by_cases hp:127<m
  ·have hv:Value.int .u8 ((m:Int)%128+128)=aZ (UInt8.ofNat (m%128+128)):=by rw[mB (by omega)]; simp
   have HV:=ag hv;obtain⟨f,rfl⟩: ∃g,f=g+1:=⟨f-1,by
    cases f with
    | zero=>have:=hr.o; simp at this; omega
    | succ g=>rfl⟩
   have hj:=ag (show(acc++[UInt8.ofNat (m%128+128)])++jW f (m/128)=bG n by rw[<-HE.o,jW,if_pos hp]; simp);have hl:=ag (show m/128<2^(7*f) by have h3:=hr.o;rw[show 7*(f+1)=7*f+7 by omega,gD]at h3;exact fo (by omega))
   have hu:acc.length<=10:=by have h4:=dG n;rw[<-HE.o,ai,jW,if_pos hp,ay]at h4;omega
   clear hv;go_wp2_with (at_builtin; go_must (refine iX Tryz.appBytes rfl _ _ rfl w.heap.size (.slice ao acc.length co) acc.length (acc.map aZ) rfl wr [.int .u8 ((m:Int)%128+128)] _ rfl rfl (by rw[HV.o]; exact pF _) hf.o (by omega) hg ?_); intro v' wc hc ha _; have hh:=ag (bZ hq.o hf.o ha (ah _) hg); have ho:=ag (show wc.ownsRow w.heap.size 5 1 v' (acc++[UInt8.ofNat (m%128+128)]).length ((acc++[UInt8.ofNat (m%128+128)]).map aZ) by rw[ai,aI,bS,eY,<-HV.o]; exact hc); obtain⟨ae,ce,rfl,-,-⟩:=aH hc; clear hc ha)
   go_roundw
   ·exact⟨f,m/128,acc++[UInt8.ofNat (m%128+128)],by simp,by omega,hl.o,hj.o,ho.o,by simp; omega,hh.o⟩
   simp[intOf]; omega
  ·have hv:Value.int .u8 (m:Int)=aZ (UInt8.ofNat m):=by rw[mB (by omega)]
   have HV:=ag hv;have hj:=ag (show acc++[UInt8.ofNat m]=bG n by
    rw[<-HE.o]
    cases f with
    | zero=>rfl
    | succ f=>rw[jW,if_neg hp])
   clear hv;go_wp2_with (at_builtin; go_must (refine iX Tryz.appBytes rfl _ _ rfl w.heap.size (.slice ao acc.length co) acc.length (acc.map aZ) rfl wr [.int .u8 (m:Int)] _ rfl rfl (by rw[HV.o]; exact pF _) hf.o (by omega) hg ?_); intro v' wc hc ha _; have hh:=ag (bZ hq.o hf.o ha (ah _) hg); have ho:=ag (show wc.ownsRow w.heap.size 5 1 v' (acc++[UInt8.ofNat m]).length ((acc++[UInt8.ofNat m]).map aZ) by rw[ai,aI,bS,eY,<-HV.o]; exact hc); obtain⟨ae,ce,rfl,-,-⟩:=aH hc; clear hc ha)
   go_ret;rw[<-hj.o];exact⟨_,rfl,(cK ho.o).weak (fun k hk=>hk.1),hh.o⟩
def ly :List UInt8->Nat
 | []=>0
 | b::l=>b.toNat%128+128*ly l
def uX (l:List UInt8):Nat:=ly l%18446744073709551616
def zh (data:List UInt8) (off:Nat):Nat->Nat->Except Int (Nat×Nat)
 | 0,_=> .error 3
 | f+1,k=>match data[off+k]? with
  | none=> .error 3
  | some b=>if 128<=b.toNat then zh data off f (k+1)
   else if bG (uX ((data.drop off).take (k+1)))=(data.drop off).take (k+1)then .ok (uX ((data.drop off).take (k+1)),off+k+1)else .error 3
theorem Cl : ∀l:List UInt8,ly l<2^(7*l.length)
 | []=>by simp[ly]
 | b::l=>by have:=Cl l;rw[ly,ay,show 7*(l.length+1)=7*l.length+7 by omega,gD];omega
theorem uW : ∀(l:List UInt8) (b:UInt8),ly (l++[b])=ly l+b.toNat%128*2^(7*l.length)
 | [],b=>by simp[ly]
 | c::l,b=>by
  rw[aK,ly,uW l b,ly,ay,show 7*(l.length+1)=7*l.length+7 by omega,gD,Nat.mul_add];have:128*(b.toNat%128*2^(7*l.length))=b.toNat%128*(2^(7*l.length)*2^7):=by rw[Nat.mul_left_comm,Nat.mul_comm 128]
  omega
theorem yI : ∀(f n:Nat),n<2^(7*(f+1))->ly (jW f n)=n
 | 0,n,h=>by have h1:n<128:=h;rw[jW,ly,ly,ep (by show n<256; omega)]; omega
 | f+1,n,h=>by
  rw[jW]
  split
  ·rw[ly,yI f (n/128) (by rw[show 7*(f+1+1)=7*(f+1)+7 by omega,gD]at h;exact fo (by omega)),ep (by show _<256; omega)]
   omega
  ·rw[ly,ly,ep (by show n<256; omega)]; omega
theorem DI : ∀(f n:Nat) (c:UInt8) (l:List UInt8),0<n->n<2^(7*(f+1))->jW f n=l++[c]->c.toNat≠0
 | 0,n,c,l,h0,h,he=>by
  have h1:n<128:=h;rw[jW]at he;have:c=UInt8.ofNat n:=by
   have:=congrArg List.getLast? he
   simpa using this.symm
  rw[this,ep (by show n<256; omega)]; omega
 | f+1,n,c,l,h0,h,he=>by
  rw[jW]at he
  split at he
  ·cases l with
   | nil=>
    simp only[aJ,gt]at he;have:=congrArg List.length he.2;have h3:(jW f (n/128)).length≠0:=by cases f<;> (rw[jW]; try split)<;> simp
    simp at this; exact absurd (by simp[this]) h3
   | cons d l=>
    simp only[aK,gt]at he;exact DI f (n/128) c l (by omega) (by rw[show 7*(f+1+1)=7*(f+1)+7 by omega,gD]at h;exact fo (by omega)) he.2
  ·have:c=UInt8.ofNat n:=by
    have:=congrArg List.getLast? he
    simpa using this.symm
   rw[this,ep (by show n<256; omega)]; omega
theorem IW : ∀(f:Nat) (l:List UInt8) (c:UInt8),(∀b∈l,128<=b.toNat)->c.toNat<128->(l≠[]->c.toNat≠0)->l.length<=f->jW f (ly (l++[c]))=l++[c]
 | f,[],c,_,h2,_,_=>by
  have hv:ly ([]++[c])=c.toNat:=by simp[ly]; omega
  rw[hv];have hc:UInt8.ofNat c.toNat=c:=UInt8.ofNat_toNat
  cases f with
  | zero=>rw[jW,hc]; rfl
  | succ f=>rw[jW,if_neg (by omega),hc]; rfl
 | 0,b::l,c,_,_,_,h4=>by simp at h4
 | f+1,b::l,c,h1,h2,h3,h4=>by
  have hb:=h1 b (by simp);have ha:=b.toNat_lt;have hr:=IW f l c (fun x hx=>h1 x (by simp[hx])) h2 (fun _=>h3 (by simp)) (by simpa using h4);have hp:0<ly (l++[c]):=by rw[uW];have hc:=h3 (by simp);have:0<c.toNat%128*2^(7*l.length):=Nat.mul_pos (by omega) (Nat.two_pow_pos _);omega
  rw[aK,jW,ly,if_pos (by omega),show(b.toNat%128+128*ly (l++[c]))/128=ly (l++[c]) by omega,hr,
   show(b.toNat%128+128*ly (l++[c]))%128+128=b.toNat by omega,UInt8.ofNat_toNat]
theorem Nu (m x k:Nat) (h:m<2^k):m ||| (x*2^k)=m+x*2^k:=by rw[Nat.or_comm,Nat.mul_comm,<-Nat.two_pow_add_eq_or_of_lt h,mi]
theorem Ns (m:Nat) (b:UInt8) (k:Nat) (hk:k<=9) (h:m<2^(7*k)):zg m b k=(m+b.toNat%128*2^(7*k))%18446744073709551616:=by
 unfold zg;have hb:b.toNat%128<128:=by omega
 generalize b.toNat%128=x at hb
 by_cases h9:k=9
 ·subst h9;have e:x*2^(7*9)%18446744073709551616=x%2*2^(7*9):=by simp only[Nat.reduceMul,Nat.reducePow]; omega
  rw[e,Nu _ _ _ h];simp only[Nat.reduceMul,Nat.reducePow]at *;omega
 ·have hp:2^(7*k)*128<=18446744073709551616:=by rw[show(128:Nat)=2^7 from rfl,show(18446744073709551616:Nat)=2^64 from rfl,<-gD];exact gW (by omega) (by omega)
  have hx:x*2^(7*k)+2^(7*k)<=2^(7*k)*128:=by rw[Nat.mul_comm (2^(7*k)),<-Nat.succ_mul]; exact dl _ (by omega)
  rw[eM (by omega),Nu _ _ _ h,eM (by omega)]
theorem Ed (data:List UInt8) (off:Nat): ∀(f k:Nat),k+f=10->(∀b∈(data.drop off).take k,128<=b.toNat)->off+k<=data.length->
  pn data f k (off+k) (ly ((data.drop off).take k))=zh data off f k
 | 0,_,_,_,_=>rfl
 | f+1,k,hk,hp,hle=>by
  rw[pn,zh]
  cases hd:data[off+k]? with
  | none=>rfl
  | some b=>
   have hb8:=b.toNat_lt;have hlt:off+k<data.length:=(aA.1 hd).1;have hlen:((data.drop off).take k).length=k:=by simp; omega
   have hh:(data.drop off).take (k+1)=(data.drop off).take k++[b]:=by rw[cw,fN,hd]; rfl
   have hm:=Cl ((data.drop off).take k);rw[hlen]at hm;have hs:=uW ((data.drop off).take k) b;rw[hlen,<-hh]at hs;have hn:=Ns _ b k (by omega) hm;rw[<-hs]at hn;simp only
   by_cases ha:128<=b.toNat
   ·rw[if_pos ha,if_pos ha]
    by_cases hf:f=0
    ·subst hf; rfl
    ·have hl:ly ((data.drop off).take (k+1))<18446744073709551616:=by have:=Cl ((data.drop off).take (k+1));refine aO this ?_;rw[show(18446744073709551616:Nat)=2^64 from rfl];exact gW (by omega) (by simp; omega)
     rw[hn,eM hl];have:=Ed data off f (k+1) (by omega) (by
      intro x hx;rw[hh,aP]at hx
      rcases hx with hx | hx
      ·exact hp x hx
      ·simp at hx; subst hx; exact ha) (by omega)
     exact this
   ·rw[if_neg ha,if_neg ha,hn];have hg:uX ((data.drop off).take (k+1))=ly ((data.drop off).take (k+1))%18446744073709551616:=rfl;have hr:uX ((data.drop off).take (k+1))<2^(7*(10+1)):=by rw[hg]; exact jk (cZ _ (by decide)) (by decide)
    by_cases hb:pm b k=true
    ·rw[if_pos hb,if_neg];intro he;have h1:=yI 10 _ hr;rw[show jW 10 _=_ from he]at h1;simp only[pm,gU,aE,aG]at hb
     rcases hb with⟨h2,h3⟩ | ⟨h2,h3⟩
     ·have ho:0<ly ((data.drop off).take (k+1))%18446744073709551616:=by
       rcases eI (ly ((data.drop off).take (k+1))%18446744073709551616)with h0 | h0
       ·exfalso
        rw[hg,h0]at he;have:=congrArg List.length he;simp[bG,jW]at this;omega
       ·exact h0
      exact DI 10 _ b ((data.drop off).take k) (by rw[hg]; exact ho) hr (by rw[<-hh]; exact he) h3
     ·subst h2;rw[hs]at h1;have h5:uX ((data.drop off).take (9+1))<18446744073709551616:=by rw[hg]; exact cZ _ (by decide)
      rw[<-h1]at h5;simp only[Nat.reduceMul,Nat.reducePow]at h5;omega
    ·rw[if_neg hb];have hc:pm b k=false:=by simpa using hb
     simp only[pm,fX,Bool.and_eq_false_iff,fm]at hc;have hq:ly ((data.drop off).take (k+1))<18446744073709551616:=by
      rw[hs]
      by_cases h9:k=9
      ·subst h9;have: ¬1<b.toNat:=hc.2.elim (fun h=>absurd rfl h) id;simp only[Nat.reduceMul,Nat.reducePow]at hm ⊢;omega
      ·have hp:2^(7*k)*128<=18446744073709551616:=by rw[show(128:Nat)=2^7 from rfl,show(18446744073709551616:Nat)=2^64 from rfl,<-gD];exact gW (by omega) (by omega)
       have hx:b.toNat%128*2^(7*k)+2^(7*k)<=2^(7*k)*128:=by rw[Nat.mul_comm (2^(7*k)),<-Nat.succ_mul]; exact dl _ (by omega)
       omega
     have hu:uX ((data.drop off).take (k+1))=ly ((data.drop off).take (k+1)):=by rw[hg,eM hq]
     have hj:bG (uX ((data.drop off).take (k+1)))=(data.drop off).take (k+1):=by
      rw[hu,hh];refine IW 10 _ b hp (by omega) ?_ (by omega);intro hv;have:0<k:=by
       rcases eI k with h0 | h0
       ·subst h0; simp at hv
       ·exact h0
      rcases hc.1 with h | h
      ·exact absurd this h
      ·exact h
     rw[if_pos hj,eM hq,hu]
theorem Nq (data:List UInt8) (off:Nat) (h:off<=data.length):oD data off=zh data off 10 0:=by
 have:=Ed data off 10 0 rfl (by simp) (by omega)
 simpa [ly,oD]using this
end
end Go.Proofs.YtpffpjbkbaleiaaGreatDoor
