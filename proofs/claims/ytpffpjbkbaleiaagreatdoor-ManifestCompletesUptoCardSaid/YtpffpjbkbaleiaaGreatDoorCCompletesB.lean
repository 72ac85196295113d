/- Texts of this proof, one after the other: PathA, PathB, ItemA, ItemB, ItemC, ItemD, Last, ItemE, ShaC, ShaD, ShaE, ShaF, HmacA, Built, Opr, HmacB, R3A. -/
import Derived.Test.YtpffpjbkbaleiaaGreatDoorCCompletesA
set_option maxRecDepth 100000
set_option maxHeartbeats 8000000
namespace Go.Proofs.YtpffpjbkbaleiaaGreatDoor
section
open Go.RowKit
theorem NU {s:ByteArray} {p q:Nat} (h: ∀j,j<p->j<s.size->32<=(s.get! j).toNat) (h2: ∀j,p<=j->j<q->128<=(s.get! j).toNat): ∀j,j<q->j<s.size->32<=(s.get! j).toNat:=by
 intro j hj hs
 rcases dK j p with h' | h'
 ·exact h j h' hs
 ·have:=h2 j h' hj; omega
theorem sG (s:ByteArray) (j:Nat) (h:j<s.size):s.get! j=(bl s)[j]'(by rw[<-bi]; exact h):=by have e:s.get! j=s.data[j]! :=rfl;have h2:j<s.data.size:=h;rw[e,getElem!_pos s.data j h2];simp[bl]
theorem Iy {s:ByteArray} (h: ∀j,j<s.size->32<=(s.get! j).toNat):rC (bl s)=true:=by
 unfold rC;rw[cu];intro c hc;obtain⟨j,hj,rfl⟩:=eh hc;have ha:j<s.size:=by rw[bi]; exact hj
 have:=h j ha;rw[sG s j ha]at this
 simpa using this
theorem DG {s:ByteArray} {j:Nat} (hj:j<s.size) (h:(s.get! j).toNat<32):rC (bl s)=false:=by unfold rC;rw[List.all_eq_false];rw[sG s j hj]at h;exact⟨(bl s)[j]'(by rw[<-bi]; exact hj),List.getElem_mem _,by rw[aJ]; omega⟩
theorem wL (s:ByteArray) (pos:Nat) (h:pos<s.size):
  ((s.get! pos).toNat<128/\Utf8.decode s pos=((s.get! pos).toNat,1))\/(128<=(s.get! pos).toNat/\128<=(Utf8.decode s pos).1):=by
 have e:=get_at s pos h;rw[cZ]at e
 rcases dK (s.get! pos).toNat 128 with h1 | h1
 ·exact .inl ⟨h1,by rw[decode_ascii s pos h (by rw[<-e]; exact h1),<-e]⟩
 ·exact .inr ⟨h1,(decode_high s pos h (by rw[<-e]; exact h1)).1⟩
theorem Fy (s:ByteArray) (w:World) (he:oz w) (hs:s.size<=9223372036854775807):
  Calls Tryz.prog 160 #[.string s] w fun e w'=>e= .returned (.bool (yf (bl s)))/\Below w.heap.size w w':=by
 have HE:=ah he;clear he
 go_enter Tryz.func160,Tryz.ntmps160
 go_wp2
 go_loopw [4] (fun _ wr=> ∃pos:Nat,wr=w.iter s pos/\ ∀j,j<pos->j<s.size->32<=(s.get! j).toNat) (fun _ wr=>s.size-wr.iterPos w.heap.size)
 ·exact⟨0,rfl,fun j hj=>by omega⟩
 ·obtain⟨pos,rfl,ha⟩:=hrel;have HL:=ah ha;clear ha
  by_cases hp:pos<s.size
  ·have hk: ∀ty,(Instr.next (.pointer (some ⟨w.heap.size,0,none⟩)) true ty).run Tryz.prog (w.iter s pos)=_:=fun ty=>run_next_any w s pos ty hp
   go_wp2
   ·go_ret;refine⟨bX ?_,eW⟩;have hf:((Utf8.decode s pos).1:Int)<32:=by assumption
    have hd:=wL s pos hp;have hg:(s.get! pos).toNat<32:=by
     rcases hd with⟨_,h2⟩ | ⟨_,h2⟩
     ·rw[h2]at hf; simp only at hf; omega
     ·omega
    simp[yf,DG hp hg]
   ·go_roundw
    case rel=>
     refine⟨pos+(Utf8.decode s pos).2,rfl, ?_⟩;have hc:(32:Int)<=(Utf8.decode s pos).1:=by assumption
     rcases wL s pos hp with⟨h1,h2⟩ | ⟨h1,h2⟩
     ·intro j hj hh;rw[h2]at hc hj
      rcases dK j pos with h3 | h3
      ·exact HL.o j h3 hh
      ·rw[show j=pos by simp at hj; omega]; simp at hc; omega
     ·exact NU HL.o (CN s pos hp h1).2
    case measure=>
     rw[World.iterPos_iter,World.iterPos_iter];have:=Lib.width_pos s pos;omega
  ·have hk: ∀ty,(Instr.next (.pointer (some ⟨w.heap.size,0,none⟩)) true ty).run Tryz.prog (w.iter s pos)=_:=fun ty=>run_next_end w s pos ty hp
   go_wp2_with (go_at_call 181; refine(vI s _ (HE.o.below (eW)) hs).mono ?_; rintro e w' ⟨rfl,hb⟩);go_ret;refine⟨bX ?_,aj (eW) hb⟩;simp only[yf,Iy (fun j hj=>HL.o j (by omega) hj),gU]
theorem qs (s:ByteArray) (w:World) (he:oz w) (hs:s.size<=9223372036854775807):
  Calls Tryz.prog 128 #[.string s] w fun e w'=>e= .returned (.bool (iO (bl s)))/\Below w.heap.size w w':=by
 have HE:=ah he;clear he
 go_enter Tryz.func128,Tryz.ntmps128
 go_wp2_with (first
  | (go_at_call 134; refine(tp _ _ _).mono ?_; rintro e w' ⟨rfl,rfl⟩)
  | (go_at_call 160; refine(Fy _ _ HE.o hs).mono ?_; rintro e w' ⟨rfl,hb⟩))
 all_goals (go_ret; refine⟨bX ?_,by first | exact ak _ _ | exact hb⟩)
 all_goals (rw[dq]; simp_all [iO,eN,bi])
 all_goals first | omega | (intros; omega)
def OD (s:ByteArray) (w:World) (e:Ending) (w':World):Prop:=
 ∃v xs,e= .returned (.tuple #[v, .int .i64 0])/\xs.map bl=dg 47 (bl s)/\lP (w.heap.size<= ·) w' v xs/\Below w.heap.size w w'
def LP (w:World) (e:Ending) (w':World):Prop:=e= .returned (.tuple #[.slice none 0 0, .int .i64 1])/\Below w.heap.size w w'
def LQ (s:ByteArray) (w:World) (e:Ending) (w':World):Prop:=(dH (bl s)=true/\OD s w e w')\/(dH (bl s)=false/\LP w e w')
theorem El {w:World} {xs:List Value} {e:TypeId} {k:Nat} {x:Value} (hx:xs[k]? =some x):(w.alloc (.cells xs.toArray e)).cell? ⟨w.heap.size,k,none⟩=some x:=by have h:=aG w (.cells xs.toArray e);simp only[World.cell?,h];simp[hx]
theorem Iz {xs:List ByteArray} {k:Nat} {x:ByteArray} (hx:xs[k]? =some x):(xs.map Value.string)[k]? =some (.string x):=by simp[hx]
theorem Ll {xs:List ByteArray} {s:ByteArray} (hx:xs.map bl=dg 47 (bl s)) (h1:(bl s).length<=512) (h2:xs.length<=16) (h: ∀(j:Nat) x,j<xs.length->xs[j]? =some x->iO (bl x)=true):dH (bl s)=true:=by
 have hl:(dg 47 (bl s)).length=xs.length:=by rw[<-hx]; simp
 have ha:(dg 47 (bl s)).all iO=true:=by rw[<-hx,List.all_map,cu];intro x hm;obtain⟨j,hj,rfl⟩:=eh hm;exact h j _ hj (by simp)
 simp[dH,h1,hl,h2,ha]
theorem AK {xs:List ByteArray} {s:ByteArray} {j:Nat} {x:ByteArray} (hx:xs.map bl=dg 47 (bl s)) (h:xs[j]? =some x) (hc:iO (bl x)=false):dH (bl s)=false:=by
 have ha:(dg 47 (bl s)).all iO=false:=by rw[<-hx,List.all_map,List.all_eq_false];exact⟨x,aQ h,by simp[hc]⟩
 simp[dH,ha]
theorem Lo {xs:List ByteArray} {s:ByteArray} (hx:xs.map bl=dg 47 (bl s)) (h: ¬xs.length<=16):dH (bl s)=false:=by
 have hl:(dg 47 (bl s)).length=xs.length:=by rw[<-hx]; simp
 simp[dH,hl,h]
theorem Gu {s:ByteArray} (h: ¬(bl s).length<=512):dH (bl s)=false:=by simp[dH,h]
theorem tC (c:UInt8) (l:List UInt8): ∀p∈dg c l,p.length<=l.length:=by
 induction l with
 | nil=>simp[dg]
 | cons b l ih=>
  unfold dg
  split
  ·intro p hp; rcases aT.1 hp with rfl | hp
   ·simp
   ·have:=ih p hp; simp; omega
  ·split
   ·rename_i h t e;rw[e]at ih;intro p hp; rcases aT.1 hp with rfl | hp
    ·have:=ih h (by simp); simp; omega
    ·have:=ih p (by simp[hp]); simp; omega
   ·intro p hp; simp at hp; simp[hp]
theorem Aq {xs:List ByteArray} {s:ByteArray} {c:UInt8} {j:Nat} {x:ByteArray} (hx:xs.map bl=dg c (bl s)) (h:xs[j]? =some x):x.size<=s.size:=by rw[bi,bi];exact tC c (bl s) (bl x) (by rw[<-hx]; exact aP.2 ⟨x,aQ h,rfl⟩)
theorem NP {w w':World} {xs:List ByteArray} {e:TypeId} (hl:xs.length<=maxLen) (hb:Below (w.heap.size+1) (w.alloc (.cells (xs.map Value.string).toArray e)) w'):
  lP (w.heap.size<= ·) w' (.slice (some ⟨w.heap.size,0,none⟩) xs.length xs.length) xs:=by
 refine⟨by simp,some ⟨w.heap.size,0,none⟩,xs.length,rfl,ai _,hl, .inr ⟨w.heap.size,0,rfl,ai _,fun j u hu=> ?_⟩⟩;rw[hb.cell (p:=⟨w.heap.size,0+j,none⟩) (by simp),bT];exact El hu
theorem rk (s:ByteArray) (w:World) (he:oz w):Calls Tryz.prog 82 #[.string s] w (LQ s w):=by
 have HE:=ah he;clear he
 by_cases h5:s.size<=512
 ·go_enter Tryz.func82,Tryz.ntmps82
  go_wp2_with fail;refine(Lm s 47 w HE.o (by omega)).mono ?_;rintro e w' ⟨xs,hx,rfl,rfl⟩;have hn:xs.length<=513:=by
   have h1:(dg 47 (bl s)).length=xs.length:=by rw[<-hx]; simp
   have h2:=pd 47 (bl s);rw[<-bi]at h2;omega
  have HX:=ah hx;clear hx
  by_cases hf:xs.length<=16
  ·go_wp2_with fail
   go_loopw [17] (fun i wr=> ∃k:Nat,k<=xs.length/\i= .int .i64 k/\Below (w.heap.size+1) (w.alloc (.cells (xs.map Value.string).toArray 9)) wr/\ ∀(j:Nat) x,j<k->xs[j]? =some x->iO (bl x)=true) (fun i _=>xs.length-(intOf i).toNat)
   ·exact⟨0,aU _,rfl,ak _ _,fun j x hj=>by omega⟩
   ·obtain⟨k,hk,rfl,hb,ha⟩:=hrel;have HA:=ah ha;clear ha
    by_cases hm:k<xs.length
    ·obtain⟨x,hx⟩: ∃x,xs[k]? =some x:=⟨xs[k],by simp[hm]⟩;have hg:wr.cell? ⟨w.heap.size,k,none⟩=some (.string x):=(hb.cell (p:=⟨w.heap.size,k,none⟩) (by simp)).trans (El (Iz hx));have hl:x.size<=9223372036854775807:=by have:=Aq HX.o hx; omega
     have HK:=ah hx;have HB:=ah hb;clear hx hb
     cases hc:iO (bl x)
     ·have HC:=ah hc;clear hc;go_wp2_with (go_at_call 128; refine(qs x wr (HE.o.below (aj (eW) (by simpa using HB.o))) hl).mono ?_; rintro e w' ⟨rfl,hd⟩; rw[HC.o])
      go_ret2
      refine .inr ⟨AK HX.o HK.o HC.o,rfl, ?_⟩;exact aj (aj (eW) (by simpa using HB.o)) hd
     ·have HC:=ah hc;clear hc;go_wp2_with (go_at_call 128; refine(qs x wr (HE.o.below (aj (eW) (by simpa using HB.o))) hl).mono ?_; rintro e w' ⟨rfl,hd⟩; rw[HC.o])
      go_roundw
      ·refine⟨k+1,by omega,by go_num,HB.o.trans (hd.mono (by have:=HB.o.size; simpa using this)),fun j x' hj hh=> ?_⟩
       rcases dK j k with h | h
       ·exact HA.o j x' h hh
       ·obtain rfl:j=k:=by omega
        have:=HK.o.symm.trans hh
        cases this
        exact HC.o
      simp[intOf]; omega
    ·have HB:=ah hb;clear hb
     go_wp2
     go_ret2
     refine .inl ⟨Ll HX.o (by rw[<-bi]; exact h5) hf (fun j x hj hx=>HA.o j x (by omega) hx),_,xs,rfl,HX.o,NP (by unfold maxLen; omega) HB.o, ?_⟩;exact aj (eW) (by simpa using HB.o)
  ·go_wp2_with fail
   go_ret2
   exact .inr ⟨Lo HX.o hf,rfl,eW⟩
 ·go_enter Tryz.func82,Tryz.ntmps82
  go_wp2_with fail
  go_ret2
  exact .inr ⟨Gu (by rw[<-bi]; exact h5),rfl,ak _ _⟩
theorem uJ (s:ByteArray) (w:World) (he:oz w):
  Calls Tryz.prog 119 #[.string s] w fun e w'=>e= .returned (.bool (dH (bl s)))/\Below w.heap.size w w':=by
 go_enter Tryz.func119,Tryz.ntmps119
 go_wp2_with fail;refine(rk s w he).mono ?_;rintro e w' (⟨hv,v,xs,rfl,-,-,hb⟩ | ⟨hv,rfl,hb⟩)
 ·go_wp2
  go_ret;exact⟨bX (by rw[hv]),hb⟩
 ·go_wp2
  go_ret;exact⟨bX (by rw[hv]),hb⟩
def ns (c:Int):Int:=if c=47 then -1 else c
theorem Nz (c:Int) (w:World) (h0:0<=c) (h1:c<=255):Calls Tryz.prog 150 #[.int .u8 c] w fun e w'=>e= .returned (.int .i64 (ns c))/\w=w':=by
 by_cases h:c=47
 ·subst h
  go_enter Tryz.func150,Tryz.ntmps150
  go_wp2
  go_ret;exact⟨rfl,rfl⟩
 ·have hr:ns c=c:=if_neg h;have HR:=ah hr;clear hr;have h2:(c == 47)=false:=by simpa using h
  go_enter Tryz.func150,Tryz.ntmps150
  go_wp2
  go_ret;exact⟨dP HR.o.symm,rfl⟩
theorem OM (l r:List UInt8) (h:l=[]\/r=[]):ft l r=Lib.compareInt (l.length:Int) r.length:=by
 rcases h with rfl | rfl
 ·cases r
  ·simp[ft,Lib.compareInt]
  ·rw[ft,Lib.compareInt,if_pos (by simp<;> omega)]
 ·cases l
  ·simp[ft,Lib.compareInt]
  ·rw[ft,Lib.compareInt,if_neg (by simp<;> omega),if_pos (by simp<;> omega)]
theorem wI (x y:Int) (k:Int):Lib.compareInt (x-k) (y-k)=Lib.compareInt x y:=by
 unfold Lib.compareInt;have h1:(x-k<y-k)<->(x<y):=by omega
 have h2:(x-k>y-k)<->(x>y):=by omega
 simp only[h1,h2]
theorem vP {l r:List UInt8} {k:Nat} (hk1:k<=l.length) (hk2:k<=r.length) (h:k=l.length\/k=r.length):ft (l.drop k) (r.drop k)=Lib.compareInt (l.length:Int) r.length:=by
 rw[OM _ _ (by rcases h with rfl | rfl<;> simp)];rw[bz,bz,<-wI (l.length:Int) r.length k]
 congr 1<;> omega
theorem CE {l r:List UInt8} {k:Nat} (hl:k<l.length) (hr:k<r.length) (h:l[k]=r[k]):ft (l.drop k) (r.drop k)=ft (l.drop (k+1)) (r.drop (k+1)):=by rw[cA hl,cA hr,ft,if_pos h]
theorem wH {l r:List UInt8} {k:Nat} (hl:k<l.length) (hr:k<r.length) (h:l[k]≠r[k]):ft (l.drop k) (r.drop k)=Lib.compareInt (iA l[k]) (iA r[k]):=by rw[cA hl,cA hr,ft,if_neg h]
theorem kO (s:ByteArray) (k:Nat) (h:k<s.size):s[k]=(bl s)[k]'(by rw[<-bi]; exact h):=by exact(Array.getElem_toList (xs:=s.data) h).symm
theorem tK (c:UInt8):ns c.toNat=iA c:=by
 unfold ns iA
 by_cases h:c=47
 ·subst h; rfl
 ·rw[if_neg h,if_neg];intro e; apply h; apply gN.1; have:c.toNat=47:=by omega
  rw[this]; rfl
theorem CI (a b:ByteArray) (w:World) (ha:a.size<=9223372036854775807):
  Calls Tryz.prog 118 #[.string a, .string b] w fun e w'=>e= .returned (.int .i64 (ft (bl a) (bl b)))/\Below w.heap.size w w':=by
 go_enter Tryz.func118,Tryz.ntmps118
 go_wp2_with fail;obtain⟨m,hm⟩: ∃m:Nat,min (a.size:Int) (b.size:Int)=m:=⟨min a.size b.size,by omega⟩;have hl:m<=a.size:=by omega
 have hn:m<=b.size:=by omega
 have hf:m=a.size\/m=b.size:=by omega
 rw[hm];have HM:=ah hf;clear hm hf
 go_loopw [12] (fun i wr=> ∃k:Nat,k<=m/\i= .int .i64 k/\Below w.heap.size w wr/\ft (bl a) (bl b)=ft ((bl a).drop k) ((bl b).drop k)) (fun i _=>m-(intOf i).toNat)
 ·exact⟨0,aU _,rfl,ak _ _,rfl⟩
 ·obtain⟨k,hk,rfl,he,hc⟩:=hrel;have HC:=ah hc;have HB:=ah he;clear hc he
  by_cases hj:k<m
  ·have h1:(k:Int)<(a.size:Int):=by omega
   have h2:(k:Int)<(b.size:Int):=by omega
   have h3:k<a.size:=by omega
   have h4:k<b.size:=by omega
   by_cases hq:a[k]=b[k]
   ·have hh:(((a[k]).toNat:Int) != (b[k]).toNat)=false:=by simp[hq]
    have HQ:=ah hq;clear hq;go_wp2_with fail
    go_quiet (fail)
    go_wp2_with fail
    go_roundw
    ·refine⟨k+1,by omega,by go_num,fW HB.o nq, ?_⟩;rw[HC.o];refine CE (by rw[<-bi]; exact h3) (by rw[<-bi]; exact h4) ?_;rw[<-kO,<-kO]; exact HQ.o
    simp[intOf]; omega
   ·have hh:(((a[k]).toNat:Int) != (b[k]).toNat)=true:=by rw[bne_iff_ne]; intro e; apply hq; exact gN.1 (by omega)
    have HQ:=ah hq;clear hq;go_wp2_with fail
    go_quiet (fail)
    go_wp2_with fail;have hW: ∃W,W=wr.drewN nq/\Below w.heap.size w W:=⟨_,rfl,fW HB.o nq⟩;obtain⟨W,hd,hb⟩:=hW;rw[<-hd];have hg:=ah hb;clear hd hb HB;have ho:=(a[k]).toNat_lt;have hp:=(b[k]).toNat_lt
    go_quiet ((first | (go_at_call 150; refine lf (Nz _ _ (by omega) (by omega))) | (go_at_call 151; refine lf (qD _ _ _))))
    go_wp2_with fail;go_ret;refine⟨dP ?_,fW hg.o _⟩;rw[tK,tK,HC.o,wH (by rw[<-bi]; exact h3) (by rw[<-bi]; exact h4) (by rw[<-kO,<-kO]; exact HQ.o),<-kO,<-kO]
  ·go_wp2_with (go_at_call 151; refine(qD _ _ _).mono ?_; rintro e w' ⟨rfl,rfl⟩);go_ret;refine⟨dP ?_,HB.o⟩;have hM:=HM.o;rw[HC.o,vP (by rw[<-bi]; omega) (by rw[<-bi]; omega) (by rw[<-bi,<-bi]; omega),<-bi,<-bi]
theorem FV (s:ByteArray) (w:World) (he:oz w) (hv:dH (bl s)=true):
  Calls Tryz.prog 72 #[.string s] w fun e w'=>e= .returned (.tuple #[.string ⟨(cr (bl s)).toArray⟩, .bool true])/\Below w.heap.size w w':=by
 have HV:=ah hv;have h5:s.size<=512:=by simp only[dH,aF,aJ]at hv; rw[bi]; exact hv.1.1
 have hl:(cr (bl s)).length<=s.size:=by rw[tJ,bn,bi]; omega
 clear hv
 go_enter Tryz.func72,Tryz.ntmps72
 go_wp2_with fail;refine(uJ s w he).mono ?_;rintro e w1 ⟨rfl,ha⟩;rw[HV.o];have hb:=ah ha;clear ha;go_wp2_with fail;refine(yI s w1 (by omega)).mono ?_;rintro e w2 ⟨rfl,rfl⟩;obtain⟨n,hn⟩:=bI ((cr (bl s)).length:Nat);have hc:max (nK (bl s)) 0=(n:Int):=by
  unfold nK
  split
  ·omega
  ·rename_i h; rw[hn,oh _ h]; rfl
 have hd:n<=s.size:=by omega
 have HN:=ah hn;clear hn hl;go_wp2_with fail
 go_ret2
 refine⟨?_,hb.o⟩;have e:s.extract 0 n=⟨(cr (bl s)).toArray⟩:=kr (by rw[pO,iX (cr (bl s)),HN.o,bR,<-tJ]);rw[<-e]; rfl
def EF (data:List UInt8) (most:Nat) (s:RS):List UInt8×RS:=rv [] (kt data s.off most) s
def vG (data:List UInt8) (s:RS):Nat×RS:=rv 0 (oB data s.off) s
def smP (data:List UInt8) (s:RS):List UInt8×RS:=rv [] (kK data s.off 32) s
def Bq (data:List UInt8) (most:Nat) (s:RS):Nat×RS:=rv 0 (nf data s.off most) s
def ow (n:Nat):Int:=wrap64 (n:Int)
def rT (data:List UInt8) (s:RS):cH×RS:=
 (⟨⟨(smP data s).1.toArray⟩,ow (vG data (smP data s).2).1,ow (vG data (vG data (smP data s).2).2).1⟩,(vG data (vG data (smP data s).2).2).2)
theorem NX (n:Nat):(Lit.int .i64 (ow n)).wf=true:=by exact wrap64_wf _
def lF (r:cH):Bool:=decide (r.name.size=32) && decide (0<=r.gen) && decide (r.gen<=1099511627776) && decide (0<=r.size) && decide (r.size<=32768)
theorem tX (r:cH) (w:World) (hr:eF r):Calls Tryz.prog 77 #[fi r] w fun e w'=>e= .returned (.bool (lF r))/\Below w.heap.size w w':=by
 obtain⟨n,g,s⟩:=r;obtain⟨h1,h2,h3⟩:=hr;unfold maxLen at h1;simp only[fi,lF]at *
 go_enter Tryz.func77,Tryz.ntmps77
 go_wp2_with fail
 all_goals (go_ret; refine⟨bX ?_,eW⟩; rw[dq]; simp; omega)
theorem QS (rb:Nat) (v:Value) (data:List UInt8) (s:RS) (w:World) (hr:sZ w rb v data s):
  Calls Tryz.prog 113 #[.pointer (some ⟨rb,0,none⟩)] w fun e w'=> ∃bs s1,smP data s=(bs,s1)/\e= .returned (.string ⟨bs.toArray⟩)/\sZ w' rb v data s1/\w.grownBy w' (some rb):=
 (PD rb v data s w hr).mono fun _ _ ⟨h1,h2,h3⟩=>⟨_,_,rfl,h1,h2,h3⟩
theorem yi (rb:Nat) (v:Value) (data:List UInt8) (s:RS) (w:World) (hr:sZ w rb v data s):
  Calls Tryz.prog 61 #[.pointer (some ⟨rb,0,none⟩)] w fun e w'=> ∃n s1,vG data s=(n,s1)/\e= .returned (.int .u64 (n:Int))/\sZ w' rb v data s1/\w.grownBy w' (some rb):=
 (Oc rb v data s w hr).mono fun _ _ ⟨h1,h2,h3⟩=>⟨_,_,rfl,h1,h2,h3⟩
theorem NW (rb:Nat) (v:Value) (data:List UInt8) (s:RS) (most:Nat) (w:World) (hr:sZ w rb v data s) (hm:most<=2000000):
  Calls Tryz.prog 60 #[.pointer (some ⟨rb,0,none⟩), .int .i64 (most:Int)] w fun e w'=> ∃bs s1,EF data most s=(bs,s1)/\e= .returned (.string ⟨bs.toArray⟩)/\sZ w' rb v data s1/\w.grownBy w' (some rb):=
 (NV rb v data s most w hr hm).mono fun _ _ ⟨h1,h2,h3⟩=>⟨_,_,rfl,h1,h2,h3⟩
theorem Ij (rb:Nat) (v:Value) (data:List UInt8) (s:RS) (most:Nat) (w:World) (hr:sZ w rb v data s) (hm:most<=2000000):
  Calls Tryz.prog 59 #[.pointer (some ⟨rb,0,none⟩), .int .i64 (most:Int)] w fun e w'=> ∃n s1,Bq data most s=(n,s1)/\e= .returned (.int .i64 (n:Int))/\sZ w' rb v data s1/\w.grownBy w' (some rb):=
 (JH rb v data s most w hr hm).mono fun _ _ ⟨h1,h2,h3⟩=>⟨_,_,rfl,h1,h2,h3⟩
theorem nr {w w':World} {r b:Nat} {o:Obj} (hg:w.grownBy w' (some r)) (h:w.heap[b]? =some o) (hne:b≠r):w'.heap[b]? =some o:=
 (hg.block b ((aM.1 h).1) (by simpa using hne)).trans h
theorem mY {w:World} {b:Nat} {o:Obj} (h:w.heap[b]? =some o) (x:Obj):(w.alloc x).heap[b]? =some o:=by rw[cS _ _ _ ((aM.1 h).1)]; exact h
theorem jm {w:World} {b k:Nat} {cs:Array Value} {t:TypeId} (h:w.heap[b]? =some (.cells cs t (0,0))) (x:Value):(w.setCell ⟨b,k,none⟩ x).heap[b]? =some (.cells (cs.setIfInBounds k x) t (0,0)):=by simp only[World.setCell,gD,if_true,h,dW]; rfl
theorem Le {w:World} {b c k:Nat} {o:Obj} (h:w.heap[b]? =some o) (hne:b≠c) (x:Value):(w.setCell ⟨c,k,none⟩ x).heap[b]? =some o:=by rw[ay _ _ _ _ hne]; exact h
theorem NL {w w':World} {r:Option Nat} (hg:w.grownBy w' r):w.heap.size<=w'.heap.size:=hg.size
theorem nJ {w w':World} {r:Option Nat} {b:Nat} (h:w.grownBy w' r) (hb:w.heap.size<=b) {k:Nat} (x:Value):w.grownBy (w'.setCell ⟨b,k,none⟩ x) r:=
 ⟨h.os,h.tape,h.output,by have:=h.size; simpa [World.setCell]using this,fun i hi hn=>by rw[ay _ _ _ _ (by show i≠b; omega)]; exact h.block i hi hn⟩
def PS (data:List UInt8) (rb:Nat) (v:Value) (s:RS) (w:World) (e:Ending) (w':World):Prop:=
 ∃r s1,rT data s=(r,s1)/\e= .returned (fi r)/\sZ w' rb v data s1/\w.grownBy w' (some rb)/\eF r
theorem PB (data:List UInt8) (s:RS):(smP data s).1.length<=32:=by
 unfold smP rv kK
 split
 ·split
  ·rename_i x o h
   split at h
   ·simp at h
   ·simp only[dr,cF]at h;obtain⟨rfl,rfl⟩:=h
    simp; omega
  ·simp
 ·simp
theorem IQ (data:List UInt8) (s:RS):eF (rT data s).1:=⟨by
 have:=PB data s
 show ByteArray.size ⟨_⟩<=_
 unfold maxLen;simp[ByteArray.size]; omega,NX _,NX _⟩
theorem vr (rb:Nat) (v:Value) (data:List UInt8) (s:RS) (w:World) (hr:sZ w rb v data s):
  Calls Tryz.prog 62 #[.pointer (some ⟨rb,0,none⟩)] w (PS data rb v s w):=by
 have HR:=ah hr;have hs:=du.lt hr;clear hr
 go_enter Tryz.func62,Tryz.ntmps62
 go_wp2_with fail;refine(QS rb v data s _ (du.below HR.o (eW))).mono ?_;rintro e w1 ⟨bs,s1,hj,rfl,h1,h2⟩;have hn:=ah hj;have H1:=ah h1;have hz:=NL h2;simp at hz;have HB:=ah (nr h2 (aG w _) (by omega));have HG:=ah (cg (gA (eW) (some rb)) h2);clear hj h1 h2;go_wp2_with fail;refine(yi rb v data s1 _ (du.below H1.o (eW))).mono ?_
 rintro e w2 ⟨g,s2,hk,rfl,h1,h2⟩;have ho:=ah hk;have H2:=ah h1;have HX:=ah (nr h2 (aG w1 _) (by omega));have hd:=ah (nr h2 (mY HB.o _) (by omega));have hf:=ah (cg HG.o (cg (gA (eW) (some rb)) h2));have hq:=NL h2;simp at hq;have k1:=bQ (k:=1) HX.o;have f1:=dE (k:=1) HX.o;simp only[gd]at k1;clear hk h1 h2 HB HG H1
 go_wp2_with fail;obtain⟨w3,ha⟩:=bI (w2.setCell ⟨w1.heap.size,1,none⟩ (.int .i64 (wrap64 (g:Int))));rw[<-ha];have H3:=ah (show sZ w3 rb v data s2 by rw[ha]; exact du.setOther HR.o H2.o (by omega) _);have x3:=jm (k:=1) HX.o (.int .i64 (wrap64 (g:Int)));have y3:=Le (k:=1) hd.o (show w.heap.size≠w1.heap.size by omega) (.int .i64 (wrap64 (g:Int)));rw[<-ha]at x3 y3
 simp only[aW,cG,cn]at x3;have hh:=ah x3;have he:=ah y3;clear x3 y3;have hg:=ah (show w.grownBy w3 (some rb) by rw[ha]; exact nJ hf.o (by omega) _);have hu:w2.heap.size=w3.heap.size:=by rw[ha]; simp[World.setCell]
 clear ha k1 f1 HX hd hf H2;refine(yi rb v data s2 _ H3.o).mono ?_;rintro e w4 ⟨z,s3,hl,rfl,h1,h2⟩;have hp:=ah hl;have H4:=ah h1;have hv:=NL h2;have hc:=ah (nr h2 hh.o (by omega));have hb:=ah (nr h2 he.o (by omega));have hm:=ah (cg hg.o h2);have k0:=bQ (k:=0) hc.o;have k1:=bQ (k:=1) hc.o;have k2:=bQ (k:=2) hc.o;have f2:=dE (k:=2) hc.o
 have b0:=bQ (k:=0) hb.o;have b1:=bQ (k:=1) hb.o;have b2:=bQ (k:=2) hb.o;obtain⟨g0,g1,g2,_⟩:=gI hb.o;simp at k0 k1 k2 b0 b1 b2;clear hl h1 h2 hh he hg H3;go_wp2_with fail;have e1:rT data s=(⟨⟨bs.toArray⟩,wrap64 (g:Int),wrap64 (z:Int)⟩,s3):=by simp only[rT,hn.o,ho.o,hp.o,ow]
 refine cP (v:=fi ⟨⟨bs.toArray⟩,wrap64 (g:Int),wrap64 (z:Int)⟩) (by simp[results,Tryz.results62,go_sem,fi,b0,b1,b2]) rfl ⟨_,_,e1,rfl, ?_, ?_, ?_⟩
 ·exact du.setOther HR.o (du.setOther HR.o (du.setOther HR.o (du.setOther HR.o H4.o (by omega) _) (by omega) _) (by omega) _) (by omega) _
 ·exact nJ (nJ (nJ (nJ hm.o (by omega) _) (by omega) _) (by omega) _) (by omega) _
 ·have:=IQ data s;rw[e1]at this; exact this
def ni (l:List cH):Int:=l.foldl (fun a r=>wrap64 (a+r.size)) 0
theorem AN (l:List cH) (r:cH):ni (l++[r])=wrap64 (ni l+r.size):=by unfold ni; rw[eR]; rfl
theorem dZ {α:Type} {l:List α} {k:Nat} {x:α} (h:l[k]? =some x):l.take (k+1)=l.take k++[x]:=by obtain⟨hk,rfl⟩:=aD.1 h;exact List.take_succ_eq_append_getElem hk
theorem nE {S:Nat->Prop} {w w':World} {a:Option Addr} {n cap:Nat} {rs:List cH} (hv:dN S w (.slice a n cap) rs) (hb:Below w.heap.size w w') {k:Nat} {r:cH} (hr:rs[k]? =some r):
  ∃b o,a=some ⟨b,o,none⟩/\eF r/\w'.cell? ⟨b,o+k*3,none⟩=some (.string r.name)/\w'.cell? ⟨b,o+k*3+1,none⟩=some (.int .i64 r.gen)/\w'.cell? ⟨b,o+k*3+2,none⟩=some (.int .i64 r.size):=by
 obtain⟨a',cap',hd,_,_,hx⟩:=cN.shape hv qA.len
 cases hd
 obtain⟨b,o,c,rfl,_,⟨rfl,hc⟩,_,ha⟩:=hx k r hr;have q0:=ha 0 (by omega);have q1:=ha 1 (by omega);have q2:=ha 2 (by omega);simp only[jp,aB,cQ,cZ,<-dk]at q0 q1 q2;exact⟨b,o,rfl,hc,(hb.cell (bP q0)).trans q0,(hb.cell (bP q1)).trans q1,(hb.cell (bP q2)).trans q2⟩
theorem uF (S:Nat->Prop) (v:Value) (rs:List cH) (w:World) (hv:dN S w v rs):Calls Tryz.prog 63 #[v] w fun e w'=>e= .returned (.int .i64 (ni rs))/\Below w.heap.size w w':=by
 obtain⟨a,cap,rfl,hc,hm,-⟩:=cN.shape hv qA.len;unfold maxLen at hm;have HV:=ah hv;clear hv
 go_enter Tryz.func63,Tryz.ntmps63
 go_wp2_with fail
 go_loopw [3,5,8] (fun sm p i wr=> ∃k:Nat,k<=rs.length/\i= .int .i64 k/\sm= .int .i64 (ni (rs.take k))/\Below w.heap.size w wr) (fun _ _ i _=>rs.length-(intOf i).toNat)
 ·exact⟨0,aU _,rfl,rfl,ak _ _⟩
 ·obtain⟨k,hk,rfl,rfl,hb⟩:=hrel;have HB:=ah hb;clear hb
  by_cases ha:k<rs.length
  ·obtain⟨r,hr⟩: ∃r,rs[k]? =some r:=⟨rs[k],by simp[ha]⟩;obtain⟨b,o,rfl,-,q0,q1,q2⟩:=nE HV.o HB.o hr;have HS:=ah (show ni (rs.take (k+1))=wrap64 (ni (rs.take k)+r.size) by rw[dZ hr,AN]);clear hr;go_wp2_with fail
   go_roundw
   ·exact⟨k+1,by omega,by go_num,by rw[HS.o],HB.o.alloc HB.o.size _⟩
   simp[intOf]; omega
  ·go_wp2_with fail;go_ret;exact⟨dP (by rw[bw (by omega)]),HB.o⟩
structure cj where
 name:ByteArray
 kind:Int
 mode:Int
 time:Int
 size:Int
 link:ByteArray
 chunks:List cH
 node:cH
deriving DecidableEq
def fu (cv:Value) (it:cj):List Value:=[.string it.name, .int .i64 it.kind, .int .i64 it.mode, .int .i64 it.time, .int .i64 it.size, .string it.link,cv, .string it.node.name, .int .i64 it.node.gen, .int .i64 it.node.size]
def rZ (cv:Value) (it:cj):Value:= .agg #[.string it.name, .int .i64 it.kind, .int .i64 it.mode, .int .i64 it.time, .int .i64 it.size, .string it.link,cv, .string it.node.name, .int .i64 it.node.gen, .int .i64 it.node.size]
def rm (r:cH):Bool:=lF r && decide (1<=r.size)
def lz (it:cj):Bool:=it.chunks.all rm && (decide (it.size=ni it.chunks) && decide (it.size<=1048576))
theorem jw (r:cH) (b:Bool) (w:World) (hr:eF r) (h:lF r=b):Calls Tryz.prog 77 #[fi r] w fun e w'=>e= .returned (.bool b)/\Below w.heap.size w w':=by rw[<-h]; exact tX r w hr
theorem LZ {α:Type} {p:α->Bool} {l:List α} {k:Nat} {x:α} (h:(l.take k).all p=true) (hx:l[k]? =some x) (hp:p x=true):(l.take (k+1)).all p=true:=by rw[dZ hx,List.all_append,h]; simp[hp]
theorem LY {α:Type} {p:α->Bool} {l:List α} {k:Nat} {x:α} (hx:l[k]? =some x) (hp:p x=false):l.all p=false:=by rw[List.all_eq_false];exact⟨x,aQ hx,by rw[hp]; simp⟩
theorem vH (S:Nat->Prop) (it:cj) (cv:Value) (w:World) (hcv:dN S w cv it.chunks):Calls Tryz.prog 135 #[rZ cv it] w fun e w'=>e= .returned (.bool (lz it))/\Below w.heap.size w w':=by
 obtain⟨a,cap,rfl,hc,hm,-⟩:=cN.shape hcv qA.len;unfold maxLen at hm;unfold rZ
 go_enter Tryz.func135,Tryz.ntmps135
 go_wp2_with fail;obtain⟨W,hW⟩:=bI (w.alloc (.cells #[.string it.name, .int .i64 it.kind, .int .i64 it.mode, .int .i64 it.time, .int .i64 it.size, .string it.link, .slice a it.chunks.length cap, .string it.node.name, .int .i64 it.node.gen, .int .i64 it.node.size] 28));rw[<-hW];have hq:=ah (show Below w.heap.size w W by rw[hW]; exact eW);have hy:=ah (show W.heap[w.heap.size]? =some (.cells #[.string it.name, .int .i64 it.kind, .int .i64 it.mode, .int .i64 it.time, .int .i64 it.size, .string it.link, .slice a it.chunks.length cap, .string it.node.name, .int .i64 it.node.gen, .int .i64 it.node.size] 28 (0,0)) by rw[hW]; exact aG w _)
 have hx:W.heap.size=w.heap.size+1:=by rw[hW]; simp
 have hu:=ah hx;have HV:=ah (show dN S W (.slice a it.chunks.length cap) it.chunks from cN.below hcv (by omega) hq.o (fun _ _ _ h=>h));clear hW hcv hx
 go_loopw [4,8] (fun p i wr=> ∃k:Nat,k<=it.chunks.length/\i= .int .i64 k/\(it.chunks.take k).all rm=true/\Below W.heap.size W wr) (fun _ i _=>it.chunks.length-(intOf i).toNat)
 ·exact⟨0,aU _,rfl,rfl,ak _ _⟩
 ·obtain⟨k,hk,rfl,hv,hb⟩:=hrel;have HB:=ah hb;have HA:=ah hv;clear hb hv
  by_cases hA:k<it.chunks.length
  ·obtain⟨r,hr⟩: ∃r,it.chunks[k]? =some r:=⟨it.chunks[k],by simp[hA]⟩;obtain⟨b,o,rfl,hw,q0,q1,q2⟩:=nE HV.o HB.o hr;have HR:=ah hr;have HO:=ah hw;clear hr hw
   cases hn:lF r
   ·have HF:=ah (show lz it=false by unfold lz; rw[LY HR.o (by simp[rm,hn])]; rfl);have hf:=ah hn;clear hn;go_wp2_with (go_at_call 77; refine(jw r false _ HO.o hf.o).mono ?_; rintro e w1 ⟨rfl,ha⟩; have hd:=ah (aj ((HB.o).alloc HB.o.size _) ha); clear ha);go_ret;exact⟨bX (by rw[HF.o]),hq.o.trans (hd.o.mono (by have:=hu.o; omega))⟩
   ·have hf:=ah hn;clear hn
    by_cases hs:r.size<1
    ·have HF:=ah (show lz it=false by unfold lz; rw[LY HR.o (by simp[rm,hf.o]; omega)]; rfl);go_wp2_with (go_at_call 77; refine(jw r true _ HO.o hf.o).mono ?_; rintro e w1 ⟨rfl,ha⟩; have d2:w1.cell? ⟨wr.heap.size,2,none⟩=some (.int .i64 r.size):=(ha.cell (p:=⟨wr.heap.size,2,none⟩) (by simp)).trans (bQ (aG wr _)); have hd:=ah (aj ((HB.o).alloc HB.o.size _) ha); clear ha)
     go_ret;exact⟨bX (by rw[HF.o]),hq.o.trans (hd.o.mono (by have:=hu.o; omega))⟩
    ·go_wp2_with (go_at_call 77; refine(jw r true _ HO.o hf.o).mono ?_; rintro e w1 ⟨rfl,ha⟩; have d2:w1.cell? ⟨wr.heap.size,2,none⟩=some (.int .i64 r.size):=(ha.cell (p:=⟨wr.heap.size,2,none⟩) (by simp)).trans (bQ (aG wr _)); have hd:=ah (aj ((HB.o).alloc HB.o.size _) ha); clear ha)
     go_roundw
     ·exact⟨k+1,by omega,by go_num,LZ HA.o HR.o (by simp[rm,hf.o]; omega),hd.o⟩
     simp[intOf]; omega
  ·have hl:it.chunks.all rm=true:=by
    have:=HA.o
    rwa [bw (by omega)]at this
   have hg:=ah hl;have hh:=ah ((HB.o.block w.heap.size (by have:=hu.o; omega)).trans hy.o);have c4:=bQ (k:=4) hh.o;have c6:=bQ (k:=6) hh.o;simp only[gd]at c4 c6;have hz:=ah (show dN S wr (.slice a it.chunks.length cap) it.chunks from cN.below HV.o (by omega) HB.o (fun _ _ _ h=>h));clear hl;go_wp2_with fail;refine fd (fun w'=>w'.cell? ⟨w.heap.size,4,none⟩=some (.int .i64 it.size)/\w'.cell? ⟨w.heap.size,6,none⟩=some (.slice a it.chunks.length cap)) (by kernel_rfl) ?_
   iterate 4 (refine cI rfl (by go_simp) (by rintro w' ⟨ho,hp⟩; go_simp; rfl) ?_; simp only[bN])
   refine cC 4 rfl (fun K hK=> ?_);go_wp2_with (go_at_call 63; refine(uF S _ it.chunks _ (cN.below hz.o (by omega) ((ak _ _).drew) (fun _ _ _ h=>h))).mono ?_; rintro e w1 ⟨rfl,ha⟩; have hd:=ah ha; clear ha);have d4:w1.cell? ⟨w.heap.size,4,none⟩=some (.int .i64 it.size):=(hd.o.cell (p:=⟨w.heap.size,4,none⟩) (bP (a:=⟨w.heap.size,4,none⟩) c4)).trans c4
   have d6:w1.cell? ⟨w.heap.size,6,none⟩=some (.slice a it.chunks.length cap):=(hd.o.cell (p:=⟨w.heap.size,6,none⟩) (bP (a:=⟨w.heap.size,6,none⟩) c6)).trans c6;refine⟨⟨d4,d6⟩, ?_⟩;have hj:=ah (show Below w.heap.size w w1 from hq.o.trans ((aj HB.o (((ak _ _).drew).trans hd.o)).mono (by have:=hu.o; omega)))
   by_cases he:it.size=ni it.chunks
   ·have e1:(it.size == ni it.chunks)=true:=by simp[he]
    iterate 7 (refine cI rfl (by go_simp) (by rintro w' ⟨ho,hp⟩; go_simp; rfl) ?_; simp only[bN])
    refine cL (by kernel_rfl) ?_;have HE:=ah he;clear he;go_wp2_with fail;go_ret;refine⟨bX ?_,hj.o⟩;unfold lz;rw[hg.o]; simp[HE.o]
   ·have e1:(it.size == ni it.chunks)=false:=by simp[he]
    refine dy 5 rfl (by go_simp) (by rintro w' ⟨ho,hp⟩; go_simp; rfl) ?_;simp only[bN];refine dy 6 rfl (by go_simp) (by rintro w' ⟨ho,hp⟩; go_simp; rfl) ?_;simp only[bN];refine Iu 7 rfl (by go_simp) ?_;simp only[bN];refine Iu 8 rfl (by go_simp) ?_;simp only[bN];refine Iu 9 rfl (by go_simp) ?_;simp only[bN];refine dy 10 rfl (by go_simp) (by rintro w' ⟨ho,hp⟩; go_simp; rfl) ?_
    simp only[bN];refine dy 11 rfl (by go_simp) (by rintro w' ⟨ho,hp⟩; go_simp; rfl) ?_;simp only[bN];refine cL (by kernel_rfl) ?_;have HE:=ah he;clear he;go_wp2_with fail;go_ret;refine⟨bX ?_,hj.o⟩;unfold lz;rw[hg.o]; simp[HE.o]
def eq :cH:=⟨⟨#[]⟩,0,0⟩
def tW (it:cj):Bool:=(dH (bl it.name) && !(bl it.name).contains 47) && (decide (0<=it.mode) && decide (it.mode<=511) && decide (0<=it.time))
def kX (it:cj):Bool:=
 if it.kind=1 then decide (it.link.size=0) && decide (it.node=eq) && lz it
 else if it.kind=2 then decide (it.link.size=0) && decide (it.size=0) && decide (it.chunks.length=0) && lF it.node
 else if it.kind=3 then(decide (it.size=0) && decide (it.chunks.length=0) && decide (it.node=eq)) && (decide (1<=it.link.size) && decide (it.link.size<=512) && !(bl it.link).contains 0)
 else false
def iG (it:cj):Bool:=tW it && kX it
structure iC (it : cj) : Prop where
 nm:it.name.size<=maxLen
 lk:it.link.size<=maxLen
 nd:eF it.node
theorem mW (s:ByteArray) (b:Bool) (w:World) (he:oz w) (h:dH (bl s)=b):Calls Tryz.prog 119 #[.string s] w fun e w'=>e= .returned (.bool b)/\Below w.heap.size w w':=by rw[<-h]; exact uJ s w he
theorem qE (s:ByteArray) (b:Bool) (w:World) (h:(bl s).contains 47=b):Calls Tryz.prog 134 #[.string s, .string ⟨#[47]⟩] w fun e w'=>e= .returned (.bool b)/\w=w':=by rw[<-h]; exact tp s 47 w
theorem yF (s:ByteArray) (w:World):Calls Tryz.prog 136 #[.string s, .int .u8 0] w fun e w'=>e= .returned (.int .i64 (Lib.indexByte (bl s) 0))/\w=w':=
 (Tryz.strings_IndexByte s 0 w).mono fun _ _ ⟨he,hw⟩=>⟨he,hw.symm⟩
theorem yY (S:Nat->Prop) (it:cj) (cv:Value) (w:World) (hcv:dN S w cv it.chunks) (hok:iC it) (henv:oz w):Calls Tryz.prog 96 #[rZ cv it] w fun e w'=>e= .returned (.bool (iG it))/\Below w.heap.size w w':=by
 obtain⟨a,cap,rfl,hc,hm,-⟩:=cN.shape hcv qA.len;unfold maxLen at hm;have HV:=ah hcv;have HO:=ah hok;have HE:=ah henv;have hF:=hok.nm;have hG:=hok.lk;unfold maxLen at hF hG;have hH: ∀w,(Op.equalIn 10000 26 (.agg #[.string it.node.name, .int .i64 it.node.gen, .int .i64 it.node.size]) (.agg #[.string ⟨#[]⟩, .int .i64 0, .int .i64 0])).run Tryz.prog w= .ok (decide (it.node=eq)) w:=fun w=>PI it.node eq w
 have HL:=ah (show it.link.toList=[]<->it.link.size=0 by rw[eN,bi]; simp);clear hcv hok henv;unfold rZ
 cases hv:dH (bl it.name)
 ·have ho:=ah hv;clear hv
  go_enter Tryz.func96,Tryz.ntmps96
  go_wp2_with fail;obtain⟨W,hW⟩:=bI (w.alloc (.cells #[.string it.name, .int .i64 it.kind, .int .i64 it.mode, .int .i64 it.time, .int .i64 it.size, .string it.link, .slice a it.chunks.length cap, .string it.node.name, .int .i64 it.node.gen, .int .i64 it.node.size] 28));rw[<-hW];have hf:=ah (show Below w.heap.size w W by rw[hW]; exact eW);have he:=ah (show W.heap[w.heap.size]? =some (.cells #[.string it.name, .int .i64 it.kind, .int .i64 it.mode, .int .i64 it.time, .int .i64 it.size, .string it.link, .slice a it.chunks.length cap, .string it.node.name, .int .i64 it.node.gen, .int .i64 it.node.size] 28 (0,0)) by rw[hW]; exact aG w _)
  clear hW;refine(mW it.name false _ (HE.o.below hf.o) ho.o).mono ?_;rintro e w1 ⟨rfl,hd⟩;have ha:=ah (aj hf.o hd);clear hd;go_wp2_with fail;go_ret;exact⟨bX (by simp[iG,tW,ho.o]),ha.o⟩
 ·have ho:=ah hv;clear hv
  cases hw:(bl it.name).contains 47
  ·have hp:=ah hw;clear hw
   by_cases hx:0<=it.mode/\it.mode<=511/\0<=it.time
   ·have HH:=ah (show iG it=kX it by obtain⟨x1,x2,x3⟩:=hx; unfold iG tW; rw[ho.o,hp.o]; simp[x1,x2,x3]);obtain⟨hI,hJ,hL⟩:=hx
    go_enter Tryz.func96,Tryz.ntmps96
    go_wp2_with fail;obtain⟨W,hW⟩:=bI (w.alloc (.cells #[.string it.name, .int .i64 it.kind, .int .i64 it.mode, .int .i64 it.time, .int .i64 it.size, .string it.link, .slice a it.chunks.length cap, .string it.node.name, .int .i64 it.node.gen, .int .i64 it.node.size] 28));rw[<-hW];have hf:=ah (show Below w.heap.size w W by rw[hW]; exact eW);have he:=ah (show W.heap[w.heap.size]? =some (.cells #[.string it.name, .int .i64 it.kind, .int .i64 it.mode, .int .i64 it.time, .int .i64 it.size, .string it.link, .slice a it.chunks.length cap, .string it.node.name, .int .i64 it.node.gen, .int .i64 it.node.size] 28 (0,0)) by rw[hW]; exact aG w _)
    clear hW;refine(mW it.name true _ (HE.o.below hf.o) ho.o).mono ?_;rintro e w1 ⟨rfl,hd⟩;have hb:=ah ((hd.block w.heap.size ((aM.1 he.o).1)).trans he.o);have ha:=ah (aj hf.o hd);have hu:w.heap.size<w1.heap.size:=(aM.1 hb.o).1;obtain⟨c0,c1,c2,c3,c4,c5,c6,c7,c8,c9,_⟩:=aS hb.o;clear hd he
    go_wp2_with fail;refine(qE it.name false _ hp.o).mono ?_;rintro e w2 ⟨rfl,rfl⟩
    by_cases hg:it.kind=1
    ·have e1:(it.kind == 1)=true:=by simp[hg]
     have HK:=ah (show kX it=(decide (it.link.size=0) && decide (it.node=eq) && lz it) by unfold kX; rw[if_pos hg]);clear hg;have hB:=ah (show dN S (w1.alloc (.cells #[.string ⟨#[]⟩, .int .i64 0, .int .i64 0] 26)) (.slice a it.chunks.length cap) it.chunks from cN.below HV.o (by omega) (ha.o.alloc ha.o.size _) (fun _ _ _ h=>h));go_wp2_with fail
     ·have hz:=vH S ⟨it.name,it.kind,it.mode,it.time,it.size,it.link,it.chunks,eq⟩ (.slice a it.chunks.length cap) _ hB.o;simp only[rZ,lz]at hz;refine hz.mono ?_;rintro e w3 ⟨rfl,hr⟩;have hy:=ah (aj (ha.o.alloc ha.o.size _) hr);have hl:it.link.size=0:=HL.o.1 (by assumption);have hn:it.node=eq:=by assumption
      have hj:=ah (aA hl hn);clear hr hl hn;go_wp2_with fail;go_ret;exact⟨bX (by rw[HH.o,HK.o]; simp[hj.o.1,hj.o.2]; rfl),hy.o⟩
     all_goals (
      go_ret;refine⟨bX ?_,ha.o.alloc ha.o.size _⟩;rw[HH.o,HK.o];refine(fo.2 fun hh=> ?_).symm;simp only[aF,aJ]at hh;obtain⟨⟨x1,x2⟩,x3⟩:=hh
      first | exact absurd x2 (by assumption) | exact absurd (HL.o.2 x1) (by assumption))
    ·have e1:(it.kind == 1)=false:=by simp[hg]
     by_cases hk:it.kind=2
     ·have e2:(it.kind == 2)=true:=by simp[hk]
      have HK:=ah (show kX it=(decide (it.link.size=0) && decide (it.size=0) && decide (it.chunks.length=0) && lF it.node) by unfold kX; rw[if_neg hg,if_pos hk]);clear hg hk;go_wp2_with fail
      ·refine(tX it.node _ HO.o.nd).mono ?_;rintro e w3 ⟨rfl,hr⟩;have hy:=ah (aj (ha.o.alloc ha.o.size _) hr);have hl:it.link.size=0:=HL.o.1 (by assumption);have hs:it.size=0:=by assumption
       have hn:it.chunks=[]:=by assumption
       have hj:=ah (aA hl (aA hs hn));clear hr hl hn hs;go_wp2_with fail;go_ret;exact⟨bX (by rw[HH.o,HK.o]; simp[hj.o.1,hj.o.2.1,hj.o.2.2]),hy.o⟩
      all_goals (
       go_ret;refine⟨bX ?_,ha.o.alloc ha.o.size _⟩;rw[HH.o,HK.o];refine(fo.2 fun hh=> ?_).symm;simp only[aF,aJ]at hh;obtain⟨⟨⟨x1,x2⟩,x3⟩,x4⟩:=hh
       first | exact absurd (bq x3) (by assumption) | exact absurd x2 (by assumption) | exact absurd (HL.o.2 x1) (by assumption))
     ·have e2:(it.kind == 2)=false:=by simp[hk]
      by_cases hq:it.kind=3
      ·have e3:(it.kind == 3)=true:=by simp[hq]
       have HK:=ah (show kX it=((decide (it.size=0) && decide (it.chunks.length=0) && decide (it.node=eq)) && (decide (1<=it.link.size) && decide (it.link.size<=512) && !(bl it.link).contains 0)) by unfold kX; rw[if_neg hg,if_neg hk,if_pos hq]);clear hg hk hq;go_wp2_with fail
       any_goals (
        go_ret;refine⟨bX ?_,ha.o.alloc ha.o.size _⟩;rw[HH.o,HK.o];refine(fo.2 fun hh=> ?_).symm;simp only[aF,aJ]at hh;obtain⟨⟨⟨x1,x2⟩,x3⟩,⟨x4,x5⟩,x6⟩:=hh
        first
         | exact absurd x1 (by assumption)
         | exact absurd (bq x2) (by assumption)
         | (exfalso; have hn:(!decide (it.node=eq))=true:=(by assumption); simp[x3]at hn)
         | omega)
       refine(yF it.link _).mono ?_;rintro e w3 ⟨rfl,rfl⟩;have hs:it.size=0:=by assumption
       have hC:it.chunks=[]:=by assumption
       have hn:(!decide (it.node=eq))=false:=by assumption
       have hD:1<=(it.link.size:Int):=by assumption
       have hE:(it.link.size:Int)<=512:=by assumption
       have hj:=ah (aA hs (aA hC (aA hn (aA hD hE))));go_wp2_with fail;go_ret;refine⟨bX ?_,ha.o.alloc ha.o.size _⟩;obtain⟨y1,y2,y3,y4,y5⟩:=hj.o;have y6:it.node=eq:=by simpa using y3
       rw[HH.o,HK.o,<-lC];have z1:decide (1<=it.link.size)=true:=by simp; omega
       have z2:decide (it.link.size<=512)=true:=by simp; omega
       rw[z1,z2];simp[y1,y2,y6];rw[dq]; simp
      ·have e3:(it.kind == 3)=false:=by simp[hq]
       have HK:=ah (show kX it=false by unfold kX; rw[if_neg hg,if_neg hk,if_neg hq]);clear hg hk hq;go_wp2_with fail;go_ret;exact⟨bX (by rw[HH.o,HK.o]),ha.o.alloc ha.o.size _⟩
   ·have HF:=ah (show iG it=false by
     have:(decide (0<=it.mode) && decide (it.mode<=511) && decide (0<=it.time))=false:=by rw[fo]; simp; omega
     unfold iG tW; rw[this]; simp)
    go_enter Tryz.func96,Tryz.ntmps96
    go_wp2_with fail;obtain⟨W,hW⟩:=bI (w.alloc (.cells #[.string it.name, .int .i64 it.kind, .int .i64 it.mode, .int .i64 it.time, .int .i64 it.size, .string it.link, .slice a it.chunks.length cap, .string it.node.name, .int .i64 it.node.gen, .int .i64 it.node.size] 28));rw[<-hW];have hf:=ah (show Below w.heap.size w W by rw[hW]; exact eW);have he:=ah (show W.heap[w.heap.size]? =some (.cells #[.string it.name, .int .i64 it.kind, .int .i64 it.mode, .int .i64 it.time, .int .i64 it.size, .string it.link, .slice a it.chunks.length cap, .string it.node.name, .int .i64 it.node.gen, .int .i64 it.node.size] 28 (0,0)) by rw[hW]; exact aG w _)
    clear hW;refine(mW it.name true _ (HE.o.below hf.o) ho.o).mono ?_;rintro e w1 ⟨rfl,hd⟩;have hb:=ah ((hd.block w.heap.size ((aM.1 he.o).1)).trans he.o);have ha:=ah (aj hf.o hd);have hu:w.heap.size<w1.heap.size:=(aM.1 hb.o).1;obtain⟨c0,c1,c2,c3,c4,c5,c6,c7,c8,c9,_⟩:=aS hb.o;clear hd he
    go_wp2_with fail;refine(qE it.name false _ hp.o).mono ?_;rintro e w2 ⟨rfl,rfl⟩;have hA:=ah hx;clear hx
    rcases Int.lt_or_le it.mode 0 with h1 | h1
    ·go_wp2_with fail;go_ret;exact⟨bX (by rw[HF.o]),ha.o⟩
    ·rcases Int.lt_or_le 511 it.mode with h2 | h2
     ·go_wp2_with fail;go_ret;exact⟨bX (by rw[HF.o]),ha.o⟩
     ·have h3:it.time<0:=by have:=hA.o; omega
      go_wp2_with fail;go_ret;exact⟨bX (by rw[HF.o]),ha.o⟩
  ·have hp:=ah hw;clear hw
   go_enter Tryz.func96,Tryz.ntmps96
   go_wp2_with fail;obtain⟨W,hW⟩:=bI (w.alloc (.cells #[.string it.name, .int .i64 it.kind, .int .i64 it.mode, .int .i64 it.time, .int .i64 it.size, .string it.link, .slice a it.chunks.length cap, .string it.node.name, .int .i64 it.node.gen, .int .i64 it.node.size] 28));rw[<-hW];have hf:=ah (show Below w.heap.size w W by rw[hW]; exact eW);have he:=ah (show W.heap[w.heap.size]? =some (.cells #[.string it.name, .int .i64 it.kind, .int .i64 it.mode, .int .i64 it.time, .int .i64 it.size, .string it.link, .slice a it.chunks.length cap, .string it.node.name, .int .i64 it.node.gen, .int .i64 it.node.size] 28 (0,0)) by rw[hW]; exact aG w _)
   clear hW;refine(mW it.name true _ (HE.o.below hf.o) ho.o).mono ?_;rintro e w1 ⟨rfl,hd⟩;have hb:=ah ((hd.block w.heap.size ((aM.1 he.o).1)).trans he.o);have ha:=ah (aj hf.o hd);have hu:w.heap.size<w1.heap.size:=(aM.1 hb.o).1;obtain⟨c0,c1,c2,c3,c4,c5,c6,c7,c8,c9,_⟩:=aS hb.o;clear hd he
   go_wp2_with fail;refine(qE it.name true _ hp.o).mono ?_;rintro e w2 ⟨rfl,rfl⟩;go_wp2_with fail;go_ret;exact⟨bX (by unfold iG tW; rw[hp.o]; simp),ha.o⟩
def lG (S:Nat->Prop) (w:World) (c:List Value) (it:cj):Prop:= ∃cv,c=fu cv it/\dN S w cv it.chunks/\iC it
theorem lG.len {S:Nat->Prop} {w:World} (c:List Value) (it:cj) (h:lG S w c it):c.length=10:=by obtain⟨cv,rfl,_⟩:=h; rfl
def eP (S:Nat->Prop) (w:World) (v:Value) (l:List cj):Prop:=cN S w 10 (lG S w) v l
theorem eP.below {S:Nat->Prop} {w w':World} {v:Value} {l:List cj} (h:eP S w v l) (hb:Below w.heap.size w w'):eP S w' v l:=
 cN.below h (by omega) hb (fun c x _ ⟨cv,h1,h2,h3⟩=>⟨cv,h1,cN.below h2 (by omega) hb (fun _ _ _ h=>h),h3⟩)
theorem mT {S:Nat->Prop} {w w':World} {a:Option Addr} {n cap:Nat} {l:List cj} (hv:eP S w (.slice a n cap) l) (hb:Below w.heap.size w w') {k:Nat} {it:cj} (hr:l[k]? =some it):
  ∃b o ca cc,a=some ⟨b,o,none⟩/\iC it/\dN S w' (.slice ca it.chunks.length cc) it.chunks/\b<w.heap.size/\S b/\ ∀j,j<10->w'.cell? ⟨b,o+k*10+j,none⟩=(fu (.slice ca it.chunks.length cc) it)[j]? :=by
 obtain⟨a',cap',hf,_,_,hx⟩:=cN.shape hv lG.len
 cases hf
 obtain⟨b,o,c,rfl,hS,⟨cv,rfl,hd,he⟩,_,ha⟩:=hx k it hr;have q0:=ha 0 (by omega);have hc:b<w.heap.size:=bP (a:=⟨b,o+(k*10+0),none⟩) (v:= .string it.name) q0;obtain⟨ca,cc,rfl,_,_,_⟩:=cN.shape hd qA.len;refine⟨b,o,ca,cc,rfl,he,cN.below hd (by omega) hb (fun _ _ _ h=>h),hc,hS,fun j hj=> ?_⟩;rw[dk];exact(hb.cell (p:=⟨b,o+(k*10+j),none⟩) hc).trans (ha j hj)
def Pd (a b:ByteArray):Bool:=Op.bytesLess a.toList b.toList
def qb (p:Option ByteArray) (n:ByteArray):Bool:=match p with
 | none=>true
 | some q=>Pd q n
def ke :Option ByteArray->List cj->Bool
 | _,[]=>true
 | p,it::r=>iG it && qb p it.name && ke (some it.name) r
def jL (l:List cj):Bool:=decide (l.length<=4096) && ke none l
def qv (l:List cj) (k:Nat):Option ByteArray:=match k with
 | 0=>none
 | k+1=>l[k]?.map cj.name
theorem KE {l:List cj} {k:Nat} {it:cj} (hk:1<=k) (h:l[k-1]? =some it):qv l k=some it.name:=by
 cases k with
 | zero=>omega
 | succ k=>
  simp only[jB]at h;simp[qv,h]
theorem oQ {l:List cj} {k:Nat} {it:cj} (h:l[k]? =some it):ke (qv l k) (l.drop k)=(iG it && qb (qv l k) it.name && ke (qv l (k+1)) (l.drop (k+1))):=by
 obtain⟨hk,rfl⟩:=aD.1 h;rw[cA hk]
 show(iG l[k] && qb (qv l k) l[k].name && ke (some l[k].name) _)=_
 simp[qv,hk]
theorem nF (S:Nat->Prop) (it:cj) (cv:Value) (b:Bool) (w:World) (hcv:dN S w cv it.chunks) (hok:iC it) (henv:oz w) (h:iG it=b):Calls Tryz.prog 96 #[rZ cv it] w fun e w'=>e= .returned (.bool b)/\Below w.heap.size w w':=by rw[<-h]; exact yY S it cv w hcv hok henv
theorem zb (S:Nat->Prop) (l:List cj) (v:Value) (w:World) (hv:eP S w v l) (henv:oz w):Calls Tryz.prog 47 #[v] w fun e w'=>e= .returned (.bool (jL l))/\Below w.heap.size w w':=by
 obtain⟨a,cap,rfl,hc,hm,-⟩:=cN.shape hv lG.len;unfold maxLen at hm;have HV:=ah hv;have HE:=ah henv;clear hv henv
 by_cases hA:4096<l.length
 ·have HF:=ah (show jL l=false by
   unfold jL;have:decide (l.length<=4096)=false:=by simp; omega
   rw[this]; rfl)
  go_enter Tryz.func47,Tryz.ntmps47
  go_wp2_with fail;go_ret;exact⟨bX (by rw[HF.o]),ak _ _⟩
 ·have HN:=ah (show jL l=ke none l by
   unfold jL;have:decide (l.length<=4096)=true:=by simp; omega
   rw[this]; rfl)
  go_enter Tryz.func47,Tryz.ntmps47
  go_wp2_with fail
  go_loopw [3,4,10] (fun x p i wr=> ∃k:Nat,k<=l.length/\i= .int .i64 k/\ke none l=ke (qv l k) (l.drop k)/\Below w.heap.size w wr) (fun _ _ i _=>l.length-(intOf i).toNat)
  ·exact⟨0,aU _,rfl,rfl,ak _ _⟩
  ·obtain⟨k,hk,rfl,hx,hb⟩:=hrel;have HB:=ah hb;have HA:=ah hx;clear hb hx
   by_cases hB:k<l.length
   ·obtain⟨it,hr⟩: ∃it,l[k]? =some it:=⟨l[k],by simp[hB]⟩;obtain⟨b,o,ca,cc,rfl,hy,hz,hG,-,hf⟩:=mT HV.o HB.o hr;have HR:=ah hr;have HO:=ah hy;have ho:=ah hz;have q0:=hf 0 (by omega);have q1:=hf 1 (by omega);have q2:=hf 2 (by omega);have q3:=hf 3 (by omega);have q4:=hf 4 (by omega);have q5:=hf 5 (by omega);have q6:=hf 6 (by omega);have q7:=hf 7 (by omega)
    have q8:=hf 8 (by omega);have q9:=hf 9 (by omega);simp only[fu,aB,cQ,cZ]at q0 q1 q2 q3 q4 q5 q6 q7 q8 q9;clear hr hy hz hf;have hI:=HB.o.size
    cases hp:iG it
    ·have hg:=ah hp;clear hp;have HF:=ah (show ke none l=false by rw[HA.o,oQ HR.o,hg.o]; rfl);go_wp2_with fail;refine bL [some 1,none,some 16] (by kernel_rfl) (by kernel_rfl) (by kernel_rfl) ?_;simp only[ed,aR,aZ,bA,bR]
     repeat (first | (refine cy rfl ?_; simp only[bN]) | (refine cU rfl (fun K hK=> ?_); go_simp; refine hK _ ?_; clear hK K))
     refine cT ?_;have hl:=ah (show dN S (wr.alloc (.cells #[.string it.name, .int .i64 it.kind, .int .i64 it.mode, .int .i64 it.time, .int .i64 it.size, .string it.link, .slice ca it.chunks.length cc, .string it.node.name, .int .i64 it.node.gen, .int .i64 it.node.size] 28)).drew (.slice ca it.chunks.length cc) it.chunks from cN.below ho.o (by omega) ((eW).drew) (fun _ _ _ h=>h))
     have hj:=ah (show oz (wr.alloc (.cells #[.string it.name, .int .i64 it.kind, .int .i64 it.mode, .int .i64 it.time, .int .i64 it.size, .string it.link, .slice ca it.chunks.length cc, .string it.node.name, .int .i64 it.node.gen, .int .i64 it.node.size] 28)).drew from HE.o.below ((HB.o.alloc HB.o.size _).drew));refine eu rfl (fun K hK=> ?_);go_wp2_with (go_at_call 96; refine(nF S it (.slice ca it.chunks.length cc) false _ hl.o HO.o hj.o hg.o).mono ?_; rintro e w1 ⟨rfl,ha⟩)
     have hh:=ah (aj ((HB.o.alloc HB.o.size _).drew) ha);have he:=ah (((ak _ _).alloc (ai _) (.cells #[.string it.name, .int .i64 it.kind, .int .i64 it.mode, .int .i64 it.time, .int .i64 it.size, .string it.link, .slice ca it.chunks.length cc, .string it.node.name, .int .i64 it.node.gen, .int .i64 it.node.size] 28)).drew.trans (ha.mono (by simp)));have n0:w1.cell? ⟨wr.heap.size,0,none⟩=some (.string it.name):=(ha.cell (p:=⟨wr.heap.size,0,none⟩) (by simp)).trans (bQ (aG wr _))
     clear ha
     repeat (first | (refine cy rfl ?_; simp only[bN]) | (refine cU rfl (fun K hK=> ?_); go_simp; refine hK _ ?_; clear hK K))
     refine cT ?_;go_wp2_with fail;go_ret;exact⟨bX (by rw[HN.o,HF.o]),hh.o⟩
    ·have hg:=ah hp;clear hp
     by_cases hJ:k<=0
     ·have HF:=ah (show ke none l=ke (qv l (k+1)) (l.drop (k+1)) by
       obtain rfl:k=0:=by omega
       rw[HA.o,oQ HR.o,hg.o]; simp[qv,qb])
      have ek:decide (0<k)=false:=by simp; omega
      go_wp2_with fail;refine bL [some 1,none,some 16] (by kernel_rfl) (by kernel_rfl) (by kernel_rfl) ?_;simp only[ed,aR,aZ,bA,bR]
      repeat (first | (refine cy rfl ?_; simp only[bN]) | (refine cU rfl (fun K hK=> ?_); go_simp; refine hK _ ?_; clear hK K))
      refine cT ?_;have hl:=ah (show dN S (wr.alloc (.cells #[.string it.name, .int .i64 it.kind, .int .i64 it.mode, .int .i64 it.time, .int .i64 it.size, .string it.link, .slice ca it.chunks.length cc, .string it.node.name, .int .i64 it.node.gen, .int .i64 it.node.size] 28)).drew (.slice ca it.chunks.length cc) it.chunks from cN.below ho.o (by omega) ((eW).drew) (fun _ _ _ h=>h))
      have hj:=ah (show oz (wr.alloc (.cells #[.string it.name, .int .i64 it.kind, .int .i64 it.mode, .int .i64 it.time, .int .i64 it.size, .string it.link, .slice ca it.chunks.length cc, .string it.node.name, .int .i64 it.node.gen, .int .i64 it.node.size] 28)).drew from HE.o.below ((HB.o.alloc HB.o.size _).drew));refine eu rfl (fun K hK=> ?_);go_wp2_with (go_at_call 96; refine(nF S it (.slice ca it.chunks.length cc) true _ hl.o HO.o hj.o hg.o).mono ?_; rintro e w1 ⟨rfl,ha⟩)
      have hh:=ah (aj ((HB.o.alloc HB.o.size _).drew) ha);have he:=ah (((ak _ _).alloc (ai _) (.cells #[.string it.name, .int .i64 it.kind, .int .i64 it.mode, .int .i64 it.time, .int .i64 it.size, .string it.link, .slice ca it.chunks.length cc, .string it.node.name, .int .i64 it.node.gen, .int .i64 it.node.size] 28)).drew.trans (ha.mono (by simp)));have n0:w1.cell? ⟨wr.heap.size,0,none⟩=some (.string it.name):=(ha.cell (p:=⟨wr.heap.size,0,none⟩) (by simp)).trans (bQ (aG wr _))
      clear ha
      repeat (first | (refine cy rfl ?_; simp only[bN]) | (refine cU rfl (fun K hK=> ?_); go_simp; refine hK _ ?_; clear hK K))
      refine cT ?_;go_wp2_with fail
      go_roundw
      ·exact⟨k+1,by omega,by go_num,HF.o,hh.o⟩
      simp[intOf]; omega
     ·obtain⟨ip,hq⟩: ∃ip,l[k-1]? =some ip:=⟨l[k-1],by simp⟩;obtain⟨b2,o2,ca2,cc2,e2,-,-,-,-,hn⟩:=mT HV.o HB.o hq
      cases e2
      have p0:=hn 0 (by omega);simp only[fu,aB,cZ]at p0;have hw:=ah (show qv l k=some ip.name from KE (by omega) hq);clear hn hq;have hF:(0:Int)<=(k:Int)-1:=by omega
      have hH:(k:Int)-1<(l.length:Int):=by omega
      have ek:decide (0<k)=true:=by simp; omega
      cases hd:Pd ip.name it.name
      ·have e3:Op.bytesLess ip.name.toList it.name.toList=false:=hd;have HF:=ah (show ke none l=false by rw[HA.o,oQ HR.o,hg.o,hw.o]; simp[qb,hd]);clear hd;go_wp2_with fail;refine bL [some 1,none,some 16] (by kernel_rfl) (by kernel_rfl) (by kernel_rfl) ?_;simp only[ed,aR,aZ,bA,bR]
       repeat (first | (refine cy rfl ?_; simp only[bN]) | (refine cU rfl (fun K hK=> ?_); go_simp; refine hK _ ?_; clear hK K))
       refine cT ?_;have hl:=ah (show dN S (wr.alloc (.cells #[.string it.name, .int .i64 it.kind, .int .i64 it.mode, .int .i64 it.time, .int .i64 it.size, .string it.link, .slice ca it.chunks.length cc, .string it.node.name, .int .i64 it.node.gen, .int .i64 it.node.size] 28)).drew (.slice ca it.chunks.length cc) it.chunks from cN.below ho.o (by omega) ((eW).drew) (fun _ _ _ h=>h))
       have hj:=ah (show oz (wr.alloc (.cells #[.string it.name, .int .i64 it.kind, .int .i64 it.mode, .int .i64 it.time, .int .i64 it.size, .string it.link, .slice ca it.chunks.length cc, .string it.node.name, .int .i64 it.node.gen, .int .i64 it.node.size] 28)).drew from HE.o.below ((HB.o.alloc HB.o.size _).drew));refine eu rfl (fun K hK=> ?_);go_wp2_with (go_at_call 96; refine(nF S it (.slice ca it.chunks.length cc) true _ hl.o HO.o hj.o hg.o).mono ?_; rintro e w1 ⟨rfl,ha⟩)
       have hh:=ah (aj ((HB.o.alloc HB.o.size _).drew) ha);have he:=ah (((ak _ _).alloc (ai _) (.cells #[.string it.name, .int .i64 it.kind, .int .i64 it.mode, .int .i64 it.time, .int .i64 it.size, .string it.link, .slice ca it.chunks.length cc, .string it.node.name, .int .i64 it.node.gen, .int .i64 it.node.size] 28)).drew.trans (ha.mono (by simp)));have n0:w1.cell? ⟨wr.heap.size,0,none⟩=some (.string it.name):=(ha.cell (p:=⟨wr.heap.size,0,none⟩) (by simp)).trans (bQ (aG wr _))
       clear ha;have p1:w1.cell? ⟨b,o+(k-1)*10,none⟩=some (.string ip.name):=(he.o.cell (p:=⟨b,o+(k-1)*10,none⟩) (by show b<wr.heap.size; omega)).trans p0;have hs:IntKind.i64.wrap ((k:Int)-1)=(k:Int)-1:=IntWalk.i64_in _ (by omega);have hu:((k:Int)-1).toNat=k-1:=by omega
       have hC:(1:Int)<=(k:Int):=by omega
       have hD:1<=k:=by omega
       have hE:0<k:=by omega
       repeat (first | (refine cy rfl ?_; simp only[bN]) | (refine cU rfl (fun K hK=> ?_); go_simp; refine hK _ ?_; clear hK K))
       refine cT ?_;clear hs hu;go_wp2_with fail;go_ret;exact⟨bX (by rw[HN.o,HF.o]),hh.o⟩
      ·have e3:Op.bytesLess ip.name.toList it.name.toList=true:=hd;have HF:=ah (show ke none l=ke (qv l (k+1)) (l.drop (k+1)) by rw[HA.o,oQ HR.o,hg.o,hw.o]; simp[qb,hd]);clear hd;go_wp2_with fail;refine bL [some 1,none,some 16] (by kernel_rfl) (by kernel_rfl) (by kernel_rfl) ?_;simp only[ed,aR,aZ,bA,bR]
       repeat (first | (refine cy rfl ?_; simp only[bN]) | (refine cU rfl (fun K hK=> ?_); go_simp; refine hK _ ?_; clear hK K))
       refine cT ?_;have hl:=ah (show dN S (wr.alloc (.cells #[.string it.name, .int .i64 it.kind, .int .i64 it.mode, .int .i64 it.time, .int .i64 it.size, .string it.link, .slice ca it.chunks.length cc, .string it.node.name, .int .i64 it.node.gen, .int .i64 it.node.size] 28)).drew (.slice ca it.chunks.length cc) it.chunks from cN.below ho.o (by omega) ((eW).drew) (fun _ _ _ h=>h))
       have hj:=ah (show oz (wr.alloc (.cells #[.string it.name, .int .i64 it.kind, .int .i64 it.mode, .int .i64 it.time, .int .i64 it.size, .string it.link, .slice ca it.chunks.length cc, .string it.node.name, .int .i64 it.node.gen, .int .i64 it.node.size] 28)).drew from HE.o.below ((HB.o.alloc HB.o.size _).drew));refine eu rfl (fun K hK=> ?_);go_wp2_with (go_at_call 96; refine(nF S it (.slice ca it.chunks.length cc) true _ hl.o HO.o hj.o hg.o).mono ?_; rintro e w1 ⟨rfl,ha⟩)
       have hh:=ah (aj ((HB.o.alloc HB.o.size _).drew) ha);have he:=ah (((ak _ _).alloc (ai _) (.cells #[.string it.name, .int .i64 it.kind, .int .i64 it.mode, .int .i64 it.time, .int .i64 it.size, .string it.link, .slice ca it.chunks.length cc, .string it.node.name, .int .i64 it.node.gen, .int .i64 it.node.size] 28)).drew.trans (ha.mono (by simp)));have n0:w1.cell? ⟨wr.heap.size,0,none⟩=some (.string it.name):=(ha.cell (p:=⟨wr.heap.size,0,none⟩) (by simp)).trans (bQ (aG wr _))
       clear ha;have p1:w1.cell? ⟨b,o+(k-1)*10,none⟩=some (.string ip.name):=(he.o.cell (p:=⟨b,o+(k-1)*10,none⟩) (by show b<wr.heap.size; omega)).trans p0;have hs:IntKind.i64.wrap ((k:Int)-1)=(k:Int)-1:=IntWalk.i64_in _ (by omega);have hu:((k:Int)-1).toNat=k-1:=by omega
       have hC:(1:Int)<=(k:Int):=by omega
       have hD:1<=k:=by omega
       have hE:0<k:=by omega
       repeat (first | (refine cy rfl ?_; simp only[bN]) | (refine cU rfl (fun K hK=> ?_); go_simp; refine hK _ ?_; clear hK K))
       refine cT ?_;clear hs hu;go_wp2_with fail
       go_roundw
       ·exact⟨k+1,by omega,by go_num,HF.o,hh.o⟩
       simp[intOf]; omega
   ·go_wp2_with fail;go_ret;exact⟨bX (by rw[HN.o,HA.o,gm (by omega)]; simp[ke]),HB.o⟩
end
section
open Go
section
variable {P : Program} {md : Region.Mode} {Q : Exit → Act → World → Prop}
def zf (P:Program) (ops:Array Oper) (m:Nat) (Q:Exit->Act->World->Prop):Exit->Act->World->Prop
 | .normal,a,w=>wpOp P ops Q m (fun a' w'=>Q .normal a' w') a w
 | e,a,w=>Q e a w
def Dv (md:Region.Mode) (L:List Oper):Bool:=
 Fe md L.toArray (L.length-1) && decide (0<L.length) &&
 ((List.range L.length).all fun i=>match L[i]? with | some x=>x.after.all (fun e=>decide (e.on<i)) && (match x.guard with | none=>true | some (j,_)=>decide (j<i)) | none=>true)
theorem BL {L:List Oper} {i:Nat} (hi:i<L.length-1):L.dropLast.toArray[i]? =L.toArray[i]? :=by simp[hi]
theorem Oj {L:List Oper} {i m:Nat} (hi:i<L.length-1) (hg: ∀(x:Oper) (j:Nat) (b:Bool),L[i]? =some x->x.guard=some (j,b)->j<i) {K:Act->World->Prop} {a:Act} {w:World}
  (h:wpOp P L.dropLast.toArray (zf P L.toArray m Q) i K a w):wpOp P L.toArray Q i K a w:=by
 unfold wpOp at h ⊢;rw[BL hi]at h
 cases hx:L.toArray[i]? with
 | none=>rw[hx]at h; exact h
 | some x=>
  rw[hx]at h;simp only at h ⊢;have hw:Region.wanted x (yielded L.dropLast.toArray a.tmps)=Region.wanted x (yielded L.toArray a.tmps):=by
   unfold Region.wanted
   cases ha:x.guard with
   | none=>rfl
   | some p=>
    obtain⟨j,b⟩:=p;have hj:=hg x j b (by simpa using hx) ha;simp only[yielded];rw[BL (by omega)]
  rw[hw]at h
  split at h
  ·rename_i hh;rw[if_pos hh];exact h
  ·rename_i hh;rw[if_neg hh];exact h
theorem AX {ops:Array Oper} {listed:Array Bool} {a:Act} {w:World} (hr:Region.ready md ops listed=[]) (h:Q .normal a w): ∀fuel,wpAny P md ops Q fuel listed a w
 | 0=>⟨hr,h⟩
 | _+1=>⟨fun _=>h,by rw[hr]; simp⟩
theorem rI {L:List Oper} {i:Nat} {listed:Array Bool} (hi:i<L.length-1):i∈Region.ready md L.dropLast.toArray listed<->i∈Region.ready md L.toArray listed:=by rw[iB,iB,BL hi]
theorem Ir {listed:Array Bool} {i:Nat} (hi:i<listed.size) (h:listed.getD i true=true):listed.getD i false=true:=by simp[hi]at h ⊢; exact h
theorem qX {L:List Oper} {i:Nat} {listed:Array Bool} (h:i∈Region.ready md L.toArray listed):i<L.length:=by
 obtain⟨_,o,ho,_⟩:=iB.1 h
 simpa using (aM.1 ho).1
theorem LX {L:List Oper} {listed:Array Bool} (hs:listed.size=L.length) (hback: ∀(i:Nat) (x:Oper),L[i]? =some x-> ∀e∈x.after,e.on<i) (hr:Region.ready md L.dropLast.toArray listed=[]):
  ∀(n i:Nat),i<n->i<L.length-1->listed.getD i true=true
 | 0,i,hn,_=>by omega
 | n+1,i,hn,hi=>by
  cases hg:listed.getD i true with
  | true=>rfl
  | false=>
   exfalso
   obtain⟨x,hx⟩: ∃x,L[i]? =some x:=⟨L[i]'(by omega),by simp⟩;have:i∈Region.ready md L.dropLast.toArray listed:=by rw[rI hi,iB];refine⟨hg,x,by simpa using hx,fun e he _=> ?_⟩;have hb:=hback i x hx e he;exact Ir (by omega) (LX hs hback hr n e.on (by omega) (by omega))
   rw[hr]at this
   cases this
theorem GZ {L:List Oper} (hc:Fe md L.toArray (L.length-1)=true) (hpos:0<L.length) (hback: ∀(i:Nat) (x:Oper),L[i]? =some x-> ∀e∈x.after,e.on<i) (hg: ∀(i:Nat) (x:Oper) (j:Nat) (b:Bool),L[i]? =some x->x.guard=some (j,b)->j<i):
  ∀(fuel:Nat) (listed:Array Bool) (a:Act) (w:World),HeadInv md L.toArray (L.length-1) listed->wpAny P md L.dropLast.toArray (zf P L.toArray (L.length-1) Q) fuel listed a w->wpAny P md L.toArray Q (fuel+1) listed a w:=by
 have hh: ∀listed:Array Bool,HeadInv md L.toArray (L.length-1) listed->Region.ready md L.dropLast.toArray listed=[]->(L.length-1)∈Region.ready md L.toArray listed:=fun listed inv hr=>by
  have hs:listed.size=L.length:=by simpa using inv.size
  obtain⟨x,hx⟩: ∃x,L[L.length-1]? =some x:=⟨L[L.length-1]'(by omega),by simp⟩;rw[iB];refine⟨inv.tail _ (ai _) (by simp; omega),x,by simpa using hx,fun e he _=> ?_⟩;have hb:=hback _ x hx e he;exact Ir (by omega) (LX hs hback hr L.length e.on (by omega) (by omega))
 have hl: ∀listed:Array Bool,HeadInv md L.toArray (L.length-1) listed->Region.ready md L.toArray listed≠[]:=fun listed inv e=>by
  cases hr:Region.ready md L.dropLast.toArray listed with
  | nil=>have:=hh listed inv hr; rw[e]at this; cases this
  | cons i r=>
   have hi:i∈Region.ready md L.dropLast.toArray listed:=by rw[hr]; simp
   have ha:=qX hi;simp only[fS]at ha;rw[rI ha,e]at hi
   cases hi
 have hd: ∀listed:Array Bool,HeadInv md L.toArray (L.length-1) listed->(L.length-1)∈Region.ready md L.toArray listed->Region.ready md L.dropLast.toArray listed=[]/\Region.ready md L.toArray (listed.setIfInBounds (L.length-1) true)=[]:=fun listed inv hm=>by
  have hs:listed.size=L.length:=by simpa using inv.size
  have hf: ∀i,i<L.length-1->listed.getD i true=true:=fun i hi=>by
   cases hj:listed.getD i true with
   | true=>rfl
   | false=>exact absurd hm (uh hc inv _ i rfl hi hj _ (ai _))
  constructor
  ·rw[List.eq_nil_iff_forall_not_mem];intro i hi;have ha:=qX hi;simp only[fS]at ha;have:=(iB.1 hi).1;rw[hf i ha]at this
   cases this
  ·rw[List.eq_nil_iff_forall_not_mem];intro i hi;have ha:=qX hi;have h1:=(iB.1 hi).1
   by_cases e:i=L.length-1
   ·rw[e]at h1;simp[hs]at h1
   ·rw[getD_set_ne true (kT e),hf i (by omega)]at h1
    cases h1
 intro fuel
 induction fuel with
 | zero=>
  intro listed a w inv h;refine⟨fun e=>absurd e (hl listed inv),fun i hi=> ?_⟩;have ha:=qX hi
  by_cases e:i=L.length-1
  ·subst e;exact wpOp_mono (fun a' w' h'=>AX (hd listed inv hi).2 h' 0) h.2
  ·have:=(rI (by omega)).2 hi;rw[h.1]at this
   cases this
 | succ fuel ih=>
  intro listed a w inv h;refine⟨fun e=>absurd e (hl listed inv),fun i hi=> ?_⟩;have ha:=qX hi
  by_cases e:i=L.length-1
  ·subst e;exact wpOp_mono (fun a' w' h'=>AX (hd listed inv hi).2 h' (fuel+1)) (h.1 (hd listed inv hi).1)
  ·have hk:i<L.length-1:=by omega
   refine Oj hk (fun x j b hx hj=>hg i x j b hx hj) (wpOp_mono (fun a' w' h'=>ih _ a' w' (inv.set hi hk) h') (h.2 i ((rI hk).2 hi)))
theorem De {ops:Array Oper} {m:Nat} :HeadInv md ops m (Array.replicate ops.size false):=by refine⟨by simp,fun j oj hj hl=> ?_,fun t _ ht=>by simp[ht]⟩;have:=(aM.1 hj).1;simp[this]at hl
theorem eJ {id:Nat} {a:Act} {w:World} {L:List Oper} (S:World->Prop) (hm:P.follows .mixedOrders=true) (hB:Dv .any L=true)
  (h:pM P L.dropLast.toArray (zf P L.toArray (L.length-1) Q) S (L.length-1) (Array.replicate L.length false) a w.drew):(Code.region id L.toArray true).wp P Q a w:=by
 simp only[Dv,aF,aJ]at hB;obtain⟨⟨hc,hd⟩,hb⟩:=hB;have ha: ∀(i:Nat) (x:Oper),L[i]? =some x->(∀e∈x.after,e.on<i)/\ ∀j b,x.guard=some (j,b)->j<i:=fun i x hx=>by
  have:=cu.1 hb i (dU.2 (aD.1 hx).1);rw[hx]at this;simp only[aF]at this;refine⟨fun e he=> ?_,fun j b hg=> ?_⟩
  ·have:=Array.all_eq_true'.1 this.1 e he
   simpa using this
  ·have:=this.2;rw[hg]at this
   simpa using this
 refine wp_region_any hm ?_;have:=GZ hc hd (fun i x hx=>(ha i x hx).1) (fun i x j b hx=>(ha i x hx).2 j b) (L.length-1) _ a w.drew De (wpAny_of_held _ _ _ _ (by simpa using h.out));rw[show L.length-1+1=L.length by omega]at this
 simpa using this
theorem eU {L:List Oper} {m:Nat} {a:Act} {w:World} {dst:Option Tmp} {op:Op} {ty:TypeId} {pos:String} {aft:Array Edge} {g:Option (Nat×Bool)} (hi:L[m]? =some ⟨dst,op,ty,pos,aft,g⟩) (hw:Region.wanted ⟨dst,op,ty,pos,aft,g⟩ (yielded L.toArray a.tmps)=true)
  (h: ∀K:Act->World->Prop,(∀a w,Q .normal a w->K a w)->wpList P #[] (Exit.then K Q) [⟨dst,op,ty,pos, #[],none⟩] a w):zf P L.toArray m Q .normal a w:=by
 show wpOp P L.toArray Q m _ a w
 have hb:yx P L.toArray (fun a' w'=>Q .normal a' w') Q [⟨dst,op,ty,pos,aft,g⟩] a w:=eu hw (fun K hK=>h K (fun a w hh=>hK a w hh));unfold wpOp;have ha:L.toArray[m]? =some ⟨dst,op,ty,pos,aft,g⟩:=by simpa using hi
 simp only[ha];exact yx.out hb
end
end
section
open Go.RowKit
theorem Tryz.appBytes :kw Tryz.prog 29 5 1 1:=kw.mk' (z:= .int .u8 0) dm (by kernel_rfl) rfl (by decide) (by decide)
theorem Tryz.appRefs :kw Tryz.prog 24 26 3 32:=kw.mk' (z:= .agg #[.string ⟨#[]⟩, .int .i64 0, .int .i64 0]) Tryz.underlying24 (by kernel_rfl) rfl (by decide) (by decide)
theorem Tryz.appItems :kw Tryz.prog 22 28 10 120:=kw.mk' (z:= .agg #[.string ⟨#[]⟩, .int .i64 0, .int .i64 0, .int .i64 0, .int .i64 0, .string ⟨#[]⟩, .slice none 0 0, .string ⟨#[]⟩, .int .i64 0, .int .i64 0]) Tryz.underlying22 (by kernel_rfl) rfl (by decide) (by decide)
def bD (S:Nat->Prop) (w:World) (v:Value) (bs:List UInt8):Prop:=cD S w 1 v bs.length (bs.map aY)
def QB (bs:List UInt8) (w:World) (e:Ending) (w':World):Prop:= ∃rb dv,e= .returned (.pointer (some ⟨rb,0,none⟩))/\w.heap.size<=rb/\sZ w' rb dv bs ⟨0,0,0⟩/\Below w.heap.size w w'
theorem fy (bs:List UInt8): ∀u∈bs.map aY,u.oneCell'=true:=fun u hu=>by
 obtain⟨b,_,rfl⟩:=aP.1 hu
 rfl
theorem yL (S:Nat->Prop) (bs:List UInt8) (v:Value) (w:World) (hv:bD S w v bs) (hl:bs.length<=32768):Calls Tryz.prog 58 #[v] w (QB bs w):=by
 obtain⟨_,a,cap,rfl,hn,hm,-⟩:=id hv;unfold maxLen at hm;have HV:=ah (show cD S (w.alloc (.cells #[] 5)) 1 (.slice a bs.length cap) bs.length (bs.map aY)from cD.below hv (by omega) (eW));have HO:=ah (World.ownsRow_made (base:=w.heap.size) (e:=5) (size:=1) w #[] 0 (ai _) (by unfold maxLen; omega) rfl);clear hv
 go_enter Tryz.func58,Tryz.ntmps58
 go_wp2_with (at_builtin; go_must (refine ew Tryz.appBytes rfl _ _ rfl w.heap.size _ 0 [] rfl HO.o _ bs.length (bs.map aY) rfl HV.o (fy bs) (by omega) (by simp) ?_); intro v5 w5 ha hb; rw[bT,aI]at ha; have hd:=ah ha; obtain⟨a5,c5,rfl,hf,he⟩:=aH ha; have hc:=ah (show Below w.heap.size w w5 from bZ ((ak w.heap.size w).alloc (ai _) _) HO.o hb (ai _) (by simp)); clear ha hb)
 go_ret;refine⟨w5.heap.size,_,rfl,hc.o.size,⟨aG w5 _, ?_,aU _,aU _,hl⟩,hc.o.alloc hc.o.size _⟩;have hr:=cD.below (cJ hd.o) (by omega) ((ak w5.heap.size w5).alloc (ai _) (.cells #[.slice a5 bs.length c5, .int .i64 0, .int .i64 0, .int .i64 0] 165));refine hr.weak (fun k hk e=> ?_);have:=(hd.o.lt k hk.2).2;omega
def jn (data:List UInt8) (s0:RS):Nat->List cH×RS
 | 0=>([],s0)
 | k+1=>((jn data s0 k).1++[(rT data (jn data s0 k).2).1],(rT data (jn data s0 k).2).2)
def px (data:List UInt8) (nm:List UInt8) (kd md td:Nat) (s:RS):Option (cj×RS):=
 if ow kd=1 then some (⟨⟨nm.toArray⟩,ow kd,ow md,ow td,ni (jn data (Bq data 963 s).2 (Bq data 963 s).1).1,⟨#[]⟩,(jn data (Bq data 963 s).2 (Bq data 963 s).1).1,eq⟩,(jn data (Bq data 963 s).2 (Bq data 963 s).1).2)
 else if ow kd=2 then some (⟨⟨nm.toArray⟩,ow kd,ow md,ow td,0,⟨#[]⟩,[],(rT data s).1⟩,(rT data s).2)
 else if ow kd=3 then some (⟨⟨nm.toArray⟩,ow kd,ow md,ow td,0,⟨(EF data 512 s).1.toArray⟩,[],eq⟩,(EF data 512 s).2)
 else none
def nj (data:List UInt8) (s:RS):Option (cj×RS):=
 px data (EF data 64 s).1 (vG data (EF data 64 s).2).1 (vG data (vG data (EF data 64 s).2).2).1 (vG data (vG data (vG data (EF data 64 s).2).2).2).1 (vG data (vG data (vG data (EF data 64 s).2).2).2).2
theorem xk {data:List UInt8} {s s2 s3 s4 s5:RS} {nm:List UInt8} {kd md td:Nat} (h1:EF data 64 s=(nm,s2)) (h2:vG data s2=(kd,s3)) (h3:vG data s3=(md,s4)) (h4:vG data s4=(td,s5)):nj data s=px data nm kd md td s5:=by
 have e1:(EF data 64 s).1=nm:=by rw[h1]
 have e2:(EF data 64 s).2=s2:=by rw[h1]
 have e3:(vG data s2).1=kd:=by rw[h2]
 have e4:(vG data s2).2=s3:=by rw[h2]
 have e5:(vG data s3).1=md:=by rw[h3]
 have e6:(vG data s3).2=s4:=by rw[h3]
 have e7:(vG data s4).1=td:=by rw[h4]
 have e8:(vG data s4).2=s5:=by rw[h4]
 unfold nj;rw[e2,e4,e6,e1,e3,e5,e7,e8]
theorem xi {data:List UInt8} {s s1 s2:RS} {nm:List UInt8} {kd md td n:Nat} {ch:List cH} (hk:ow kd=1) (h1:Bq data 963 s=(n,s1)) (h2:jn data s1 n=(ch,s2)):px data nm kd md td s=some (⟨⟨nm.toArray⟩,ow kd,ow md,ow td,ni ch,⟨#[]⟩,ch,eq⟩,s2):=by
 have e1:(Bq data 963 s).1=n:=by rw[h1]
 have e2:(Bq data 963 s).2=s1:=by rw[h1]
 have e3:(jn data s1 n).1=ch:=by rw[h2]
 have e4:(jn data s1 n).2=s2:=by rw[h2]
 unfold px;rw[if_pos hk,e1,e2,e3,e4]
theorem zS {data:List UInt8} {s s1:RS} {nm:List UInt8} {kd md td:Nat} {r:cH} (hk:ow kd=2) (h1:rT data s=(r,s1)):px data nm kd md td s=some (⟨⟨nm.toArray⟩,ow kd,ow md,ow td,0,⟨#[]⟩,[],r⟩,s1):=by
 have e1:(rT data s).1=r:=by rw[h1]
 have e2:(rT data s).2=s1:=by rw[h1]
 have ha: ¬ow kd=1:=by rw[hk]; omega
 unfold px;rw[if_neg ha,if_pos hk,e1,e2]
theorem xj {data:List UInt8} {s s1:RS} {nm lk:List UInt8} {kd md td:Nat} (hk:ow kd=3) (h1:EF data 512 s=(lk,s1)):px data nm kd md td s=some (⟨⟨nm.toArray⟩,ow kd,ow md,ow td,0,⟨lk.toArray⟩,[],eq⟩,s1):=by
 have e1:(EF data 512 s).1=lk:=by rw[h1]
 have e2:(EF data 512 s).2=s1:=by rw[h1]
 have ha: ¬ow kd=1:=by rw[hk]; omega
 have hb: ¬ow kd=2:=by rw[hk]; omega
 unfold px;rw[if_neg ha,if_neg hb,if_pos hk,e1,e2]
theorem FA {data:List UInt8} {s:RS} {nm:List UInt8} {kd md td:Nat} (hk1: ¬ow kd=1) (hk2: ¬ow kd=2) (hk3: ¬ow kd=3):px data nm kd md td s=none:=by unfold px;rw[if_neg hk1,if_neg hk2,if_neg hk3]
def jo (data:List UInt8) (s0:RS):Nat->Option (List cj×RS)
 | 0=>some ([],s0)
 | k+1=>(jo data s0 k).bind fun p=>(nj data p.2).map fun q=>(p.1++[q.1],q.2)
def iY (data:List UInt8):Option (List cj):=
 if 32768<data.length then none else
 (jo data (Bq data 4096 ⟨0,0,0⟩).2 (Bq data 4096 ⟨0,0,0⟩).1).bind fun p=>if uj data p.2=0/\jL p.1=true then some p.1 else none
theorem mS (data:List UInt8) (s0:RS) (k:Nat):jo data s0 (k+1)=(jo data s0 k).bind fun p=>(nj data p.2).map fun q=>(p.1++[q.1],q.2):=rfl
theorem Dm {data:List UInt8} {s0:RS} {k:Nat} (h:jo data s0 k=none): ∀n,k<=n->jo data s0 n=none:=by
 intro n hn
 induction n with
 | zero=>
  obtain rfl:k=0:=by omega
  exact h
 | succ n ih=>
  by_cases e:k=n+1
  ·rw[<-e]; exact h
  ·rw[mS,ih (by omega),Option.bind_none]
theorem Jo {α β γ:Type} {x:Option α} {f:α->Option β} {g:α->β->γ} {a:α} {b:β} (h:x=some a) (h1:f a=some b):(x.bind fun p=>(f p).map fun q=>g p q)=some (g a b):=by subst h; rw[Option.bind_some,h1]; rfl
theorem Jp {α β γ:Type} {x:Option α} {f:α->Option β} {g:α->β->γ} {a:α} (h:x=some a) (h1:f a=none):(x.bind fun p=>(f p).map fun q=>g p q)=none:=by subst h; rw[Option.bind_some,h1]; rfl
theorem mR {data:List UInt8} {s0 s s1:RS} {k:Nat} {l:List cj} {it:cj} (h:jo data s0 k=some (l,s)) (h1:nj data s=some (it,s1)):jo data s0 (k+1)=some (l++[it],s1):=by rw[mS]; exact Jo (f:=fun p:List cj×RS=>nj data p.2) (g:=fun p q=>(p.1++[q.1],q.2)) h h1
theorem ve {data:List UInt8} {s0 s:RS} {k:Nat} {l:List cj} (h:jo data s0 k=some (l,s)) (h1:nj data s=none):jo data s0 (k+1)=none:=by rw[mS]; exact Jp (f:=fun p:List cj×RS=>nj data p.2) (g:=fun p q=>(p.1++[q.1],q.2)) h h1
theorem wC (data:List UInt8) (s0:RS): ∀k,(jn data s0 k).1.length=k
 | 0=>rfl
 | k+1=>by rw[jn]; simp[wC data s0 k]
theorem zp (data:List UInt8) (s0:RS): ∀k,∀r∈(jn data s0 k).1,eF r
 | 0=>by simp[jn]
 | k+1=>fun r hr=>by
  rw[jn]at hr;simp only[aN,aE]at hr
  rcases hr with hr | rfl
  ·exact zp data s0 k r hr
  ·exact IQ _ _
theorem Br (data:List UInt8) (most:Nat) (s:RS):(Bq data most s).1<=most:=by
 unfold Bq rv
 split
 ·split
  ·rename_i x o h;exact(uo h).1
  ·exact aU _
 ·exact aU _
theorem Jc (data:List UInt8) (most:Nat) (s:RS):(EF data most s).1.length<=most:=by
 unfold EF rv
 split
 ·split
  ·rename_i x o h;unfold kt at h
   split at h
   ·simp at h
   ·rename_i n o' hn;unfold kK at h
    split at h
    ·simp at h
    ·simp only[dr,cF]at h;obtain⟨rfl,rfl⟩:=h;have:=(uo hn).1
     simp; omega
  ·exact aU _
 ·exact aU _
structure kD (rb ib : Nat) (wr wc : World) (dv : Value) (data : List UInt8) (s : RS) (cs : Array Value) : Prop where
 rd:sZ wc rb dv data s
 rd0: ∃s0,sZ wr rb dv data s0
 box:wc.heap[ib]? =some (.cells cs 28 (0,0))
 grown:wr.grownBy wc (some rb)
 ge:wr.heap.size<=ib
theorem kD.lt {rb ib:Nat} {wr wc:World} {dv:Value} {data:List UInt8} {s:RS} {cs:Array Value} (h:kD rb ib wr wc dv data s cs):rb<wr.heap.size:=by obtain⟨s0,h0⟩:=h.rd0;exact du.lt h0
theorem kD.call {rb ib:Nat} {wr wc w':World} {dv:Value} {data:List UInt8} {s s':RS} {cs:Array Value} (h:kD rb ib wr wc dv data s cs) (h1:sZ w' rb dv data s') (h2:wc.grownBy w' (some rb)):kD rb ib wr w' dv data s' cs:=
 ⟨h1,h.rd0,nr h2 h.box (by have:=h.lt; have:=h.ge; omega),cg h.grown h2,h.ge⟩
theorem kD.set {rb ib:Nat} {wr wc:World} {dv:Value} {data:List UInt8} {s:RS} {cs:Array Value} (h:kD rb ib wr wc dv data s cs) (k:Nat) (x:Value):kD rb ib wr (wc.setCell ⟨ib,k,none⟩ x) dv data s (cs.setIfInBounds k x):=by obtain⟨s0,h0⟩:=h.rd0;exact⟨du.setOther h0 h.rd h.ge x,h.rd0,jm h.box x,nJ h.grown h.ge x,h.ge⟩
theorem kD.below {rb ib:Nat} {wr wc w':World} {dv:Value} {data:List UInt8} {s:RS} {cs:Array Value} (h:kD rb ib wr wc dv data s cs) (hb:Below wc.heap.size wc w'):kD rb ib wr w' dv data s cs:=
 ⟨du.below h.rd hb,h.rd0,(hb.block ib ((aM.1 h.box).1)).trans h.box,cg h.grown (gA hb _),h.ge⟩
theorem kD.start {rb:Nat} {wr w2:World} {dv:Value} {data:List UInt8} {s s2:RS} (h0:sZ wr rb dv data s) (h1:sZ w2 rb dv data s2) (h2:wr.grownBy w2 (some rb)) (cs:Array Value):
  kD rb w2.heap.size wr (w2.alloc (.cells cs 28)) dv data s2 cs:=
 ⟨du.below h1 (eW),⟨s,h0⟩,aG w2 _,cg h2 (gA (eW) _),h2.size⟩
theorem kD.cell {rb ib:Nat} {wr wc:World} {dv:Value} {data:List UInt8} {s:RS} {cs:Array Value} (h:kD rb ib wr wc dv data s cs) (k:Nat):wc.cell? ⟨ib,k,none⟩=cs[k]? :=bQ h.box
theorem kD.free {rb ib:Nat} {wr wc:World} {dv:Value} {data:List UInt8} {s:RS} {cs:Array Value} (h:kD rb ib wr wc dv data s cs) (k:Nat):wc.frozen? ⟨ib,k,none⟩=false:=dE h.box
theorem du.keep {w1 wc w':World} {rb:Nat} {v:Value} {data:List UInt8} {off last off0 last0:Nat} {err err0:Int} (h0:du w1 rb v data off0 last0 err0) (h:du wc rb v data off last err) (hs: ∀k,k<w1.heap.size->w'.heap[k]? =wc.heap[k]?):du w' rb v data off last err:=by
 have h1:=h0.lt;have hd:=h0.row.mono (T:=fun k=>k≠rb/\k<w1.heap.size) (fun k hk hS=>⟨hS,hk⟩) (by omega);obtain⟨_,a0,cap0,he,_,_,ha⟩:=hd;obtain⟨hl,a,cap,hv,hn,hm,h2⟩:=h.row;refine⟨(hs rb h1).trans h.box,⟨hl,a,cap,hv,hn,hm, ?_⟩,h.le,h.ls,h.small⟩
 rcases h2 with h2 | ⟨bk,o,rfl,hk,hc⟩
 ·exact .inl h2
 ·rcases ha with ha | ⟨bk0,o0,rfl,hb,_⟩
  ·exact .inl ha
  ·rw[he]at hv
   cases hv
   refine .inr ⟨bk,o,rfl,hk,fun j u hj=> ?_⟩;rw[<-hc j u hj];exact cw (hs bk hb.2)
theorem kD.app {rb ib:Nat} {wr wc w':World} {dv:Value} {data:List UInt8} {s:RS} {cs:Array Value} {r:Option Nat} (h:kD rb ib wr wc dv data s cs) (h2:wc.grownBy w' r) (hr: ∀k,r=some k->ib<k):kD rb ib wr w' dv data s cs:=by
 obtain⟨s0,h0⟩:=h.rd0;have hg:=h.grown.size;have ha:=h.ge;refine⟨du.keep h0 h.rd (fun k hk=>h2.block k (by omega) (fun e=>by have:=hr k e.symm; omega)),h.rd0, ?_, ?_,h.ge⟩
 ·exact(h2.block ib ((aM.1 h.box).1) (fun e=>by have:=hr ib e.symm; omega)).trans h.box
 ·refine⟨h2.os.trans h.grown.os,h2.tape.trans h.grown.tape,h2.output.trans h.grown.output,an hg h2.size,fun k hk hn=> ?_⟩;rw[h2.block k (by omega) (fun e=>by have:=hr k e.symm; omega)];exact h.grown.block k hk hn
theorem uT {data:List UInt8} {s0 s s1:RS} {k:Nat} {l:List cH} {r:cH} (h:jn data s0 k=(l,s)) (h1:rT data s=(r,s1)):jn data s0 (k+1)=(l++[r],s1):=by
 have e1:(jn data s0 k).1=l:=by rw[h]
 have e2:(jn data s0 k).2=s:=by rw[h]
 have e3:(rT data s).1=r:=by rw[h1]
 have e4:(rT data s).2=s1:=by rw[h1]
 rw[jn,e1,e2,e3,e4]
theorem qY {r:cH} : ∀u∈jp r,u.oneCell'=true:=by
 intro u hu;simp only[jp,aT,dz,or_false]at hu
 rcases hu with rfl | rfl | rfl<;> rfl
theorem Az : ∀ {rs:List cH},(∀r∈rs,eF r)->eO qA (rs.flatMap jp) rs
 | [],_=>rfl
 | r::rs,h=>⟨jp r,rs.flatMap jp,rfl,⟨rfl,h r (by simp)⟩,Az (fun x hx=>h x (by simp[hx]))⟩
theorem qi {w:World} {base:Nat} {v:Value} {rs:List cH} (h:w.ownsRow base 26 3 v rs.length (rs.flatMap jp)) (hok: ∀r∈rs,eF r):dN (fun k=>base<=k/\v.ownBlock=some k) w v rs:=
 ⟨rs.flatMap jp,cJ h,Az hok⟩
structure vZ (w1 : World) (rb : Nat) (wr : World) (dv v : Value) (data : List UInt8) (s : RS) (l : List cj) : Prop where
 rd:sZ wr rb dv data s
 rd1: ∃s0,sZ w1 rb dv data s0
 row: ∃cells,wr.ownsRow w1.heap.size 28 10 v l.length cells/\eO (lG (fun k=>w1.heap.size<=k/\v.ownBlock≠some k) wr) cells l
 grown:w1.grownBy wr (some rb)
theorem dN.same {S T:Nat->Prop} {w w':World} {v:Value} {rs:List cH} (h:dN S w v rs) (hs: ∀k,k<w.heap.size->S k->T k/\w'.heap[k]? =w.heap[k]?):dN T w' v rs:=by obtain⟨cells,hr,ha⟩:=h;have h2:=hr.mono (T:=fun k=>k<w.heap.size/\S k) (fun k hk hS=>⟨hk,hS⟩) (by omega);have h3:=h2.same (w':=w') (fun k hk=>(hs k hk.1 hk.2).2);exact⟨cells,h3.weak (fun k hk=>(hs k hk.1 hk.2).1),ha⟩
theorem lG.same {S T:Nat->Prop} {w w':World} {c:List Value} {it:cj} (h:lG S w c it) (hs: ∀k,k<w.heap.size->S k->T k/\w'.heap[k]? =w.heap[k]?):lG T w' c it:=by obtain⟨cv,h1,h2,h3⟩:=h;exact⟨cv,h1,h2.same hs,h3⟩
theorem kR {a:Option Addr} {n c:Nat} {it:cj} : ∀u∈fu (.slice a n c) it,u.oneCell'=true:=by
 intro u hu;simp only[fu,aT,dz,or_false]at hu
 rcases hu with rfl | rfl | rfl | rfl | rfl | rfl | rfl | rfl | rfl | rfl<;> rfl
theorem vZ.added {rb ib:Nat} {w1 wr wc w':World} {dv v v':Value} {data:List UInt8} {s s':RS} {l:List cj} {it:cj} {cv:Value} {cells:List Value} (h:vZ w1 rb wr dv v data s l) (hm:kD rb ib wr wc dv data s' (fu cv it).toArray)
  (hcv:dN (wr.heap.size<= ·) wc cv it.chunks) (hok:iC it) (hrow:eO (lG (fun k=>w1.heap.size<=k/\v.ownBlock≠some k) wr) cells l) (hown:wr.ownsRow w1.heap.size 28 10 v l.length cells)
  (h1:w'.ownsRow w1.heap.size 28 10 v' (l.length+1) (cells++fu cv it)) (h2:wc.grownBy w' v.ownBlock) (h3: ∀k,v'.ownBlock=some k->v.ownBlock=some k\/wc.heap.size<=k):vZ w1 rb w' dv v' data s' (l++[it]):=by
 have he:=hm.lt;have hc:=hm.grown.size;have hb:=h.grown.size;obtain⟨s0,h0⟩:=h.rd1;have hd:=du.lt h0;have ha: ∀k,v.ownBlock=some k->w1.heap.size<=k/\k<wr.heap.size:=fun k hk=>hown.lt k hk
 refine⟨?_,h.rd1,⟨cells++fu cv it,by simpa using h1, ?_⟩, ?_⟩
 ·exact du.keep h0 hm.rd (fun k hk=>h2.block k (by omega) (fun e=>by have:=ha k e.symm; omega))
 ·refine eO.snoc (hrow.mono (fun c x _ hx=>hx.same (fun k hk hS=>⟨⟨hS.1,fun e=> ?_⟩, ?_⟩))) ⟨cv,rfl,hcv.same (fun k hk hS=>⟨⟨by omega,fun e=> ?_⟩, ?_⟩),hok⟩
  ·rcases h3 k e with e | e
   ·have:=ha k e; omega
   ·omega
  ·exact h2.block k hk (fun e=>by have:=ha k e.symm; omega)
  ·rcases h3 k e with e | e
   ·exact hS.2 e
   ·omega
  ·rw[h2.block k (by omega) (fun e=>hS.2 e.symm)];exact hm.grown.block k hk (by simp; omega)
 ·refine⟨h2.os.trans (hm.grown.os.trans h.grown.os),h2.tape.trans (hm.grown.tape.trans h.grown.tape),h2.output.trans (hm.grown.output.trans h.grown.output),an hb (an hc h2.size),fun k hk hn=> ?_⟩;rw[h2.block k (by omega) (fun e=>by have:=ha k e.symm; omega),hm.grown.block k (by omega) hn];exact h.grown.block k hk hn
def Ci (data:List UInt8) (w:World) (e:Ending) (w':World):Prop:=Below w.heap.size w w'/\match iY data with
 | none=>e= .returned (.tuple #[.slice none 0 0, .int .i64 3])
 | some l=> ∃v,e= .returned (.tuple #[v, .int .i64 0])/\eP (w.heap.size<= ·) w' v l
theorem xn {data:List UInt8} (h:32768<data.length):iY data=none:=by unfold iY; rw[if_pos h]
theorem zU {data:List UInt8} (h: ¬32768<data.length) {n:Nat} {s1:RS} (h1:Bq data 4096 ⟨0,0,0⟩=(n,s1)):iY data=(jo data s1 n).bind fun p=>if uj data p.2=0/\jL p.1=true then some p.1 else none:=by unfold iY; rw[if_neg h,h1]
theorem vg {data:List UInt8} (h: ¬32768<data.length) {n:Nat} {s1:RS} (h1:Bq data 4096 ⟨0,0,0⟩=(n,s1)) (h2:jo data s1 n=none):iY data=none:=by rw[zU h h1,h2]; rfl
theorem qN {data:List UInt8} (h: ¬32768<data.length) {n:Nat} {s1 s2:RS} {l:List cj} (h1:Bq data 4096 ⟨0,0,0⟩=(n,s1)) (h2:jo data s1 n=some (l,s2)):iY data=if uj data s2=0/\jL l=true then some l else none:=by rw[zU h h1,h2]; rfl
theorem jH {w w':World} {base:Nat} {e:TypeId} {sz:Nat} {v:Value} {n:Nat} {xs:List Value} (h:w.ownsRow base e sz v n xs) (hb:Below w.heap.size w w'):w'.ownsRow base e sz v n xs:=
 h.kept (gA hb none) (by cases v.ownBlock<;> simp)
open Go Go.RowKit
def dI (v:V8) (buf:List UInt8) (n:Nat):List Value:=v.list.map fj++(buf.map aY++[.int .i64 (n:Int)])
def oC (w:World) (sb:Nat) (ty:TypeId) (rest:List Value) (data:List UInt8):Prop:=
 ∃buf:List UInt8,buf.length=64/\buf.take (data.length%64)=data.drop (64*(data.length/64))/\w.heap[sb]? =some (.cells (dI (jZ data (data.length/64)) buf data.length++rest).toArray ty (0,0))
theorem bD.call {w w':World} {sb:Nat} {v:Value} {bs:List UInt8} (h:bD (· ≠sb) w v bs) (hg:w.grownBy w' (some sb)):bD (· ≠sb) w' v bs:=by have h2:=cD.mono (T:=fun k=>k≠sb/\k<w.heap.size) h (fun k hk hS=>⟨hS,hk⟩) (by omega);exact(cD.same h2 (fun k hk=>hg.block k hk.2 (fun e=>hk.1 (bK e)))).weak (fun k hk=>hk.1)
theorem sR {S:Nat->Prop} {w:World} {a:Option Addr} {n cap:Nat} {bs:List UInt8} (h:bD S w (.slice a n cap) bs) {k:Nat} (hk:k<=bs.length):
  ∃a' cap',(∀w',(Instr.slice 29 (.slice a n cap) (some (.int .i64 (k:Int))) none none).run Tryz.prog w'= .ok (.slice a' (bs.drop k).length cap') w')/\bD S w (.slice a' (bs.drop k).length cap') (bs.drop k):=by
 obtain⟨hl,a0,cap0,hv,hn,hm,h0⟩:=h;simp only[cY]at hv;obtain⟨rfl,rfl,rfl⟩:=hv;have hz: ∀w',(sizeOf (Tryz.prog.elem 29)).run Tryz.prog w'= .ok 1 w':=fun _=>by kernel_rfl
 refine⟨if cap=k then a else a.map (fun p=>p.add k),cap-k,fun w'=> ?_, ?_⟩
 ·rw[run_slice_l _ _ _ _ _ dm _ _ (by omega) (by omega),hz];simp only[Result.andThen,sliced,eQ,jI,bz]
 ·refine⟨by simp,_,_,rfl,by rw[bz]; omega,by omega, ?_⟩
  rcases h0 with h0 | ⟨b,o,rfl,hS,hc⟩
  ·exact .inl (by rw[bz]; omega)
  ·by_cases ha:(bs.drop k).length=0
   ·exact .inl ha
   ·rw[bz]at ha;refine .inr ⟨b,o+k, ?_,hS,fun j x hj=> ?_⟩
    ·rw[if_neg (by omega),dW,jV]
    ·rw[dk];exact hc (k+j) x (by rw[<-hj,List.map_drop,fG])
theorem Es {S:Nat->Prop} {w:World} {a:Option Addr} {n cap:Nat} {bs:List UInt8} (h:bD S w (.slice a n cap) bs) {k:Nat} (hk:k<=bs.length) (h0:0<k):
  (∀w',(Instr.slice 29 (.slice a n cap) none (some (.int .i64 (k:Int))) none).run Tryz.prog w'= .ok (.slice a k cap) w')/\bD S w (.slice a (bs.take k).length cap) (bs.take k)/\ ∃b o,a=some ⟨b,o,none⟩:=by
 obtain⟨hl,a0,cap0,hv,hn,hm,h1⟩:=h;simp only[cY]at hv;obtain⟨rfl,rfl,rfl⟩:=hv;have hz: ∀w',(sizeOf (Tryz.prog.elem 29)).run Tryz.prog w'= .ok 1 w':=fun _=>by kernel_rfl
 rcases h1 with h1 | ⟨b,o,rfl,hS,hc⟩
 ·omega
 ·refine⟨fun w'=> ?_,⟨by simp,_,_,rfl,by rw[bn]; omega,hm, .inr ⟨b,o,rfl,hS,fun j x hj=> ?_⟩⟩,b,o,rfl⟩
  ·rw[run_slice_h _ _ _ _ _ dm _ _ (by omega) (by omega),hz];simp only[Result.andThen,sliced,eQ,jh,Nat.sub_zero]
   by_cases ha:cap=0
   ·omega
   ·rw[if_neg ha,dW,jV,cZ]
  ·refine hc j x ?_;rw[List.map_take,eA]at hj
   split at hj
   ·exact hj
   ·cases hj
theorem kS {ops:Array Oper} {rest:List Oper} {o:Oper} {a:Act} {Q:Exit->Act->World->Prop} {w:World} (hgd:o.guard=none) (d s:Operand)
  (ho:o.op= .call {callee:= .builtin .copy,args:= #[d,s],argTypes:= #[29,29]}) (g off dLen dCap:Nat) (sp:Option Addr) (sLen sCap:Nat) (hd:a.eval d= .slice (some ⟨g,off,none⟩) dLen dCap) (hs:a.eval s= .slice sp sLen sCap)
  (cur:List Value) (t:TypeId) (hg:w.heap[g]? =some (.cells cur.toArray t (0,0))) (S:Nat->Prop) (bs:List UInt8) (hb:bD S w (.slice sp sLen sCap) bs) (k:Nat) (hk:k=Nat.min bs.length dLen) (hfit:off+dLen<=cur.length)
  (h: ∀w',w'.heap[g]? =some (.cells (splice cur off ((bs.take k).map aY)).toArray t (0,0))->w.grownBy w' (some g)->wpList Tryz.prog ops Q rest (a.put o.dst (.int .i64 (k:Int))) w'):wpList Tryz.prog ops Q (o::rest) a w:=by
 obtain⟨hl,a0,cap0,hv,hn,hm,h1⟩:=hb;simp only[cY]at hv;obtain⟨rfl,rfl,rfl⟩:=hv
 by_cases he:k=0
 ·subst he;refine wpList_copy_nothing hgd d s _ _ ho 5 dm (by kernel_rfl) _ _ _ _ _ _ hd hs (by rw[<-hk]) ?_;refine h w ?_ (pT w _);rw[hg,aZ,fm];simp[splice]
 ·have hh:k<=bs.length:=by rw[hk]; exact Nat.min_le_left _ _
  have hp:k<=dLen:=by rw[hk]; exact Nat.min_le_right _ _
  rcases h1 with h1 | ⟨b,o2,rfl,hS,hc⟩
  ·omega
  ·have ha:((bs.take k).map aY).length=k:=by rw[aw,bn]; omega
   refine wpList_copy_own hgd d s _ _ ho 5 dm (by kernel_rfl) g off dLen dCap ⟨b,o2,none⟩ bs.length sCap hd hs cur.toArray t hg ((bs.take k).map aY) (by rw[ha,hk]) (fun j x hj=> ?_) (by rw[ha,bS]; omega) (fun v hv=>by obtain⟨x,_,rfl⟩:=aP.1 hv; rfl) ?_
   ·rw[jV];refine hc j x ?_;rw[List.map_take,eA]at hj
    split at hj
    ·exact hj
    ·cases hj
   ·rw[ha];refine h _ ?_ ?_
    ·rw[em w g _ _ t _ hg];simp only[splice,ha]
    ·exact⟨rfl,rfl,rfl,by simp[World.setRow],fun i _ hf=>setRow_other w g i _ (fun e=>hf (by rw[e]))⟩
theorem mL (v:V8) {buf:List UInt8} (h:buf.length=64) (n:Nat):(dI v buf n).length=73:=by unfold dI V8.list; simp[h]
theorem AF (v:V8) {buf:List UInt8} (h:buf.length=64) (n:Nat) (rest:List Value):(dI v buf n++rest).toArray[72]? =some (.int .i64 (n:Int)):=by rw[aC,bH (by rw[mL v h]; decide)];unfold dI;rw[bC (by simp[V8.list]),bC (by simp[V8.list,h])];simp[V8.list,h]
theorem Lg (v:V8) {buf:List UInt8} (h:buf.length=64) (n n':Nat) (rest:List Value):(dI v buf n++rest).set 72 (.int .i64 (n':Int))=dI v buf n'++rest:=by
 rw[List.set_append_left _ _ (by rw[mL v h]; decide)]
 congr 1
 unfold dI;rw[fz _ _ (by simp[V8.list]),fz _ _ (by simp[V8.list,h])]
 congr 2
 simp[V8.list,h]
theorem ko (v:V8) (buf:List UInt8) (n:Nat) (rest:List Value):dI v buf n++rest=v.list.map fj++(buf.map aY++([.int .i64 (n:Int)]++rest)):=by unfold dI; simp
theorem sQ (v:V8) {buf:List UInt8} (h:buf.length=64) (n:Nat) (rest:List Value) {off:Nat} {xs:List UInt8} (ho:off+xs.length<=64):splice (dI v buf n++rest) (8+off) (xs.map aY)=dI v (splice buf off xs) n++rest:=by
 have e: ∀(A B C:List Value),A.length=8->B.length=64->splice (A++(B++C)) (8+off) (xs.map aY)=A++(splice B off (xs.map aY)++C):=by
  intro A B C hA hB;unfold splice;have hx:(xs.map aY).length=xs.length:=by simp
  rw[hx,List.take_append,jc,hA,show 8+off-8=off by omega,show 8+off+xs.length-8=off+xs.length by omega,bw (by omega),dT (by omega),aI,fB (by omega),fA (by omega)];simp
 rw[ko,e _ _ _ (by simp[V8.list]) (by simpa using h),ko]
 congr 2
 unfold splice;simp
theorem pY {buf xs:List UInt8} (h:buf.length=64) {off:Nat} (ho:off+xs.length<=64):(splice buf off xs).length=64:=by rw[length_splice _ _ _ (by omega),h]
structure Ck (sb : Nat) (ty : TypeId) (rest : List Value) (D buf : List UInt8) (w wr : World) (j : Nat) : Prop where
 box:wr.heap[sb]? =some (.cells (dI (jZ D j) buf D.length++rest).toArray ty (0,0))
 len:buf.length=64
 grown:w.grownBy wr (some sb)
theorem ml.grown {w wr:World} {sb:Nat} (h:ml w) (hne:sb≠5) (hg:w.grownBy wr (some sb)) (hlt:5<w.heap.size):ml wr:=by intro j x hj;rw[<-h j x hj];exact cw (hg.block _ hlt (fun e=>hne (bK e).symm))
theorem Py (v:V8) {buf:List UInt8} (n:Nat) (rest:List Value) {j:Nat} {x:UInt8} (hj:buf[j]? =some x):(dI v buf n++rest).toArray[8+j]? =some (aY x):=by have ha:=(aD.1 hj).1;rw[aC,ko,bC (by simp[V8.list]),bH (by simp[V8.list]; omega)];rw[show 8+j-(List.map fj v.list).length=j by simp[V8.list],bh,hj]; rfl
theorem zA {data xs:List UInt8} {q:Nat} (h:64*q<=data.length):(data++xs).drop (64*q)=data.drop (64*q)++xs:=fA h
theorem Eu {buf xs:List UInt8} {u:Nat} (hb:buf.length=64) (hx:u+xs.length=64):splice buf u xs=buf.take u++xs:=by unfold splice;rw[hx,dT (by omega),ci]
def OZ :Value->Nat
 | .slice _ n _=>n
 | _=>0
def GP (sb:Nat) (ty:TypeId) (rest:List Value) (D:List UInt8) (w:World) (x:Value) (wr:World):Prop:=
 ∃(j rl cap:Nat) (a:Option Addr) (buf:List UInt8),rl=(D.drop (64*j)).length/\64*j<=D.length/\x= .slice a rl cap/\bD (· ≠sb) wr (.slice a rl cap) (D.drop (64*j))/\Ck sb ty rest D buf w wr j
theorem Ck.done {sb:Nat} {ty:TypeId} {rest:List Value} {D buf:List UInt8} {w wr w':World} {j:Nat} (h:Ck sb ty rest D buf w wr j) (hj:64*j<=D.length) (hl:(D.drop (64*j)).length<64)
  (hb:w'.heap[sb]? =some (.cells (splice (dI (jZ D j) buf D.length++rest) 8 (((D.drop (64*j)).take (D.drop (64*j)).length).map aY)).toArray ty (0,0))) (hg:wr.grownBy w' (some sb)):oC w' sb ty rest D/\w.grownBy w' (some sb):=by
 have e:D.length/64=j:=by rw[bz]at hl; omega
 have e2:D.length%64=(D.drop (64*j)).length:=by rw[bz]at hl ⊢; omega
 refine⟨⟨splice buf 0 (D.drop (64*j)),pY h.len (by omega), ?_, ?_⟩,cg h.grown hg⟩
 ·rw[e2,e];unfold splice;rw[aZ,aI,List.take_left]
 ·rw[hb,dw,e,sQ _ h.len D.length rest (off:=0) (by omega)]
theorem lV (sb:Nat) (ty:TypeId) (rest:List Value) (data xs:List UInt8) (xv:Value) (w:World) (h:oC w sb ty rest data) (hx:bD (· ≠sb) w xv xs) (hlen:data.length+xs.length<1152921504606846976) (hK:ml w) (hKlt:5<w.heap.size) (hne:sb≠5):
  Calls Tryz.prog 168 #[.pointer (some ⟨sb,0,none⟩),xv] w fun e w'=>e= .returned (.tuple #[])/\oC w' sb ty rest (data++xs)/\w.grownBy w' (some sb):=by
 obtain⟨buf,hD,Ht,hS⟩:=h;obtain⟨_,a,cap,rfl,h7,HD,-⟩:=id hx;have HX:=ah hx;have hV:=ah hS;have Hl:=ah Ht;have HK:=ah hK;have ha:=ah hD;obtain⟨n,hn⟩:=bI data.length;obtain⟨m,hm⟩:=bI xs.length;rw[<-hn]at hV hlen;rw[<-hm]at hlen h7;have c72:=(br w _ 72 _ _ _ hV.o).trans (AF _ hD n rest);have f72:=dO w _ 72 _ _ hV.o
 have HN:=ah (aA hn hm);clear hx hS Ht hK hD;rw[<-hm];clear hn hm
 go_enter Tryz.func168,Tryz.ntmps168
 go_upto_region 2 with(fail)
 obtain⟨W1,hW⟩:=bI (w.setCell ⟨sb,72,none⟩ (.int .i64 ((n:Int)+(m:Int))));rw[<-hW];have h0:=ah (show W1.heap[sb]? =some (.cells (dI (jZ data (n/64)) buf (n+m)++rest).toArray ty (0,0)) by rw[hW,gT w _ _ _ _ _ hV.o,aW,<-Lg _ ha.o n (n+m) rest];rw[Int.natCast_add])
 have hJ:=ah (show w.grownBy W1 (some sb) by rw[hW]; exact cK w sb 72 _);have Hm:=ah (HX.o.call hJ.o);clear hW c72 f72
 by_cases hu:n%64=0
 ·have He:(n:Int)%64=0:=by omega
  have h2:=ah (show GP sb ty rest (data++xs) w (.slice a m cap) W1 from by
   have e1:64*(n/64)=data.length:=by have:=HN.o.1; omega
   refine⟨n/64,m,cap,a,buf, ?_,by rw[ag]; omega,rfl, ?_, ?_⟩
   ·rw[e1,List.drop_left]; exact HN.o.2
   ·rw[e1,List.drop_left];have:=Hm.o;rw[<-HN.o.2]at this;exact this
   ·refine⟨?_,ha.o,hJ.o⟩;rw[th xs (by omega),ag,<-HN.o.1,<-HN.o.2];exact h0.o)
  go_wp2_with fail;clear He hu
  go_loopw [1] (fun x wr=>GP sb ty rest (data++xs) w x wr) (fun x _=>OZ x)
  ·exact h2.o
  ·obtain⟨j,rl,cap2,a2,bf,hw,hj,rfl,hE,hl⟩:=hrel;have hb:=ah hw;have hA:=ah hE
   have hc:=ah hl;have Hd:rl<1152921504606846976:=by have:=HN.o;rw[hw,bz,ag]; omega
   obtain⟨_,_,_,hp,hf,hF,-⟩:=id hE
   simp only[cY]at hp;obtain⟨rfl,-,rfl⟩:=hp;rw[<-hw]at hf;clear hw hE hl
   by_cases hP:64<=rl
   ·obtain⟨s1,s2,b,o,rfl⟩:=Es hA.o (k:=64) (by rw[<-hb.o]; exact hP) (by decide);obtain⟨a3,cap3,s3,s4⟩:=sR hA.o (k:=64) (by rw[<-hb.o]; exact hP);have S1: ∀w',(Instr.slice 29 (.slice (some ⟨b,o,none⟩) rl cap2) none (some (.int .i64 64)) none).run Tryz.prog w'= .ok (.slice (some ⟨b,o,none⟩) 64 cap2) w':=s1;obtain⟨r3,hv⟩:=bI (((List.drop (64*j) (data++xs)).drop 64).length)
    have S3: ∀w',(Instr.slice 29 (.slice (some ⟨b,o,none⟩) rl cap2) (some (.int .i64 64)) none none).run Tryz.prog w'= .ok (.slice a3 r3 cap3) w':=by rw[hv]; exact s3
    rw[<-hv]at s4;have hO:=ah hv;have S2:=ah s2;have S4:=ah s4;clear s1 s2 s3 s4 hv;go_wp2_with fail;refine(qW sb (jZ (data++xs) j) (bf.map aY++([.int .i64 ((data++xs).length:Int)]++rest)) ty b o cap2 ((List.drop (64*j) (data++xs)).take 64) wr (by rw[<-ko]; exact hc.o.box) (ti _ _) (by rw[bn,<-hb.o]; omega) (by omega) hF ?_ (HK.o.grown hne hc.o.grown hKlt) (by have:=hc.o.grown.size; omega)).mono ?_
    ·intro i x hi;obtain⟨_,_,_,hU,_,_,h9⟩:=S2.o;simp only[cY]at hU;rw[<-hU.1]at h9
     rcases h9 with h9 | ⟨b9,o9,e9,_,h9⟩
     ·rw[bn,<-hb.o]at h9; omega
     ·simp only[aX,jq]at e9;rw[e9.1,e9.2.1];exact h9 i _ (by rw[bh,hi]; rfl)
    ·rintro e w2 ⟨rfl,hR,hG⟩;have h3:=ah (show Ck sb ty rest (data++xs) bf w w2 (j+1)from⟨by rw[ko]; exact hR,hc.o.len,cg hc.o.grown hG⟩);have h4:=ah (S4.o.call hG);clear hR hG;go_wp2_with fail
     go_roundw
     case rel=>
      refine⟨j+1,r3,cap3,a3,bf, ?_, ?_,rfl, ?_,h3.o⟩
      ·rw[hO.o,fR,show 64*j+64=64*(j+1) by omega]
      ·have:=hb.o;rw[bz]at this; omega
      ·have:=h4.o;rw[fR,show 64*j+64=64*(j+1) by omega]at this;exact this
     case measure=>
      have h1:=hO.o;rw[bz,<-hb.o]at h1
      show r3<rl
      omega
   ·have ho:rl=Nat.min (List.drop (64*j) (data++xs)).length 64:=by rw[<-hb.o]; exact(fx (by omega)).symm
    have hg:8+64<=(dI (jZ (data++xs) j) bf (data++xs).length++rest).length:=by rw[ag,mL _ hc.o.len]; omega
    have hC:=ah ho;have hd:=ah hg;clear ho hg;go_wp2_with (refine kS rfl _ _ rfl sb 8 64 64 a2 rl cap2 rfl rfl (dI (jZ (data++xs) j) bf (data++xs).length++rest) ty hc.o.box (· ≠sb) (List.drop (64*j) (data++xs)) hA.o rl hC.o hd.o ?_; intro w3 he hh; have hz:=ah he; have hr:=ah hh; clear he hh)
    go_end0
    refine⟨rfl, ?_⟩;refine hc.o.done hj (by rw[<-hb.o]; omega) ?_ hr.o;rw[<-hb.o]; exact hz.o
 ·obtain⟨u,Hu⟩:=bI (n%64);have He:(n:Int)%64=(u:Int):=by omega
  have hT:(0:Int)<(u:Int):=by omega
  have Hf:(u:Int)<=64:=by omega
  obtain⟨k,hk⟩:=bI (Nat.min xs.length (64-u));have hH:k<=xs.length:=by rw[hk]; exact Nat.min_le_left _ _
  have hy:k<=64-u:=by rw[hk]; exact Nat.min_le_right _ _
  have Hs:k=xs.length\/k=64-u:=by
   rw[hk]
   rcases Nat.le_total xs.length (64-u)with e | e
   ·exact .inl (fx e)
   ·exact .inr (Nat.min_eq_right e)
  have HU:=ah (aA Hu hu);have Hk:=ah hk;have Hj:=ah Hs;have hN:=ah (aA hH hy);have hX:=Hm.o;rw[<-HN.o.2]at hX;obtain⟨a4,cap4,s4,y4⟩:=sR hX hH;obtain⟨m4,Hc⟩:=bI ((xs.drop k).length);rw[<-Hc]at s4 y4;have Hy:=ah Hc;have Y4:=ah y4;have Hn:=ah hX;have hd:=ah (show 8+u+(64-u)<=(dI (jZ data (n/64)) buf (n+m)++rest).length by rw[ag,mL _ ha.o]; omega)
  clear hu Hu hk Hs hH hy hX Hc y4;have Hg:wrap64 ((u:Int)+(k:Int))=(u:Int)+(k:Int):=by unfold wrap64; have:=hN.o.2; omega
  by_cases HB:u+k<64
  ·have HC:(u:Int)+(k:Int)<64:=by omega
   go_wp2_with (refine kS rfl _ _ rfl sb (8+u) (64-u) (64-u) a m cap rfl rfl (dI (jZ data (n/64)) buf (n+m)++rest) ty h0.o (· ≠sb) xs Hn.o k Hk.o hd.o ?_; intro w3 he hh; have hz:=ah he; have hr:=ah hh; clear he hh);refine cP (gw rfl _ _ _) rfl ?_;have hk:k=xs.length:=by rcases Hj.o with e | e<;> omega
   have hs:=HN.o.1;have hI:=HN.o.2;have hL:=HU.o.1;have hq:64*(n/64)<=data.length:=by omega
   refine⟨rfl,⟨splice buf u xs,pY ha.o (by omega), ?_, ?_⟩,cg hJ.o hr.o⟩
   ·rw[ag,<-hs,<-hI,show(n+m)/64=n/64 by omega,show(n+m)%64=u+xs.length by omega,zA hq];have:=Hl.o;rw[<-hs,<-hL]at this;rw[<-this];unfold splice;rw[<-bp,List.take_left' (by rw[ag,bn]; have:=ha.o; omega)]
   ·rw[hz.o,hk,dw,sQ _ ha.o _ rest (by omega),ag,<-hs,<-hI,show(n+m)/64=n/64 by omega,th xs hq]
  ·have Hz:64<=(u:Int)+(k:Int):=by omega
   have hk:k=64-u:=by have:=hN.o.2; rcases Hj.o with e | e<;> omega
   have Hv:u+k=64:=by have:=hN.o.2; omega
   have hM:=ah (aA hk Hv);clear hk Hv;go_wp2_with (refine kS rfl _ _ rfl sb (8+u) (64-u) (64-u) a m cap rfl rfl (dI (jZ data (n/64)) buf (n+m)++rest) ty h0.o (· ≠sb) xs Hn.o k Hk.o hd.o ?_; intro w3 he hh; have hz:=ah he; have hr:=ah hh; clear he hh);obtain⟨B,hB⟩:=bI (splice buf u (xs.take k));have Hb:=hN.o.1;have hZ:(xs.take k).length=k:=by rw[bn]; omega
   have hL:=HU.o.1;have hs:=HN.o.1;have hI:=HN.o.2;have hq:64*(n/64)<=data.length:=by omega
   have Hq:B.length=64:=by rw[hB]; exact pY ha.o (by rw[hZ]; have:=hM.o.2; omega)
   have Ho:w3.heap[sb]? =some (.cells (dI (jZ data (n/64)) B (n+m)++rest).toArray ty (0,0)):=by rw[hz.o,sQ _ ha.o _ rest (by rw[hZ]; have:=hM.o.2; omega),<-hB]
   have Hp:B=((data++xs).drop (64*(n/64))).take 64:=by have ht:=Hl.o;rw[<-hs,<-hL]at ht;rw[hB,Eu ha.o (by rw[hZ]; exact hM.o.2),zA hq,<-ht,List.take_append,bn,ha.o,fx (by omega),<-hM.o.1,bw (l:=List.take u buf) (by rw[bn]; omega)]
   have Hi:=ah Hq;have Hw:=ah Hp;have Hh:=ah Ho;clear Hb hZ hL hs hI hq Hq Ho Hp hB;refine(qW sb (jZ data (n/64)) (B.map aY++([.int .i64 ((n+m:Nat):Int)]++rest)) ty sb 8 64 B w3 (by rw[<-ko]; exact Hh.o) (ti _ _) Hi.o (ai _) (by unfold maxLen; omega) ?_ (HK.o.grown hne (cg hJ.o hr.o) hKlt) (by have:=hJ.o.size; have:=hr.o.size; omega)).mono ?_
   ·intro i x hi;rw[br w3 _ _ _ _ _ Hh.o,Py _ _ rest hi]; rfl
   ·rintro e w4 ⟨rfl,Hr,Ha⟩;have hs:=HN.o.1;have hI:=HN.o.2;have hL:=HU.o.1;have hq:64*(n/64)<=data.length:=by omega
    have HA:=hM.o.2;have Hb:=hN.o.1;have Hx:=ah (cg hJ.o (cg hr.o Ha));have hY:=(Y4.o.call hr.o).call Ha;have h8:(data++xs).drop (64*(n/64+1))=xs.drop k:=by rw[show 64*(n/64+1)=data.length+k by omega,<-fR,List.drop_left]
    have h2:=ah (show GP sb ty rest (data++xs) w (.slice a4 m4 cap4) w4 from by
     refine⟨n/64+1,m4,cap4,a4,B, ?_,by rw[ag]; omega,rfl, ?_, ?_⟩
     ·rw[h8]; exact Hy.o
     ·rw[h8]; exact hY
     ·refine⟨?_,Hi.o,Hx.o⟩;rw[ko,jZ,<-Hw.o,th xs hq,ag,<-hs,<-hI];exact Hr)
    clear Hr Ha hs hI hL hq HA Hb hY h8;go_wp2_with fail;clear Hg HB Hz hT Hf He
    go_loopw [1] (fun x wr=>GP sb ty rest (data++xs) w x wr) (fun x _=>OZ x)
    ·exact h2.o
    ·obtain⟨j,rl,cap2,a2,bf,hw,hj,rfl,hE,hl⟩:=hrel;have hb:=ah hw;have hA:=ah hE
     have hc:=ah hl;have Hd:rl<1152921504606846976:=by have:=HN.o;rw[hw,bz,ag]; omega
     obtain⟨_,_,_,hp,hf,hF,-⟩:=id hE
     simp only[cY]at hp;obtain⟨rfl,-,rfl⟩:=hp;rw[<-hw]at hf;clear hw hE hl
     by_cases hP:64<=rl
     ·obtain⟨s1,s2,b,o,rfl⟩:=Es hA.o (k:=64) (by rw[<-hb.o]; exact hP) (by decide);obtain⟨a3,cap3,s3,s4⟩:=sR hA.o (k:=64) (by rw[<-hb.o]; exact hP);have S1: ∀w',(Instr.slice 29 (.slice (some ⟨b,o,none⟩) rl cap2) none (some (.int .i64 64)) none).run Tryz.prog w'= .ok (.slice (some ⟨b,o,none⟩) 64 cap2) w':=s1;obtain⟨r3,hv⟩:=bI (((List.drop (64*j) (data++xs)).drop 64).length)
      have S3: ∀w',(Instr.slice 29 (.slice (some ⟨b,o,none⟩) rl cap2) (some (.int .i64 64)) none none).run Tryz.prog w'= .ok (.slice a3 r3 cap3) w':=by rw[hv]; exact s3
      rw[<-hv]at s4;have hO:=ah hv;have S2:=ah s2;have S4:=ah s4;clear s1 s2 s3 s4 hv;go_wp2_with fail;refine(qW sb (jZ (data++xs) j) (bf.map aY++([.int .i64 ((data++xs).length:Int)]++rest)) ty b o cap2 ((List.drop (64*j) (data++xs)).take 64) wr (by rw[<-ko]; exact hc.o.box) (ti _ _) (by rw[bn,<-hb.o]; omega) (by omega) hF ?_ (HK.o.grown hne hc.o.grown hKlt) (by have:=hc.o.grown.size; omega)).mono ?_
      ·intro i x hi;obtain⟨_,_,_,hU,_,_,h9⟩:=S2.o;simp only[cY]at hU;rw[<-hU.1]at h9
       rcases h9 with h9 | ⟨b9,o9,e9,_,h9⟩
       ·rw[bn,<-hb.o]at h9; omega
       ·simp only[aX,jq]at e9;rw[e9.1,e9.2.1];exact h9 i _ (by rw[bh,hi]; rfl)
      ·rintro e w2 ⟨rfl,hR,hG⟩;have h3:=ah (show Ck sb ty rest (data++xs) bf w w2 (j+1)from⟨by rw[ko]; exact hR,hc.o.len,cg hc.o.grown hG⟩);have h4:=ah (S4.o.call hG);clear hR hG;go_wp2_with fail
       go_roundw
       case rel=>
        refine⟨j+1,r3,cap3,a3,bf, ?_, ?_,rfl, ?_,h3.o⟩
        ·rw[hO.o,fR,show 64*j+64=64*(j+1) by omega]
        ·have:=hb.o;rw[bz]at this; omega
        ·have:=h4.o;rw[fR,show 64*j+64=64*(j+1) by omega]at this;exact this
       case measure=>
        have h1:=hO.o;rw[bz,<-hb.o]at h1
        show r3<rl
        omega
     ·have ho:rl=Nat.min (List.drop (64*j) (data++xs)).length 64:=by rw[<-hb.o]; exact(fx (by omega)).symm
      have hg:8+64<=(dI (jZ (data++xs) j) bf (data++xs).length++rest).length:=by rw[ag,mL _ hc.o.len]; omega
      have hC:=ah ho;have hd:=ah hg;clear ho hg;go_wp2_with (refine kS rfl _ _ rfl sb 8 64 64 a2 rl cap2 rfl rfl (dI (jZ (data++xs) j) bf (data++xs).length++rest) ty hc.o.box (· ≠sb) (List.drop (64*j) (data++xs)) hA.o rl hC.o hd.o ?_; intro w3 he hh; have hz:=ah he; have hr:=ah hh; clear he hh)
      go_end0
      refine⟨rfl, ?_⟩;refine hc.o.done hj (by rw[<-hb.o]; omega) ?_ hr.o;rw[<-hb.o]; exact hz.o
theorem Ml {S:Nat->Prop} {w:World} {v:Value} {bs:List UInt8} (hd:bD S w v bs):(convert 29 9 v).run Tryz.prog w= .ok (.string ⟨bs.toArray⟩) w:=by
 obtain⟨_,a,cap,rfl,hn,hm,h0⟩:=hd
 rcases h0 with h0 | ⟨b,o,rfl,_,hc⟩
 ·obtain rfl:=bq h0
  show(convert 29 9 (.slice a 0 cap)).run Tryz.prog w=_
  cases a<;> kernel_rfl
 ·have h:=run_convert_bytes_arg (P:=Tryz.prog) w 29 5 dm Tryz.underlying5 b o bs.length cap (bs.map fun b=>(b.toNat:Int)) (by simp) (fun i hi=>by rw[hc i (aY bs[i]) (by simp[hi])];simp[aY,List.getD,hi]) 9 ee
  rw[yd]at h;exact h
def oS (w:World):Prop:= ∀j x,ql.list[j]? =some x->w.cell? ⟨2,j,none⟩=some (fj x)
def Iv :List Value:=[.int .u32 1779033703, .int .u32 3144134277, .int .u32 1013904242, .int .u32 2773480762, .int .u32 1359893119, .int .u32 2600822924, .int .u32 528734635, .int .u32 1541459225]
theorem oS.range {w:World} (h:oS w):w.rangeAt 2 0 Iv:=by
 intro j x hj;rw[bT];have h2:Iv=ql.list.map fj:=by kernel_rfl
 rw[h2,bh]at hj
 cases hq:ql.list[j]? with
 | none=>rw[hq]at hj; cases hj
 | some y=>
  rw[hq]at hj;rw[h j y hq];exact hj
theorem xW (w:World) (hI:oS w):Calls Tryz.prog 167 #[] w fun e w'=>e= .returned (.pointer (some ⟨w.heap.size,0,none⟩))/\oC w' w.heap.size 218 [] []/\Below w.heap.size w w'/\w.heap.size<w'.heap.size:=by
 have HR:=ah hI.range;clear hI
 go_enter Tryz.func167,Tryz.ntmps167
 go_wp2_with (first | (refine dX rfl 216 _ rfl 2 0 rfl Iv _ HR.o fI rfl (by kernel_rfl) ?_) | (refine wpList_build rfl 218 _ rfl (by kernel_rfl) ?_));go_ret;refine⟨rfl,⟨List.replicate 64 0,by simp,by simp, ?_⟩,eW,by simp⟩;rw[aG,show(Tryz.prog.built 218 [(0,Value.agg Iv.toArray)]).getD #[]=(dI (jZ [] (([]:List UInt8).length/64)) (List.replicate 64 0) ([]:List UInt8).length++[]).toArray by kernel_rfl]
theorem rp {ops:Array Oper} {rest:List Oper} {o:Oper} {a:Act} {Q:Exit->Act->World->Prop} (hgd:o.guard=none) (s x:Operand)
  (ho:o.op= .call {callee:= .builtin .append,args:= #[s,x],argTypes:= #[29,29]}) (base:Nat) (v:Value) (n m:Nat) (xs:List Value) (hs:a.eval s=v) (w0:World) (news:List Value) (e2:TypeId)
  (hx:a.eval x= .slice (some ⟨w0.heap.size,0,none⟩) m m) (hl:news.length=m) (h1: ∀u∈news,u.oneCell'=true) (hown:w0.ownsRow base 5 1 v n xs) (hn:n+m<1099511627775) (hbase:base<=w0.heap.size)
  (h: ∀v' w',w'.ownsRow base 5 1 v' (n+m) (xs++news)->w0.grownBy w' v.ownBlock->wpList Tryz.prog ops Q rest (a.put o.dst v') w'):wpList Tryz.prog ops Q (o::rest) a (w0.alloc (.cells news.toArray e2)):=by
 obtain⟨ht,⟨i,z,hc,hd,he,hf,hh⟩,hb,hq⟩:=Tryz.appBytes;have ha: ∀(j:Nat) u,news[j]? =some u->(w0.alloc (.cells news.toArray e2)).cell? ((⟨w0.heap.size,0,none⟩:Addr).add j)=some u:=by
  intro j u hj;rw[jV,bT,br _ _ _ _ _ _ (aG w0 (.cells news.toArray e2))]
  simpa using hj
 have hm:news.length=m*1:=by rw[hl,jI]
 obtain⟨v',w',hr,h2,hg,_⟩:=run_append_own (P:=Tryz.prog) (w0.alloc (.cells news.toArray e2)) base _ o.type _ i z 1 1 ht hc hd he hf hh hb v n xs (hown.alloc _) ⟨w0.heap.size,0,none⟩ m m news hm ha h1 (by unfold maxLen; omega) (by omega) (by simp; omega);refine fJ hgd fun K hK=> ?_
 unfold Oper.wp execOp;simp only[ho,resolve,invoke,builtin,Sem.run_bind,Sem.run_pure,iJ,jf,bW,fm,hs,hx,hr];refine hK _ _ (h v' w' h2 ⟨hg.os,hg.tape,hg.output,by have:=hg.size; simp at this; omega,fun k hk hp=> ?_⟩);rw[hg.block k (by simp; omega) hp];exact cS _ _ _ hk
theorem NK (v:V8) {buf:List UInt8} (h:buf.length=64) (n:Nat):(dI v buf n).toArray.size=73:=by rw[bS,mL v h]
theorem Pz (v:V8) (buf:List UInt8) (n:Nat): ∀x∈dI v buf n,x.oneCell'=true:=by
 intro x hx;unfold dI at hx
 rcases aN.1 hx with hx | hx
 ·obtain⟨y,_,rfl⟩:=aP.1 hx; rfl
 ·rcases aN.1 hx with hx | hx
  ·obtain⟨y,_,rfl⟩:=aP.1 hx; rfl
  ·rw[aE.1 hx]; rfl
theorem Lf {w:World} {sb:Nat} {v:V8} {buf:List UInt8} {n:Nat} {rest:List Value} {ty:TypeId} (h:w.heap[sb]? =some (.cells (dI v buf n++rest).toArray ty (0,0))):w.rangeAt sb 0 (dI v buf n):=by intro j x hj;rw[br w _ _ _ _ _ h,bT,aC,bH (aD.1 hj).1];exact hj
theorem Co : ∀l:List Nat,(l.flatMap Bk).length=4*l.length
 | []=>rfl
 | x::l=>by rw[bm,ag,Co l,Ia,az]; omega
theorem QT (v:V8) {k:Nat} (h:k<8):v.list.take (k+1)=v.list.take k++[v.list.getD k 0]:=by
 have hc:k=0\/k=1\/k=2\/k=3\/k=4\/k=5\/k=6\/k=7:=by omega
 rcases hc with rfl | rfl | rfl | rfl | rfl | rfl | rfl | rfl<;> rfl
theorem jD {w w':World} (h:w.grownBy w' none):Below w.heap.size w w':=⟨h.os,h.tape,h.output,h.size,fun k hk=>h.block k hk (by simp)⟩
def vD (z:Nat):List UInt8:=128::List.replicate z 0
theorem Kz (z:Nat):vD (z+1)=vD z++[0]:=by unfold vD; rw[List.replicate_succ',aK]
theorem xJ (z:Nat):(vD z).length=z+1:=by simp[vD]
structure wh (w W1 wr : World) (v : Value) (pad : List UInt8) : Prop where
 row:wr.ownsRow (w.heap.size+1) 5 1 v pad.length (pad.map aY)
 below:Below W1.heap.size W1 wr
theorem wh.app {w W1 wr w':World} {v v':Value} {pad:List UInt8} {x:UInt8} {n:Nat} {cs:List Value} (h:wh w W1 wr v pad) (hs:W1.heap.size=w.heap.size+1) (h1:w'.ownsRow (w.heap.size+1) 5 1 v' (n+1) cs) (h2:wr.grownBy w' v.ownBlock) (hn:n=pad.length:=by simp[xJ]) (hc:cs=pad.map aY++[aY x]:=by rfl):wh w W1 w' v' (pad++[x]):=by subst hn hc;refine⟨by simpa using h1,bZ h.below h.row h2 (by omega) (by have:=h.below.size; omega)⟩
theorem OI (c:Nat) {k s:Nat} (h:k<8) (hs:s=56-8*k):(nR c).getD k 0=UInt8.ofNat (c/2^s):=by
 subst hs;have hc:k=0\/k=1\/k=2\/k=3\/k=4\/k=5\/k=6\/k=7:=by omega
 rcases hc with rfl | rfl | rfl | rfl | rfl | rfl | rfl | rfl
 case inr.inr.inr.inr.inr.inr.inr=>simp[nR]
 all_goals rfl
theorem Mb (c:Nat) {k:Nat} (h:k<8):(nR c)[k]? =some ((nR c).getD k 0):=by have:k<(nR c).length:=h;simp[List.getD_eq_getElem?_getD,this]
theorem pm (y:Nat) (v:Int) (h:v=(y:Int)):Value.int .u8 (v%256)=aY (UInt8.ofNat y):=by subst h;unfold aY;rw[UInt8.toNat_ofNat'];simp
theorem xX (sb:Nat) (ty:TypeId) (rest:List Value) (data:List UInt8) (w:World) (h:oC w sb ty rest data) (hlen:data.length<576460752303423488) (hK:ml w) (hKlt:5<w.heap.size):
  Calls Tryz.prog 169 #[.pointer (some ⟨sb,0,none⟩)] w fun e w'=>e= .returned (.string ⟨(qk data).toArray⟩)/\Below w.heap.size w w':=by
 obtain⟨buf,ho,Hv,hp⟩:=h;have Hh:=ah hp;have HH:=ah Hv;have HK:=ah hK;have hm:=ah ho;have HY:=am hp;obtain⟨n,hn⟩:=bI data.length;have c72:=(br w _ 72 _ _ _ Hh.o).trans (AF _ ho data.length rest);rw[<-hn]at c72 hlen;have HN:=ah hn;clear hp Hv hK ho hn;have Hn:=ah (NK (jZ data (data.length/64)) hm.o data.length)
 have hP:=ah (ei (Pz (jZ data (data.length/64)) buf data.length));have hO:=ah (show(Tryz.prog.info? 218).map (·.size)=some (dI (jZ data (data.length/64)) buf data.length).length by rw[mL _ hm.o]; kernel_rfl);have hs:=ah (show(Tryz.prog.info? 218).map (·.size)=some (dI (jZ data (data.length/64)) buf data.length).toArray.size by rw[Hn.o]; kernel_rfl)
 have HF:=ah (Lf Hh.o)
 go_enter Tryz.func169,Tryz.ntmps169
 go_wp2_with (first | (refine dX rfl 218 _ rfl sb 0 rfl (dI (jZ data (data.length/64)) buf data.length) _ HF.o Tryz.underlying218 rfl hO.o ?_) | (refine dA rfl 218 _ _ rfl w.heap.size _ rfl rfl _ _ (aG w _) hs.o (Hn.o.symm) hP.o ?_));obtain⟨W1,hu⟩:=bI ((w.alloc (.cells Tryz.zeroCells218 218)).setRow w.heap.size (dI (jZ data (data.length/64)) buf data.length).toArray)
 rw[<-hu];have hq:W1.heap.size=w.heap.size+1:=by rw[hu]; simp
 have hE:=ah (show Below w.heap.size w W1 by rw[hu]; exact eE (eW) (ai _) _);have HC:=ah (show oC W1 w.heap.size 218 [] data from⟨buf,hm.o,HH.o,by rw[hu,ci]; exact em _ _ _ _ _ _ (aG w _)⟩);clear hu;rw[<-hq];obtain⟨W2,hH⟩:=bI (W1.alloc (.cells #[.int .u8 128] 5));have Hj:=ah (show wh w W1 W2 (.slice (some ⟨W1.heap.size,0,none⟩) 1 1) (vD 0)from⟨by rw[hH];exact dp (e:=5) (size:=1) (base:=w.heap.size+1) W1 #[.int .u8 128] 1 (by omega) (by decide) (by simp),by rw[hH]; exact eW⟩)
 rw[<-hH];clear hH;have hd:=ah hq;clear hq;have yc:iN n<64:=by unfold iN; omega
 go_loopw [4] (fun x wr=> ∃z:Nat,z<=iN n/\wh w W1 wr x (vD z)) (fun x _=>64-OZ x)
 ·exact⟨0,by omega,Hj.o⟩
 ·obtain⟨z,hz,hc⟩:=hrel;obtain⟨ao,co,rfl,h1,h2⟩:=aH hc.row;have hl:(vD z).length=z+1:=xJ z;have h0:=hc;rw[hl]at h0;have hT:=ah h0;clear h0;rw[hl]at h1 ⊢;have hU:=ah (show wr.ownsRow (w.heap.size+1) 5 1 (.slice ao (z+1) co) (z+1) ((vD z).map aY) by have:=hc.row; rw[hl]at this; exact this);have H6:=hc.below.size;clear hc Hj
  have c72r:=(hT.o.below.cell (p:=⟨sb,72,none⟩) (by have:=hd.o; show sb<_; omega)).trans ((hE.o.cell (p:=⟨sb,72,none⟩) HY).trans c72)
  by_cases Hw:z<iN n
  ·have H8: ¬((n:Int)+((z:Int)+1))%64=56:=by unfold iN at Hw; omega
   have HZ:=ah (show ∀u∈[(Value.int .u8 0)],u.oneCell'=true by simp[Value.oneCell']);have Ha:z+1+1<1099511627775:=by omega
   have Hb:w.heap.size+1<=wr.heap.size:=by have:=hd.o; omega
   go_wp2_with (at_builtin; (refine rp rfl _ _ rfl (w.heap.size+1) (.slice ao (z+1) co) (z+1) 1 ((vD z).map aY) rfl wr [.int .u8 0] _ rfl rfl HZ.o hU.o Ha Hb ?_); intro v' wc hb ha; have hS:=ah (hT.o.app (x:=0) hd.o hb ha hl.symm rfl); obtain⟨ae,ce,rfl,-,-⟩:=aH hb; clear hb ha)
   go_roundw
   ·exact⟨z+1,by omega,by rw[Kz]; exact hS.o⟩
   simp[OZ]; omega
  ·have hY:z=iN n:=by omega
   have HS:((n:Int)+((z:Int)+1))%64=56:=by rw[hY]; unfold iN; omega
   have HJ:=ah hY
   go_upto_region 6 with(fail)
   rename ((_ != _)=false)=>hcond
   clear hcond HS hY Hw;obtain⟨pz,h3⟩:=bI (vD z);have Hl:=ah h3;have HD:=ah (show wh w W1 wr (.slice ao (z+1) co) (pz++(nR (n*8)).take 0) by rw[aZ,ci,h3]; exact hT.o);clear h3;go_wp2_with fail
   go_loopw [4,6] (fun x s wr=> ∃k:Nat,k<=8/\s= .int .i64 (56-8*(k:Int))/\wh w W1 wr x (pz++(nR (n*8)).take k)) (fun _ s _=>(intOf s+8).toNat)
   ·exact⟨0,by omega,rfl,HD.o⟩
   ·obtain⟨k,hk,rfl,hc⟩:=hrel;obtain⟨aq,cq,rfl,HL,H4⟩:=aH hc.row;obtain⟨pl,hC⟩:=bI ((pz++(nR (n*8)).take k).length);rw[<-hC]at hc HL ⊢;have hF:=ah hc;have hg:=ah (show wr.ownsRow (w.heap.size+1) 5 1 (.slice aq pl cq) pl ((pz++(nR (n*8)).take k).map aY) by have:=hc.row; rw[<-hC]at this; exact this);have Hk:=ah hC;have HX:pl<=72:=by rw[hC,ag,Hl.o,xJ]; have:=List.length_take_le k (nR (n*8)); have:(nR (n*8)).length=8:=rfl; omega
    have hX:=hc.below.size;have HR:=hd.o▸hX;clear hc hC
    by_cases hA:k<8
    ·obtain⟨sN,h4⟩: ∃sN:Nat,56-8*(k:Int)=(sN:Int):=⟨56-8*k,by omega⟩;rw[h4];have H0:(sN:Int)<=56:=by omega
     have HU:min sN 64=sN:=by omega
     obtain⟨x,hx⟩:=bI ((nR (n*8)).getD k 0);have HV:=ah (show Value.int .u8 ((n:Int)*8/2^sN%256)=aY x by rw[hx,OI _ hA (by omega:sN=56-8*k)]; exact pm _ _ rfl);have hV:=ah (show(nR (n*8)).take (k+1)=(nR (n*8)).take k++[x] by rw[hx,bY,Mb _ hA]; rfl);have HG:=ah h4;have H2: -8<=(sN:Int)-8:=by omega
     clear hx h4;have HZ:=ah (show ∀u∈[(Value.int .u8 ((n:Int)*8/2^sN%256))],u.oneCell'=true by simp[Value.oneCell']);have Ha:pl+1<1099511627775:=by omega
     have Hb:w.heap.size+1<=wr.heap.size:=by have:=hd.o; omega
     go_wp2_with (at_builtin; go_loud (refine rp rfl _ _ rfl (w.heap.size+1) (.slice aq pl cq) pl 1 ((pz++(nR (n*8)).take k).map aY) rfl wr [.int .u8 ((n:Int)*8/2^sN%256)] _ rfl rfl HZ.o hg.o Ha Hb ?_); intro v' wc hb ha; go_loud (have hS:=ah (hF.o.app (x:=x) hd.o hb ha Hk.o (by rw[HV.o]))); obtain⟨ae,ce,rfl,-,-⟩:=aH hb; clear hb ha)
     go_roundw
     ·exact⟨k+1,by omega,by have:=HG.o; congr 1; omega,by rw[hV.o,<-bp]; exact hS.o⟩
     simp[intOf]; omega
    ·obtain rfl:k=8:=by omega
     have hJ:pz++(nR (n*8)).take 8=pF data.length:=by rw[Hl.o,HJ.o,<-HN.o,bw (show(nR (n*8)).length<=8 from ai _)];unfold pF vD;rw[eH (by omega)]
     have Ht:bD (· ≠w.heap.size) wr (.slice aq pl cq) (pF data.length):=by
      have h9:=cJ hg.o;rw[hJ]at h9;have hG:pl=(pF data.length).length:=by rw[<-hJ]; exact Hk.o
      rw[hG]at h9 ⊢;exact h9.weak (fun j hj=>by show j≠w.heap.size; have:=hj.1; omega)
     have Hy:=ah Ht
     have H3:=ah hJ;clear Ht hJ;have HW:(pF data.length).length<=80:=by rw[xI]; unfold iN; omega
     go_wp2_with fail;refine(lV w.heap.size 218 [] data (pF data.length) (.slice aq pl cq) wr ?_ Hy.o (by have:=HN.o; omega) ?_ (by have:=hd.o; omega) (by omega)).mono ?_
     ·obtain⟨b1,b2,b3,b4⟩:=HC.o;exact⟨b1,b2,b3,(hF.o.below.block _ (am b4)).trans b4⟩
     ·intro j x hj;rw[<-HK.o j x hj];exact cw ((hF.o.below.block _ (by have:=hd.o; show 5<_; omega)).trans (hE.o.block _ hKlt))
     ·rintro e w3 ⟨rfl,h7,hZ⟩;obtain⟨buf2,HP,HQ,hW⟩:=h7;obtain⟨vv,h8⟩:=bI (jZ (data++pF data.length) ((data++pF data.length).length/64));rw[<-h8,ko]at hW;have Hf:=ah hW;have HI:=ah h8;have yb:=hZ.size;have hr:=ah (show Below w.heap.size w w3 from((hE.o.trans (hF.o.below.mono hE.o.size)).grown hZ (by have:=hd.o; omega) (fun k hk=>by cases hk; exact ai _)))
      have Hc:w.heap.size+1<=w3.heap.size:=by have:=hd.o; omega
      clear HP HQ hW h8 hZ;obtain⟨ya,⟨i9,z9,Ho,Hp,Hq,Hr,HO⟩,-,-⟩:=Tryz.appBytes;have hv:i9.bytes*32<=281474976710656:=by rw[Hr]; decide
      have H9:=ah (aA Ho (aA Hp (aA Hq hv)));clear Ho Hp Hq Hr HO hv
      go_upto_region 12 with(refine wpList_make_own _ rfl _ _ 29 rfl (w.heap.size+1) 5 i9 z9 1 dm H9.o.1 H9.o.2.1 H9.o.2.2.1 .i64 .i64 32 32 rfl rfl rfl H9.o.2.2.2 (by decide) Hc ?_; intro w4 hh Hu; have Hz:=ah hh; have hN:=ah Hu; clear hh Hu)
      have hM:=ah (hr.o.trans ((jD hN.o).mono hr.o.size));have Hx:=ah ((hN.o.block _ (am Hf.o) (by simp)).trans Hf.o);have HE:=ah (vy Hx.o);have Hd:w.heap.size+1<=w4.heap.size:=by have:=hN.o.size; omega
      have HA:=ah (show w4.ownsRow (w.heap.size+1) 5 1 (.slice (some ⟨w3.heap.size,0,none⟩) 0 32) (((vv.list.take 0).flatMap Bk).length) (((vv.list.take 0).flatMap Bk).map aY)from Hz.o);go_wp2_with (refine dX rfl 216 _ rfl w.heap.size 0 rfl [.int .u32 (vv.a:Int), .int .u32 (vv.b:Int), .int .u32 (vv.c:Int), .int .u32 (vv.d:Int), .int .u32 (vv.e:Int), .int .u32 (vv.f:Int), .int .u32 (vv.g:Int), .int .u32 (vv.h:Int)] _ HE.o fI rfl (by kernel_rfl) ?_)
      go_loopw [7,48] (fun x i wr=> ∃k:Nat,k<=8/\i= .int .i64 (k:Int)/\wr.ownsRow (w.heap.size+1) 5 1 x (((vv.list.take k).flatMap Bk).length) (((vv.list.take k).flatMap Bk).map aY)/\Below w.heap.size w wr/\w.heap.size+1<=wr.heap.size) (fun _ i _=>8-(intOf i).toNat)
      ·exact⟨0,by omega,rfl,HA.o,hM.o,Hd⟩
      ·obtain⟨k,hk,rfl,he,hw,He⟩:=hrel;obtain⟨asx,csx,rfl,HM,H5⟩:=aH he;obtain⟨sl,hf⟩:=bI (((vv.list.take k).flatMap Bk).length);rw[<-hf]at he HM ⊢;have Hm:=ah hf;have hR:=ah he;have Hg:=ah hw;have H1:sl<=32:=by rw[hf,Co,bn]; omega
       clear hf he hw
       by_cases hA:k<8
       ·have hI: ∀w,(Instr.index 216 (.agg #[.int .u32 (vv.a:Int), .int .u32 (vv.b:Int), .int .u32 (vv.c:Int), .int .u32 (vv.d:Int), .int .u32 (vv.e:Int), .int .u32 (vv.f:Int), .int .u32 (vv.g:Int), .int .u32 (vv.h:Int)]) (.int .i64 (k:Int))).run Tryz.prog w= .ok (.int .u32 ((vv.list.getD k 0:Nat):Int)) w:=MI vv hA;obtain⟨y,hy⟩:=bI (vv.list.getD k 0);rw[<-hy]at hI
        have hV:=ah (show(vv.list.take (k+1)).flatMap Bk=(vv.list.take k).flatMap Bk++Bk y by rw[hy,QT vv hA,bV]; simp);have HZ:=ah (show ∀u∈[(Value.int .u8 ((y:Int)/16777216%256)), .int .u8 ((y:Int)/65536%256), .int .u8 ((y:Int)/256%256), .int .u8 ((y:Int)%256)],u.oneCell'=true by simp[Value.oneCell']);have HV:=ah (show [(Value.int .u8 ((y:Int)/16777216%256)), .int .u8 ((y:Int)/65536%256), .int .u8 ((y:Int)/256%256), .int .u8 ((y:Int)%256)]=(Bk y).map aY by rw[pm (y/2^24) _ (by simp),pm (y/2^16) _ (by simp),pm (y/2^8) _ (by simp),pm y _ rfl]; rfl)
        have HT:(k:Int)<8:=by omega
        have hD:sl+4<1099511627775:=by omega
        clear hy;go_wp2_with (at_builtin; go_loud (refine rp rfl _ _ rfl (w.heap.size+1) (.slice asx sl csx) sl 4 (((vv.list.take k).flatMap Bk).map aY) rfl wr [.int .u8 ((y:Int)/16777216%256), .int .u8 ((y:Int)/65536%256), .int .u8 ((y:Int)/256%256), .int .u8 ((y:Int)%256)] _ rfl rfl HZ.o hR.o hD He ?_); intro v' wc hb ha; have HB:=ah hb; have Hi:=ah ha; obtain⟨ae,ce,rfl,-,-⟩:=aH hb; clear hb ha)
        go_roundw
        ·refine⟨k+1,by omega,by simp, ?_,bZ Hg.o hR.o Hi.o (by omega) (by omega),by have:=Hi.o.size; omega⟩;rw[hV.o,ag,Ia,aL,<-HV.o,<-Hm.o];exact HB.o
        simp[intOf]; omega
       ·obtain rfl:k=8:=by omega
        have hB:(vv.list.take 8).flatMap Bk=qk data:=by unfold qk V8.out;rw[<-HI.o]; rfl
        have Hs:bD (fun _=>True) wr (.slice asx sl csx) (qk data):=by have h9:=cJ hR.o;have hG:=Hm.o;rw[hB]at h9 hG;rw[hG]at h9 ⊢;exact h9.weak (fun _ _=>trivial)
        have H7:=Ml Hs;have hL:=ah Hg.o;clear Hs hB;go_wp2_with fail;go_ret;exact⟨rfl,hL.o⟩
theorem OY {bs:List UInt8} (hl:bs.length=64) {k:Nat} (hk:k<64) {b:UInt8} (hb:bs[k]? =some b) (w:World):(Instr.index 213 (.agg (bs.map aY).toArray) (.int .i64 (k:Int))).run Tryz.prog w= .ok (.int .u8 (b.toNat:Int)) w:=by
 have hz:(sizeOf 5).run Tryz.prog w= .ok 1 w:=by kernel_rfl
 obtain⟨h1,rfl⟩:=aD.1 hb;simp[Instr.index,asIntOf,run_underlying Tryz.underlying213,part,hz,hl,hk]
 rfl
theorem uS {w:World} {fb o:Nat} {bs:List UInt8} {ty:TypeId} (h:w.heap[fb]? =some (.cells (bs.map aY).toArray ty (0,0))) (ho:o=0:=by rfl):w.rangeAt fb o (bs.map aY):=by subst ho;intro j x hj;rw[br w _ _ _ _ _ h,bT,aC];exact hj
def gz (bs:List UInt8) (p:UInt8):List UInt8:=bs.map fun x=>x^^^p
structure rW (w : World) (bs : List UInt8) (p : UInt8) (k : Nat) (wr : World) : Prop where
 box:wr.heap[w.heap.size]? =some (.cells ((gz bs p).take k++List.replicate (64-k) 0 |>.map aY).toArray 213 (0,0))
 below:Below w.heap.size w wr
theorem GK (a b:UInt8):bits BinOp.xor IntKind.u8 (a.toNat:Int) (b.toNat:Int)=(((a^^^b).toNat:Nat):Int):=by rw[u8_xor_nat _ _ a.toNat_lt b.toNat_lt,UInt8.toNat_xor]
theorem rW.put {w wr:World} {bs:List UInt8} {p b:UInt8} {k:Nat} (h:rW w bs p k wr) (hl:bs.length=64) (hk:k<64) (hb:bs[k]? =some b):rW w bs p (k+1) (wr.setCell ⟨w.heap.size,k,none⟩ (aY (b^^^p))):=by
 refine⟨?_,h.below.trans ⟨rfl,rfl,rfl,by simp[World.setCell],fun j hj=>heap_setCell_other wr _ j _ (by show j≠w.heap.size; omega)⟩⟩;rw[gT wr _ _ _ _ _ h.box]
 congr 2
 have e1:(gz bs p).take (k+1)=(gz bs p).take k++[b^^^p]:=by
  rw[bY]
  congr 1
  unfold gz;rw[bh,hb]; rfl
 have e2:((gz bs p).take k).length=k:=by unfold gz; rw[bn,aw,hl]; omega
 rw[e1,show 64-k=(64-(k+1))+1 by omega,ii,aW,aL,fz _ _ (by rw[aw,e2]; omega),aw,e2,eV];simp
theorem rW.here {w wr:World} {bs:List UInt8} {p:UInt8} {k:Nat} (h:rW w bs p k wr) (hl:bs.length=64) (hk:k<64):wr.cell? ⟨w.heap.size,k,none⟩=some (.int .u8 0):=by
 have e2:((gz bs p).take k).length=k:=by unfold gz; rw[bn,aw,hl]; omega
 rw[br wr _ _ _ _ _ h.box,aC,aL,bC (by rw[aw,e2]; omega),aw,e2,eV,show 64-k=(64-(k+1))+1 by omega]
 rfl
theorem rW.drew {w wr:World} {bs:List UInt8} {p:UInt8} {k:Nat} (h:rW w bs p k wr):rW w bs p k wr.drew:=⟨h.box,h.below.trans (ak _ _).drew⟩
theorem nx (fb:Nat) (bs:List UInt8) (p:UInt8) (w:World) (hf:w.heap[fb]? =some (.cells (bs.map aY).toArray 213 (0,0))) (hl:bs.length=64):
  Calls Tryz.prog 166 #[.int .u8 (p.toNat:Int), .pointer (some ⟨fb,0,none⟩)] w fun e w'=>e= .returned (.agg ((gz bs p).map aY).toArray)/\Below w.heap.size w w':=by
 have HF:=ah hf;have hp:=am hf;clear hf
 go_enter Tryz.func166,Tryz.ntmps166
 go_upto_region 1 with(fail)
 change Code.wp _ _ _ _ (w.alloc (.cells (List.replicate 64 (Value.int .u8 0)).toArray 213))
 obtain⟨W1,hd⟩:=bI (w.alloc (.cells (List.replicate 64 (Value.int .u8 0)).toArray 213));have hj:=ah (show rW w bs p 0 W1 from⟨by rw[hd]; exact aG w _,by rw[hd]; exact eW⟩);have HR:=ah (uS ((hj.o.below.block fb hp).trans HF.o));have HL:=ah hl;have HI:=ah (show(Tryz.prog.info? 213).map (·.size)=some (bs.map aY).length by rw[aw,hl]; kernel_rfl)
 rw[<-hd];clear hd;go_wp2_with (refine dX rfl 213 _ rfl fb 0 rfl (bs.map aY) _ HR.o Tryz.underlying213 rfl HI.o ?_)
 go_loopw [7] (fun i wr=> ∃k:Nat,k<=64/\i= .int .i64 (k:Int)/\rW w bs p k wr) (fun i _=>64-(intOf i).toNat)
 ·exact⟨0,by omega,rfl,hj.o⟩
 ·obtain⟨k,hk,rfl,hx⟩:=hrel;have HX:=ah hx;have hz:=hx.below.size;clear hx hl
  by_cases hc:k<64
  ·obtain⟨b,hb⟩: ∃b,bs[k]? =some b:=⟨bs[k]'(by rw[HL.o]; exact hc),bG _⟩;have hI:=OY HL.o hc hb;have ch:=HX.o.here HL.o hc;have cf:=dO wr _ k _ _ HX.o.box;have ho:(k:Int)<64:=by omega
   have HB:=ah hb;clear hb;go_wp2_with fail
   go_roundw
   ·rw[GK];exact⟨k+1,by omega,by simp,HX.o.put HL.o hc HB.o⟩
   simp[intOf]; omega
  ·obtain rfl:k=64:=by omega
   have he:wr.heap[w.heap.size]? =some (.cells ((gz bs p).map aY).toArray 213 (0,0)):=by rw[HX.o.box,eV,List.replicate_zero,ci,bw (by unfold gz; rw[aw,HL.o]; exact ai _)]
   have ha:(gz bs p).length=64:=by unfold gz; rw[aw,HL.o]
   have hg:=ah he;have hn:=ah (uS he);have hm:=ah (show(Tryz.prog.info? 213).map (·.size)=some ((gz bs p).map aY).length by rw[aw,ha]; kernel_rfl);have hh:=ah (show(Tryz.prog.info? 213).map (·.size)=some ((gz bs p).map aY).toArray.size by rw[bS,aw,ha]; kernel_rfl);have H1:=ah (ei (fy (gz bs p)))
   clear he;go_wp2_with (first | (refine dX rfl 213 _ rfl w.heap.size 0 rfl ((gz bs p).map aY) _ hn.o Tryz.underlying213 rfl hm.o ?_) | (refine dA rfl 213 _ _ rfl w.heap.size _ rfl rfl _ _ hg.o hh.o rfl H1.o ?_));refine cP (results_cell_row rfl _ _ w.heap.size _ _ _ _ rfl (em wr _ _ _ _ _ hg.o) Tryz.underlying213 rfl hh.o) rfl ?_;exact⟨rfl,eE HX.o.below (ai _) _⟩
def LI (w:World):Prop:=w.cell? ⟨0,0,none⟩=some (.int .u8 54)/\w.cell? ⟨0,1,none⟩=some (.int .u8 92)
theorem Cu (w:World) (e:TypeId) (s:ByteArray):Below w.heap.size w (Lib.bytesWorld w e s):=
 ⟨rfl,rfl,rfl,by rw[Lib.bytesWorld_size]; omega,fun k hk=>Lib.bytesWorld_at_old w e s k hk⟩
theorem Bm (w:World) (s:ByteArray) (hs:s.size<=maxLen):bD (fun k=>k=w.heap.size) (Lib.bytesWorld w 5 s) (.slice (some ⟨w.heap.size,0,none⟩) s.size (grownCap w s.size 0 5)) (bl s):=by
 have e:s.size=(bl s).length:=bi s;unfold bD cD;rw[<-e];refine⟨by rw[aw,e,jI],_,_,rfl,grownCap_ge _ _ _ _,grownCap_le_maxLen _ _ _ _ hs, .inr ⟨w.heap.size,0,rfl,rfl,fun j u hj=> ?_⟩⟩;have ha:=(aD.1 hj).1;rw[aw,<-e]at ha;rw[bT,Lib.bytesWorld_cell w _ s j ha,<-hj,bh]
 have hb:j<s.data.toList.length:=by simpa using ha
 show _=Option.map aY (s.data.toList[j]?)
 rw[bG hb,cM,bG hb]
 rfl
theorem ug (s:ByteArray) (w:World) (hs:s.size<=maxLen): ∃W cp,(convert 9 29 (.string s)).run Tryz.prog w= .ok (.slice (some ⟨w.heap.size,0,none⟩) s.size cp) W/\bD (fun k=>k=w.heap.size) W (.slice (some ⟨w.heap.size,0,none⟩) s.size cp) (bl s)/\Below w.heap.size w W/\W.heap.size=w.heap.size+1:=
 ⟨_,_,Lib.run_convert_string_bytes (P:=Tryz.prog) w 9 29 5 s ee dm Tryz.underlying5,Bm w s hs,Cu w _ s,Lib.bytesWorld_size w _ s⟩
def nn (xs:List ByteArray):List UInt8:=xs.flatMap bl
theorem oC.below {w w':World} {sb:Nat} {ty:TypeId} {rest:List Value} {data:List UInt8} (h:oC w sb ty rest data) (hb:Below w.heap.size w w'):oC w' sb ty rest data:=by obtain⟨b,h1,h2,h3⟩:=h;exact⟨b,h1,h2,er hb h3⟩
theorem ml.below {w w':World} (h:ml w) (hb:Below w.heap.size w w') (hlt:5<w.heap.size):ml w':=by intro j x hj;rw[<-h j x hj];exact cw (hb.block _ hlt)
theorem xo {xs:List ByteArray} {k:Nat} {s:ByteArray} (h:xs[k]? =some s):nn (xs.take (k+1))=nn (xs.take k)++bl s:=by unfold nn;rw[bY,h,bV]; simp
theorem ML {xs:List ByteArray} (k:Nat):(nn (xs.take k)).length<=(nn xs).length:=by
 unfold nn
 conv=>rhs; rw[<-dx k xs,bV,ag]
 omega
theorem Er (S:Nat->Prop) (xs:List ByteArray) (v:Value) (w:World) (hv:lP S w v xs) (hx: ∀s∈xs,s.size<=maxLen) (hn:xs.length<=1000) (hl:(nn xs).length<576460752303423488) (hI:oS w) (hK:ml w) (hKlt:5<w.heap.size):
  Calls Tryz.prog 165 #[v] w fun e w'=>e= .returned (.string ⟨(qk (nn xs)).toArray⟩)/\Below w.heap.size w w':=by
 obtain⟨hR,a,cap,rfl,hE,hM,h0⟩:=hv;have HK:=ah hK;have HX:=ah hx;have H0:=ah h0;have HL:=ah hl;clear hx h0 hK hl
 go_enter Tryz.func165,Tryz.ntmps165
 go_wp2_with fail;refine(xW _ hI).mono ?_;rintro e w1 ⟨rfl,hu,ho,hJ⟩;have hC:=ah hu;have hA:=ah ho;clear hu ho hI;go_wp2_with fail;obtain⟨n,hh⟩:=bI xs.length;have HN:=ah hh;rw[<-hh]at hn ⊢;clear hh
 go_loopw [9] (fun i wr=> ∃k:Nat,k<=n/\i= .int .i64 (k:Int)/\oC wr w.heap.size 218 [] (nn (xs.take k))/\Below w.heap.size w wr/\w.heap.size<wr.heap.size) (fun i _=>n-(intOf i).toNat)
 ·exact⟨0,by omega,rfl,hC.o,hA.o,hJ⟩
 ·obtain⟨k,hk,rfl,hs,hb,hz⟩:=hrel;have HS:=ah hs;have HB:=ah hb;clear hs hb
  by_cases hP:k<n
  ·have hF:k<xs.length:=by have:=HN.o; omega
   obtain⟨s,hs⟩: ∃s,xs[k]? =some s:=⟨_,bG hF⟩;have hy:=H0.o
   rcases hy with h0 | ⟨b,o,rfl,hS,hc⟩
   ·omega
   ·have c0:=hc k (.string s) (by rw[bh,hs]; rfl);have hg:=block_lt_of_cell c0;have c1:=(HB.o.cell (p:=⟨b,o+k,none⟩) hg).trans c0;have hO:(k:Int)<(n:Int):=by omega
    have hG:s.size<=maxLen:=HX.o s (aQ hs);obtain⟨W2,cp,hN,hr,hq,hH⟩:=ug s wr hG;have hB:=ah hr
    have hd:=ah hq;have hm:=ah hs;clear hr hq hs c0 hc;go_wp2_with fail;refine(lV w.heap.size 218 [] (nn (xs.take k)) (bl s) _ W2 (HS.o.below hd.o) (hB.o.weak (fun j hj=>by show j≠w.heap.size; omega)) (by have h1:=xo hm.o; have h2:=ML (xs:=xs) (k+1); rw[h1,ag]at h2; have:=HL.o; omega) (HK.o.below (aj HB.o hd.o) hKlt) (by have:=hd.o.size; omega) (by omega)).mono ?_
    rintro e w3 ⟨rfl,hw,hf⟩;have hD:=ah hw;have he:=ah (show Below w.heap.size w w3 from(aj HB.o hd.o).grown hf (by omega) (fun j hj=>by cases hj; exact ai _));have hL:w.heap.size<w3.heap.size:=by have:=hf.size; omega
    clear hw hf;go_wp2_with fail
    go_roundw
    ·exact⟨k+1,by omega,by simp,by rw[xo hm.o]; exact hD.o,he.o,hL⟩
    simp[intOf]; omega
  ·obtain rfl:k=n:=by omega
   have ha:nn (xs.take k)=nn xs:=by rw[HN.o,dw]
   go_wp2_with fail;refine(xX w.heap.size 218 [] (nn (xs.take k)) wr HS.o (by rw[ha]; exact HL.o) (HK.o.below HB.o hKlt) (by omega)).mono ?_;rintro e w3 ⟨rfl,hp⟩;have he:=ah (aj HB.o hp);clear hp;rw[ha];go_wp2_with fail;go_ret;exact⟨rfl,he.o⟩
theorem CX (off:Nat): ∀(xs:List Value) (k:Nat) (cs:Array Value),off+k+xs.length<=cs.size->
  ((xs.zipIdx k).foldl (fun cs p=>cs.setIfInBounds (off+p.2) p.1) cs).toList=cs.toList.take (off+k)++(xs++cs.toList.drop (off+k+xs.length))
 | [],k,cs,_=>by simp
 | x::xs,k,cs,h=>by
  rw[az]at h;rw[List.zipIdx_cons,ez,CX off xs (k+1) _ (by simp; omega),Array.toList_setIfInBounds];have h1:off+k<cs.toList.length:=by simp; omega
  have h2:((cs.toList.set (off+k) x).take (off+(k+1)))=cs.toList.take (off+k)++[x]:=by rw[show off+(k+1)=off+k+1 by omega,bY,List.take_set_of_le (ai _),de h1]; rfl
  have h3:(cs.toList.set (off+k) x).drop (off+(k+1)+xs.length)=cs.toList.drop (off+k+(xs.length+1)):=by rw[List.drop_set_of_lt (by omega),show off+(k+1)+xs.length=off+k+(xs.length+1) by omega]
  rw[h2,h3,az]; simp
theorem pu {place:Nat->Option (Nat×Nat)} {cells:Array Value} {i off size:Nat} {a:Array Value} {rest:List (Nat×Value)} (hp:place i=some (off,size)) (ha:a.size=size) (hf:off+size<=cells.size):
  Instr.fill place cells ((i, .agg a)::rest)=Instr.fill place (splice cells.toList off a.toList).toArray rest:=by
 subst ha;have hc:(Value.agg a).cells=a:=rfl;rw[Instr.fill,hp];simp only[hc];rw[if_neg (by simp; omega)]
 congr 1
 apply Array.ext'
 have h:=CX off a.toList 0 cells (by simpa using hf);have e:(a.zipIdx.foldl (fun cs (p:Value×Nat)=>cs.setIfInBounds (off+p.2) p.1) cells)=((a.toList.zipIdx 0).foldl (fun cs (p:Value×Nat)=>cs.setIfInBounds (off+p.2) p.1) cells):=by rw[<-Array.foldl_toList,Array.toList_zipIdx]
 show(a.zipIdx.foldl (fun cs (p:Value×Nat)=>cs.setIfInBounds (off+p.2) p.1) cells).toList=_
 rw[e,h];simp[splice]
end
section
open Go
theorem It {P:Program} {ops:Array Oper} {Q:Exit->Act->World->Prop} {S:World->Prop} {dst:Option Tmp} {op:Op} {ty:TypeId} {pos:String} {aft:Array Edge} {g:Option (Nat×Bool)} {fuel:Nat} {listed:Array Bool} {a:Act} {w:World} (i:Nat) (hi:ops[i]? =some ⟨dst,op,ty,pos,aft,g⟩)
  (hw:Region.wanted ⟨dst,op,ty,pos,aft,g⟩ (yielded ops a.tmps)=true)
  (h: ∀K:Act->World->Prop,(∀a w,S w/\pM P ops Q S fuel (listed.setIfInBounds i true) a w->K a w)->wpList P #[] (Exit.then K Q) [⟨dst,op,ty,pos, #[],none⟩] a w):
  wpOp P ops Q i (fun a' w'=>S w'/\wpAnyH P .any ops Q S fuel (listed.setIfInBounds i true) a' w') a w:=by
 have hb:yx P ops (fun a' w'=>S w'/\wpAnyH P .any ops Q S fuel (listed.setIfInBounds i true) a' w') Q [⟨dst,op,ty,pos,aft,g⟩] a w:=
  eu hw (fun K hK=>h K (fun a w hh=>hK a w ⟨hh.1,hh.2.out⟩))
 unfold wpOp;simp only[hi];exact yx.out hb
open Go Go.RowKit
theorem vJ {ops:Array Oper} {rest:List Oper} {o:Oper} {a:Act} {Q:Exit->Act->World->Prop} {w:World} (hgd:o.guard=none) (d s:Operand)
  (ho:o.op= .call {callee:= .builtin .copy,args:= #[d,s],argTypes:= #[29,9]}) (g off dLen dCap:Nat) (k:ByteArray) (hd:a.eval d= .slice (some ⟨g,off,none⟩) dLen dCap) (hs:a.eval s= .string k)
  (cur:List Value) (t:TypeId) (hg:w.heap[g]? =some (.cells cur.toArray t (0,0))) (hle:k.size<=dLen) (hfit:off+k.size<=cur.length)
  (h:wpList Tryz.prog ops Q rest (a.put o.dst (.int .i64 (k.size:Int))) (w.setRow g (splice cur off ((bl k).map aY)).toArray)):wpList Tryz.prog ops Q (o::rest) a w:=by
 refine fJ hgd fun K hK=> ?_
 have ha:=Lib.run_copy_row_string (P:=Tryz.prog) w 29 9 o.type 5 g off dLen dCap k cur.toArray t dm (by kernel_rfl) hg hle (by simpa using hfit);unfold Oper.wp;simp[execOp,ho,resolve,invoke,builtin,hd,hs,ha,Result.andThen];refine hK _ _ ?_;have e:splice cur off ((bl k).map aY)=cur.take off++(Lib.byteCells k.data.toList++cur.drop (off+k.size)):=by unfold splice;rw[aw,<-bi]; rfl
 rw[e]at h
 simpa [goInt]using h
theorem Gs {α:Type} (n:Nat) (x:α) (ys:List α):splice (List.replicate n x) 0 ys=ys++List.replicate (n-ys.length) x:=by unfold splice;rw[aZ,aI,List.drop_replicate,bT]
theorem FE {k:List UInt8} (h:k.length<=64):iV k=k++List.replicate (64-k.length) 0:=by unfold iV; rw[if_neg (by omega)]
theorem oS.below {w0 w w':World} (h:oS w) (hb:Below w0.heap.size w w') (hlt:2<w0.heap.size):oS w':=by intro j x hj;rw[<-h j x hj];exact cw (hb.block _ hlt)
theorem mF {w:World} {sb:Nat} {cs:List Value} {ty:TypeId} (h:w.heap[sb]? =some (.cells cs.toArray ty (0,0))):w.rangeAt sb 0 cs:=by intro j x hj;rw[br w _ _ _ _ _ h,bT,aC];exact hj
theorem iM {ops:Array Oper} {rest:List Oper} {o:Oper} {a:Act} {w:World} {Q:Exit->Act->World->Prop} (hg:o.guard=none) (t:TypeId) (parts:Array (Nat×Operand)) (ho:o.op= .build t parts) (vs:List (Nat×Value))
  (hv:(parts.map fun(i,x)=>(i,a.eval x)).toList=vs) (c:Array Value) (hb:Tryz.prog.built t vs=some c) (h:wpList Tryz.prog ops Q rest (a.put o.dst (.agg c)) w):wpList Tryz.prog ops Q (o::rest) a w:=by
 subst hv;exact wpList_build hg t parts ho (by rw[hb]; rfl) (by rw[hb]; exact h)
def Qu :List Value:=List.replicate 8 (.int .u32 0)++(List.replicate 64 (.int .u8 0)++([.int .i64 0]++List.replicate 64 (.int .u8 0)))
theorem pL :Qu.length=137:=by kernel_rfl
theorem BV {α:Type} {z a b:List α} (h:z.length=a.length+b.length):splice (splice z 0 a) a.length b=a++b:=by unfold splice;rw[aZ,aI,bT,List.take_left,jc,dT (by omega),aI,fR,dT (by omega),ci]
theorem uQ (a b:List Value) (ha:a.length=73) (hb:b.length=64):Tryz.prog.built 223 [(0, .agg a.toArray),(1, .agg b.toArray)]=some (a++b).toArray:=by
 have h: ∀parts,Tryz.prog.built 223 parts=Instr.fill (fun i=>(#[(0,73),(73,64)]:Array (Nat×Nat))[i]?) Qu.toArray parts:=fun parts=>by kernel_rfl
 rw[h,pu (off:=0) (size:=73) rfl (by simpa using ha) (by rw[bS,pL]; decide),pu (off:=73) (size:=64) rfl (by simpa using hb) (by rw[bS,length_splice _ _ _ (by simp[pL,ha]),List.toList_toArray,pL]; decide)];simp only[Instr.fill];rw[<-ha,BV (by rw[pL,ha,hb])]
theorem zm (c:List Value) (hc:c.length=137):Tryz.prog.built 225 [(0, .agg c.toArray)]=some c.toArray:=by
 have h: ∀parts,Tryz.prog.built 225 parts=Instr.fill (fun i=>(#[(0,137)]:Array (Nat×Nat))[i]?) Qu.toArray parts:=fun parts=>by kernel_rfl
 rw[h,pu (off:=0) (size:=137) rfl (by simpa using hc) (by rw[bS,pL]; decide)];simp only[Instr.fill];unfold splice;rw[aZ,aI,bT,hc,dT (by rw[pL]; decide),ci]
def uL (w:World) (mb:Nat) (key data:List UInt8):Prop:=oC w mb 225 ((gz (iV key) 92).map aY) (gz (iV key) 54++data)
theorem Df (key:ByteArray) (w:World) (hk:key.size<=64) (hI:oS w) (hK:ml w) (hP:LI w) (hKlt:5<w.heap.size) (hplt:0<w.heap.size) (hilt:2<w.heap.size):
  Calls Tryz.prog 146 #[.string key] w fun e w'=> ∃mb,e= .returned (.pointer (some ⟨mb,0,none⟩))/\w.heap.size<=mb/\uL w' mb (bl key) []/\Below w.heap.size w w':=by
 have HK:=ah hK;have HI:=ah hI;have HP:=ah hP;clear hK hI hP
 go_enter Tryz.func146,Tryz.ntmps146
 go_upto_region 4 with(fail)
 change Code.wp _ _ _ _ (w.alloc (.cells (List.replicate 64 (Value.int .u8 0)).toArray 213))
 obtain⟨W1,hL⟩:=bI (w.alloc (.cells (List.replicate 64 (Value.int .u8 0)).toArray 213));rw[<-hL];have Hn:=ah (show W1.heap[w.heap.size]? =some (.cells (List.replicate 64 (Value.int .u8 0)).toArray 213 (0,0)) by rw[hL]; exact aG w _);have Hr:=ah (show Below w.heap.size w W1 by rw[hL]; exact eW);have Hj:W1.heap.size=w.heap.size+1:=by rw[hL]; simp
 clear hL;have Hs:=ah (show 0+key.size<=(List.replicate 64 (Value.int .u8 0)).length by simp; omega)
 go_upto_region 5 with(refine vJ rfl _ _ rfl w.heap.size 0 64 64 key rfl rfl _ _ Hn.o hk Hs.o ?_)
 obtain⟨W2,hM⟩:=bI (W1.setRow w.heap.size (splice (List.replicate 64 (Value.int .u8 0)) 0 ((bl key).map aY)).toArray);rw[<-hM];have Hv:=ah (show W2.heap[w.heap.size]? =some (.cells ((iV (bl key)).map aY).toArray 213 (0,0)) by rw[hM,em W1 _ _ _ _ _ Hn.o,FE (by rw[<-bi]; exact hk)];rw[Gs,aw,aL,List.map_replicate]; rfl)
 have Hk:=ah (show Below w.heap.size w W2 by rw[hM]; exact eE Hr.o (ai _) _);have Hq:w.heap.size+1=W2.heap.size:=by rw[hM,size_setRow,Hj]
 clear hM Hj;have Ht:=ah (show W2.cell? ⟨0,1,none⟩=some (.int .u8 92)from(Hk.o.cell (p:=⟨0,1,none⟩) hplt).trans HP.o.2);go_wp2_with fail;refine fd (fun w'=>w'.cell? ⟨0,1,none⟩=some (.int .u8 92)) (by kernel_rfl) ?_;have hS:=Ht.o;obtain⟨V,hV⟩:=bI W2.drew;rw[<-hV];have h2:=ah (show Below w.heap.size w V by rw[hV]; exact Hk.o.trans ((ak _ _).drew))
 have Hw:=ah (show V.heap[w.heap.size]? =some (.cells ((iV (bl key)).map aY).toArray 213 (0,0)) by rw[hV]; exact Hv.o);have hJ:V.cell? ⟨0,1,none⟩=some (.int .u8 92):=by rw[hV]; exact hS
 have Hx:w.heap.size+1=V.heap.size:=by rw[hV]; exact Hq
 clear hV hS Hq;refine dy 3 rfl hJ (by intro w' Hi; go_simp; rfl) ?_;simp only[bN];refine dy 4 rfl hJ (by intro w' Hi; go_simp; rfl) ?_;simp only[bN];refine dy 5 rfl hJ (by intro w' Hi; go_simp; rfl) ?_;simp only[bN];refine cC 0 rfl (fun K hK=> ?_);go_wp2_with fail;refine(xW V (HI.o.below h2.o hilt)).mono ?_;rintro e w1 ⟨rfl,Hp,hN,Hj⟩;have Hu:=ah Hp
 have hE:=ah hN;have hd:=ah (aj h2.o hN);have hH:w1.cell? ⟨0,1,none⟩=some (.int .u8 92):=(hN.cell (p:=⟨0,1,none⟩) (by have:=h2.o.size; show 0<_; omega)).trans hJ;have ho:=ah ((hN.block w.heap.size (by omega)).trans Hw.o);clear Hp hN hJ;go_wp2_with fail;refine⟨hH, ?_⟩;refine dy 1 rfl hH (by intro w' Hi; go_simp; rfl) ?_;simp only[bN];obtain⟨sbf,hB,Hg,hC⟩:=Hu.o
 rw[ci]at hC;have h3:=ah hC;have hY:=mL (jZ [] (([]:List UInt8).length/64)) hB ([]:List UInt8).length;have Hl:=ah hB;obtain⟨sc,Hh⟩:=bI (dI (jZ [] (([]:List UInt8).length/64)) sbf ([]:List UInt8).length);rw[<-Hh]at h3 hY;have Hm:=ah Hh;have hX:=ah hY;have hF:=ah (show(Tryz.prog.info? 218).map (·.size)=some sc.length by rw[hY]; kernel_rfl)
 clear hB Hg hC hY Hh;refine pM.of (wpAnyH_all (rs:=[2,6]) (by kernel_rfl) (by simp) fun jj Ho=> ?_);simp only[aT,dz,or_false]at Ho
 rcases Ho with rfl | rfl
 ·refine It 2 rfl rfl (fun K hK=> ?_);have Hb:=ah (mF h3.o);go_wp2_with (refine dX rfl 218 _ rfl V.heap.size 0 rfl sc _ Hb.o Tryz.underlying218 rfl hF.o ?_);refine⟨hH, ?_⟩;refine cC 6 rfl (fun K hK=> ?_);go_wp2_with fail;refine(nx w.heap.size (iV (bl key)) 92 w1 ho.o (ju _)).mono ?_;rintro e w2 ⟨rfl,hm⟩;have hv:=ah hm;have hw:=ah (aj hd.o hm)
  have he:w2.cell? ⟨0,1,none⟩=some (.int .u8 92):=(hm.cell (p:=⟨0,1,none⟩) (by have:=hd.o.size; show 0<_; omega)).trans hH;clear hm;go_wp2_with fail;refine⟨he, ?_⟩;obtain⟨oc,hr⟩:=bI ((gz (iV (bl key)) 92).map aY);have hc:oc.length=64:=by rw[hr]; unfold gz; rw[aw,aw,ju]
  rw[<-hr];have Ha:=ah hr;obtain⟨mc,hq⟩:=bI (sc++oc);have hA:=uQ sc oc hX.o hc;rw[<-hq]at hA;have hb:mc.length=137:=by rw[hq,ag,hX.o,hc]
  have hR:=zm mc hb;have h8:=ah hq;clear hr hq hc hb;refine cC 7 rfl (fun K hK=> ?_);go_wp2_with (refine iM rfl 223 _ rfl [(0, .agg sc.toArray),(1, .agg oc.toArray)] (by kernel_rfl) mc.toArray hA ?_);refine⟨he, ?_⟩;simp only[bN];refine cC 8 rfl (fun K hK=> ?_);go_wp2_with (refine iM rfl 225 _ rfl [(0, .agg mc.toArray)] (by kernel_rfl) mc.toArray hR ?_)
  refine⟨he, ?_⟩;simp only[bN];clear hA hR;refine cC 9 rfl (fun K hK=> ?_);go_wp2_with fail;obtain⟨w3,hs⟩:=bI (w2.alloc (.cells mc.toArray 225));rw[<-hs];have h4:=ah (show w3.heap[w2.heap.size]? =some (.cells mc.toArray 225 (0,0)) by rw[hs]; exact aG _ _);have hp:Below w2.heap.size w2 w3:=by rw[hs]; exact eW
  have hD:=ah (aj hw.o hp);have hy:w3.cell? ⟨0,1,none⟩=some (.int .u8 92):=(hp.cell (p:=⟨0,1,none⟩) (by have:=hw.o.size; show 0<_; omega)).trans he;have Hd:=ah (((hp.block w.heap.size (by have:=hw.o.size; have:=hd.o.size; have:=hv.o.size; omega)).trans (er hv.o ho.o)));clear hs hp he;refine⟨hy, ?_⟩;refine cC 10 rfl (fun K hK=> ?_);go_wp2_with fail
  refine⟨hy, ?_⟩;refine cL (by kernel_rfl) ?_;clear hy;have He:w3.cell? ⟨0,0,none⟩=some (.int .u8 54):=(hD.o.cell (p:=⟨0,0,none⟩) hplt).trans HP.o.1;go_wp2_with fail;refine(nx w.heap.size (iV (bl key)) 54 w3 Hd.o (ju _)).mono ?_;rintro e w4 ⟨rfl,hz⟩;have h0:=ah (aj hD.o hz);have hG:=ah (er hz h4.o);have ha:(gz (iV (bl key)) 54).length=64:=by unfold gz; rw[aw,ju]
  have hx:=ah (show(Tryz.prog.info? 213).map (·.size)=some ((gz (iV (bl key)) 54).map aY).toArray.size by rw[bS,aw,ha]; kernel_rfl);have hZ:=ah (ei (fy (gz (iV (bl key)) 54)));have hg:=ah (show(List.replicate 64 (Value.int .u8 0)).toArray.size=((gz (iV (bl key)) 54).map aY).toArray.size by rw[bS,bS,aw,ha]; simp)
  have hf:=ah (show(w4.alloc (.cells (List.replicate 64 (Value.int .u8 0)).toArray 213)).heap[w4.heap.size]? =some (.cells (List.replicate 64 (Value.int .u8 0)).toArray 213 (0,0))from aG w4 _);clear hz He;go_wp2_with (refine dA rfl 213 _ _ rfl w4.heap.size _ rfl rfl _ _ hf.o hx.o hg.o hZ.o ?_);simp only[Act.put];refine bL [some 5,none] (by kernel_rfl) (by kernel_rfl) (by kernel_rfl) ?_
  simp only[ed,aR,aZ,bA,bR];obtain⟨w5,hu⟩:=bI (((w4.alloc (.cells (List.replicate 64 (Value.int .u8 0)).toArray 213)).setRow w4.heap.size ((gz (iV (bl key)) 54).map aY).toArray).drew);have h9:=ah (show w5.heap[w4.heap.size]? =some (.cells ((gz (iV (bl key)) 54).map aY).toArray 213 (0,0)) by rw[hu]; exact em _ _ _ _ _ _ hf.o)
  have hO:Below w4.heap.size w4 w5:=by rw[hu]; exact(eE (eW) (ai _) _).drew
  have h7:=ah (er hO hG.o);have hn:=ah (aj h0.o hO);have hh:w4.heap.size≠w2.heap.size:=by have:=am hG.o; omega
  change Cd _ _ _ _ _ _
  repeat (first | (refine cy rfl ?_; simp only[bN]) | (refine cU rfl (fun K hK=> ?_); go_simp; refine hK _ ?_; clear hK K))
  refine cT ?_;refine eu rfl (fun K hK=> ?_);go_wp2_with fail
  change Calls _ _ _ (((w4.alloc (.cells (List.replicate 64 (Value.int .u8 0)).toArray 213)).setRow w4.heap.size ((gz (iV (bl key)) 54).map aY).toArray).drew) _
  rw[<-hu];clear hu;have hT:bD (· ≠w2.heap.size) w5 (.slice (some ⟨w4.heap.size,0,none⟩) 64 64) (gz (iV (bl key)) 54):=⟨by simp,_,_,by rw[ha],by omega,by unfold maxLen; omega, .inr ⟨_,_,rfl,hh,fun j x hj=>by rw[br w5 _ _ _ _ _ h9.o,bT,aC]; exact hj⟩⟩;have hl:oC w5 w2.heap.size 225 oc []:=⟨sbf,Hl.o,by simp,by rw[<-Hm.o,<-h8.o]; exact h7.o⟩
  have Hf:w.heap.size+1<=w2.heap.size:=by have:=hv.o.size; have:=hE.o.size; omega
  refine(lV w2.heap.size 225 oc [] (gz (iV (bl key)) 54) _ w5 hl hT (by rw[ha]; decide) (HK.o.below hn.o hKlt) (by have:=hn.o.size; omega) (by omega)).mono ?_;rintro e w6 ⟨rfl,hW,hU⟩;have Hc:=ah hW;have h1:=ah (hn.o.grown hU hn.o.size (fun k hk=>by cases hk; omega));clear hW hU hT hl;go_wp2_with fail;go_ret;refine⟨_,rfl,by omega, ?_,h1.o⟩;unfold uL
  rw[<-Ha.o,ci];exact Hc.o
 ·refine It 6 rfl rfl (fun K hK=> ?_);go_wp2_with fail;refine(nx w.heap.size (iV (bl key)) 92 w1 ho.o (ju _)).mono ?_;rintro e w2 ⟨rfl,hm⟩;have hv:=ah hm;have hw:=ah (aj hd.o hm);have he:w2.cell? ⟨0,1,none⟩=some (.int .u8 92):=(hm.cell (p:=⟨0,1,none⟩) (by have:=hd.o.size; show 0<_; omega)).trans hH;have Hb:=ah (mF (er hm h3.o))
  clear hm;go_wp2_with fail;refine⟨he, ?_⟩;refine cC 2 rfl (fun K hK=> ?_);go_wp2_with (refine dX rfl 218 _ rfl V.heap.size 0 rfl sc _ Hb.o Tryz.underlying218 rfl hF.o ?_);refine⟨he, ?_⟩;obtain⟨oc,hr⟩:=bI ((gz (iV (bl key)) 92).map aY);have hc:oc.length=64:=by rw[hr]; unfold gz; rw[aw,aw,ju]
  rw[<-hr];have Ha:=ah hr;obtain⟨mc,hq⟩:=bI (sc++oc);have hA:=uQ sc oc hX.o hc;rw[<-hq]at hA;have hb:mc.length=137:=by rw[hq,ag,hX.o,hc]
  have hR:=zm mc hb;have h8:=ah hq;clear hr hq hc hb;refine cC 7 rfl (fun K hK=> ?_);go_wp2_with (refine iM rfl 223 _ rfl [(0, .agg sc.toArray),(1, .agg oc.toArray)] (by kernel_rfl) mc.toArray hA ?_);refine⟨he, ?_⟩;simp only[bN];refine cC 8 rfl (fun K hK=> ?_);go_wp2_with (refine iM rfl 225 _ rfl [(0, .agg mc.toArray)] (by kernel_rfl) mc.toArray hR ?_)
  refine⟨he, ?_⟩;simp only[bN];clear hA hR;refine cC 9 rfl (fun K hK=> ?_);go_wp2_with fail;obtain⟨w3,hs⟩:=bI (w2.alloc (.cells mc.toArray 225));rw[<-hs];have h4:=ah (show w3.heap[w2.heap.size]? =some (.cells mc.toArray 225 (0,0)) by rw[hs]; exact aG _ _);have hp:Below w2.heap.size w2 w3:=by rw[hs]; exact eW
  have hD:=ah (aj hw.o hp);have hy:w3.cell? ⟨0,1,none⟩=some (.int .u8 92):=(hp.cell (p:=⟨0,1,none⟩) (by have:=hw.o.size; show 0<_; omega)).trans he;have Hd:=ah (((hp.block w.heap.size (by have:=hw.o.size; have:=hd.o.size; have:=hv.o.size; omega)).trans (er hv.o ho.o)));clear hs hp he;refine⟨hy, ?_⟩;refine cC 10 rfl (fun K hK=> ?_);go_wp2_with fail
  refine⟨hy, ?_⟩;refine cL (by kernel_rfl) ?_;clear hy;have He:w3.cell? ⟨0,0,none⟩=some (.int .u8 54):=(hD.o.cell (p:=⟨0,0,none⟩) hplt).trans HP.o.1;go_wp2_with fail;refine(nx w.heap.size (iV (bl key)) 54 w3 Hd.o (ju _)).mono ?_;rintro e w4 ⟨rfl,hz⟩;have h0:=ah (aj hD.o hz);have hG:=ah (er hz h4.o);have ha:(gz (iV (bl key)) 54).length=64:=by unfold gz; rw[aw,ju]
  have hx:=ah (show(Tryz.prog.info? 213).map (·.size)=some ((gz (iV (bl key)) 54).map aY).toArray.size by rw[bS,aw,ha]; kernel_rfl);have hZ:=ah (ei (fy (gz (iV (bl key)) 54)));have hg:=ah (show(List.replicate 64 (Value.int .u8 0)).toArray.size=((gz (iV (bl key)) 54).map aY).toArray.size by rw[bS,bS,aw,ha]; simp)
  have hf:=ah (show(w4.alloc (.cells (List.replicate 64 (Value.int .u8 0)).toArray 213)).heap[w4.heap.size]? =some (.cells (List.replicate 64 (Value.int .u8 0)).toArray 213 (0,0))from aG w4 _);clear hz He;go_wp2_with (refine dA rfl 213 _ _ rfl w4.heap.size _ rfl rfl _ _ hf.o hx.o hg.o hZ.o ?_);simp only[Act.put];refine bL [some 5,none] (by kernel_rfl) (by kernel_rfl) (by kernel_rfl) ?_
  simp only[ed,aR,aZ,bA,bR];obtain⟨w5,hu⟩:=bI (((w4.alloc (.cells (List.replicate 64 (Value.int .u8 0)).toArray 213)).setRow w4.heap.size ((gz (iV (bl key)) 54).map aY).toArray).drew);have h9:=ah (show w5.heap[w4.heap.size]? =some (.cells ((gz (iV (bl key)) 54).map aY).toArray 213 (0,0)) by rw[hu]; exact em _ _ _ _ _ _ hf.o)
  have hO:Below w4.heap.size w4 w5:=by rw[hu]; exact(eE (eW) (ai _) _).drew
  have h7:=ah (er hO hG.o);have hn:=ah (aj h0.o hO);have hh:w4.heap.size≠w2.heap.size:=by have:=am hG.o; omega
  change Cd _ _ _ _ _ _
  repeat (first | (refine cy rfl ?_; simp only[bN]) | (refine cU rfl (fun K hK=> ?_); go_simp; refine hK _ ?_; clear hK K))
  refine cT ?_;refine eu rfl (fun K hK=> ?_);go_wp2_with fail
  change Calls _ _ _ (((w4.alloc (.cells (List.replicate 64 (Value.int .u8 0)).toArray 213)).setRow w4.heap.size ((gz (iV (bl key)) 54).map aY).toArray).drew) _
  rw[<-hu];clear hu;have hT:bD (· ≠w2.heap.size) w5 (.slice (some ⟨w4.heap.size,0,none⟩) 64 64) (gz (iV (bl key)) 54):=⟨by simp,_,_,by rw[ha],by omega,by unfold maxLen; omega, .inr ⟨_,_,rfl,hh,fun j x hj=>by rw[br w5 _ _ _ _ _ h9.o,bT,aC]; exact hj⟩⟩;have hl:oC w5 w2.heap.size 225 oc []:=⟨sbf,Hl.o,by simp,by rw[<-Hm.o,<-h8.o]; exact h7.o⟩
  have Hf:w.heap.size+1<=w2.heap.size:=by have:=hv.o.size; have:=hE.o.size; omega
  refine(lV w2.heap.size 225 oc [] (gz (iV (bl key)) 54) _ w5 hl hT (by rw[ha]; decide) (HK.o.below hn.o hKlt) (by have:=hn.o.size; omega) (by omega)).mono ?_;rintro e w6 ⟨rfl,hW,hU⟩;have Hc:=ah hW;have h1:=ah (hn.o.grown hU hn.o.size (fun k hk=>by cases hk; omega));clear hW hU hT hl;go_wp2_with fail;go_ret;refine⟨_,rfl,by omega, ?_,h1.o⟩;unfold uL
  rw[<-Ha.o,ci];exact Hc.o
theorem kn {x a b:Nat} {s:Nat} (ha:2^s=a) (hb:2^(32-s)=b) (hx:x<4294967296):bits .or .u32 ((x:Int)/(b:Int)) ((x:Int)*(a:Int)%4294967296)=((gC x s:Nat):Int):=by
 rw[show((x:Int)*(a:Int)%4294967296)=((x*a%4294967296:Nat):Int) by simp,show((x:Int)/(b:Int))=((x/b:Nat):Int) by simp,
  u32_or_nat _ _ (dJ (eX _ _) hx) (cX _ (by decide)),Nat.or_comm]
 unfold gC; rw[ha,hb]
theorem Gl (x:Nat) (w:World) (hx:x<4294967296):Calls Tryz.prog 218 #[.int .u32 (x:Int), .int .i64 17] w fun e w'=>e= .returned (.int .u32 ((gC x 15:Nat):Int))/\ ∃m,w'=w.drewN m:=by
 have hw:IntKind.i64.wrap 15=15:=by decide
 go_enter gt,fM
 go_wp2_with fail
 go_quiet (fail)
 go_wp2_with fail;go_ret;refine⟨?_,_,rfl⟩;rw[<-kn (a:=32768) (b:=131072) (by decide) (by decide) hx]
 rfl
theorem Gj (x:Nat) (w:World) (hx:x<4294967296):Calls Tryz.prog 218 #[.int .u32 (x:Int), .int .i64 19] w fun e w'=>e= .returned (.int .u32 ((gC x 13:Nat):Int))/\ ∃m,w'=w.drewN m:=by
 have hw:IntKind.i64.wrap 13=13:=by decide
 go_enter gt,fM
 go_wp2_with fail
 go_quiet (fail)
 go_wp2_with fail;go_ret;refine⟨?_,_,rfl⟩;rw[<-kn (a:=8192) (b:=524288) (by decide) (by decide) hx]
 rfl
theorem Gp (x:Nat) (w:World) (hx:x<4294967296):Calls Tryz.prog 218 #[.int .u32 (x:Int), .int .i64 7] w fun e w'=>e= .returned (.int .u32 ((gC x 25:Nat):Int))/\ ∃m,w'=w.drewN m:=by
 have hw:IntKind.i64.wrap 25=25:=by decide
 go_enter gt,fM
 go_wp2_with fail
 go_quiet (fail)
 go_wp2_with fail;go_ret;refine⟨?_,_,rfl⟩;rw[<-kn (a:=33554432) (b:=128) (by decide) (by decide) hx]
 rfl
theorem Gk (x:Nat) (w:World) (hx:x<4294967296):Calls Tryz.prog 218 #[.int .u32 (x:Int), .int .i64 18] w fun e w'=>e= .returned (.int .u32 ((gC x 14:Nat):Int))/\ ∃m,w'=w.drewN m:=by
 have hw:IntKind.i64.wrap 14=14:=by decide
 go_enter gt,fM
 go_wp2_with fail
 go_quiet (fail)
 go_wp2_with fail;go_ret;refine⟨?_,_,rfl⟩;rw[<-kn (a:=16384) (b:=262144) (by decide) (by decide) hx]
 rfl
theorem Gq (x:Nat) (w:World) (hx:x<4294967296):Calls Tryz.prog 218 #[.int .u32 (x:Int), .int .i64 6] w fun e w'=>e= .returned (.int .u32 ((gC x 26:Nat):Int))/\ ∃m,w'=w.drewN m:=by
 have hw:IntKind.i64.wrap 26=26:=by decide
 go_enter gt,fM
 go_wp2_with fail
 go_quiet (fail)
 go_wp2_with fail;go_ret;refine⟨?_,_,rfl⟩;rw[<-kn (a:=67108864) (b:=64) (by decide) (by decide) hx]
 rfl
theorem Gn (x:Nat) (w:World) (hx:x<4294967296):Calls Tryz.prog 218 #[.int .u32 (x:Int), .int .i64 11] w fun e w'=>e= .returned (.int .u32 ((gC x 21:Nat):Int))/\ ∃m,w'=w.drewN m:=by
 have hw:IntKind.i64.wrap 21=21:=by decide
 go_enter gt,fM
 go_wp2_with fail
 go_quiet (fail)
 go_wp2_with fail;go_ret;refine⟨?_,_,rfl⟩;rw[<-kn (a:=2097152) (b:=2048) (by decide) (by decide) hx]
 rfl
theorem KZ (x:Nat) (w:World) (hx:x<4294967296):Calls Tryz.prog 218 #[.int .u32 (x:Int), .int .i64 25] w fun e w'=>e= .returned (.int .u32 ((gC x 7:Nat):Int))/\ ∃m,w'=w.drewN m:=by
 have hw:IntKind.i64.wrap 7=7:=by decide
 go_enter gt,fM
 go_wp2_with fail
 go_quiet (fail)
 go_wp2_with fail;go_ret;refine⟨?_,_,rfl⟩;rw[<-kn (a:=128) (b:=33554432) (by decide) (by decide) hx]
 rfl
theorem Gr (x:Nat) (w:World) (hx:x<4294967296):Calls Tryz.prog 218 #[.int .u32 (x:Int), .int .i64 2] w fun e w'=>e= .returned (.int .u32 ((gC x 30:Nat):Int))/\ ∃m,w'=w.drewN m:=by
 have hw:IntKind.i64.wrap 30=30:=by decide
 go_enter gt,fM
 go_wp2_with fail
 go_quiet (fail)
 go_wp2_with fail;go_ret;refine⟨?_,_,rfl⟩;rw[<-kn (a:=1073741824) (b:=4) (by decide) (by decide) hx]
 rfl
theorem Gm (x:Nat) (w:World) (hx:x<4294967296):Calls Tryz.prog 218 #[.int .u32 (x:Int), .int .i64 13] w fun e w'=>e= .returned (.int .u32 ((gC x 19:Nat):Int))/\ ∃m,w'=w.drewN m:=by
 have hw:IntKind.i64.wrap 19=19:=by decide
 go_enter gt,fM
 go_wp2_with fail
 go_quiet (fail)
 go_wp2_with fail;go_ret;refine⟨?_,_,rfl⟩;rw[<-kn (a:=524288) (b:=8192) (by decide) (by decide) hx]
 rfl
theorem Gi (x:Nat) (w:World) (hx:x<4294967296):Calls Tryz.prog 218 #[.int .u32 (x:Int), .int .i64 22] w fun e w'=>e= .returned (.int .u32 ((gC x 10:Nat):Int))/\ ∃m,w'=w.drewN m:=by
 have hw:IntKind.i64.wrap 10=10:=by decide
 go_enter gt,fM
 go_wp2_with fail
 go_quiet (fail)
 go_wp2_with fail;go_ret;refine⟨?_,_,rfl⟩;rw[<-kn (a:=1024) (b:=4194304) (by decide) (by decide) hx]
 rfl
def xS (x:Nat) (n:Int):Nat:=gC x (32-n.toNat)
theorem pI (x:Nat) (n:Int) (w:World) (hx:x<4294967296) (hn:n=7\/n=18\/n=17\/n=19\/n=6\/n=11\/n=25\/n=2\/n=13\/n=22):Calls Tryz.prog 218 #[.int .u32 (x:Int), .int .i64 n] w fun e w'=>e= .returned (.int .u32 ((xS x n:Nat):Int))/\ ∃m,w'=w.drewN m:=by
 rcases hn with rfl | rfl | rfl | rfl | rfl | rfl | rfl | rfl | rfl | rfl
 ·exact Gp x w hx
 ·exact Gk x w hx
 ·exact Gl x w hx
 ·exact Gj x w hx
 ·exact Gq x w hx
 ·exact Gn x w hx
 ·exact KZ x w hx
 ·exact Gr x w hx
 ·exact Gm x w hx
 ·exact Gi x w hx
def nB :Array Value:=(kc.map fj).toArray
theorem MM :Tryz.prog.built 252 ((kc.map fj).zipIdx.map fun p=>(p.2,p.1))=some nB:=by kernel_rfl
theorem yB (w:World):Calls Tryz.prog 217 #[] w fun e w'=>e= .returned (.agg nB)/\Below w.heap.size w w':=by
 go_enter Tryz.func217,Tryz.ntmps217
 obtain⟨W0,ha⟩:=bI (w.alloc (.cells (List.replicate 64 (fj 0)).toArray 252));have hb:=ah (show W0.heap[w.heap.size]? =some (.cells (List.replicate 64 (fj 0)).toArray 252 (0,0)) by rw[ha]; exact aG w _);have HB:=ah (show Below w.heap.size w W0 by rw[ha]; exact eW)
 go_upto_region 1 with(fail)
 change Code.wp _ _ _ _ (w.alloc (.cells (List.replicate 64 (fj 0)).toArray 252))
 rw[<-ha];clear ha;go_wp2_with (first | (refine iM rfl 252 _ rfl ((kc.map fj).zipIdx.map fun p=>(p.2,p.1)) (by kernel_rfl) nB MM ?_) | (refine dA rfl 252 _ _ rfl w.heap.size nB rfl rfl _ _ hb.o (by kernel_rfl) (by kernel_rfl) (by kernel_rfl) ?_));refine cP (results_cell_row rfl _ _ w.heap.size _ _ _ _ rfl (em W0 _ _ _ _ _ hb.o) Tryz.underlying252 rfl (by kernel_rfl)) rfl ?_
 exact⟨rfl,eE HB.o (ai _) _⟩
end
end Go.Proofs.YtpffpjbkbaleiaaGreatDoor
