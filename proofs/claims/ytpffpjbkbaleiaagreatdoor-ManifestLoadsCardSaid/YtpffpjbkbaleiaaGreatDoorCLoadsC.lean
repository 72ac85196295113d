/- Texts of this proof, one after the other: EncA, RNumP, RNum, EncB, EncC, Read, ReadB, Rdr, RdrB, RdrC, RItemP, RItems, Codec, CompP, CodecB, SealA, SealB, RollP, ChkP, RollA, RollB, MarkA. -/
import Derived.Test.YtpffpjbkbaleiaaGreatDoorCLoadsB
set_option maxRecDepth 100000
set_option maxHeartbeats 8000000
namespace Go.Proofs.YtpffpjbkbaleiaaGreatDoor
open Go.RowKit
def eV :Nat->Nat->List UInt8
 | 0,n=>[UInt8.ofNat n]
 | f+1,n=>if 127<n then UInt8.ofNat (n%128+128)::eV f (n/128)else [UInt8.ofNat n]
def aO (n:Nat):List UInt8:=eV 10 n
theorem vF : ∀(f n:Nat),(eV f n).length<=f+1
 | 0,_=>by simp[eV]
 | f+1,n=>by
  rw[eV]
  split
  ·have:=vF f (n/128); simp; omega
  ·simp
theorem cJ (n:Nat):(aO n).length<=11:=vF 10 n
def Bn (bs:List UInt8) (w:World) (e:Ending) (w':World):Prop:= ∃v,e= .returned v/\aD (w.heap.size<= ·) w' v bs/\Below w.heap.size w w'
theorem iO {n:Nat} (h:n<256):aw (UInt8.ofNat n)= .int .u8 (n:Int):=by
 unfold aw; rw[UInt8.toNat_ofNat_of_lt' (by exact h)]
theorem uB (b:UInt8): ∀u∈[aw b],u.oneCell'=true:=by simp[aw,Value.oneCell']
theorem qD (n:Nat) (w:World) (hn:n<18446744073709551616):Calls Tryz.prog 103 #[.int .u64 (n:Int)] w (Bn (aO n) w):=by
 have HO:=ag (World.ownsRow_lit (e:=5) (size:=1) (base:=w.heap.size) w #[] 0 (Nat.le_refl _) (Nat.zero_le _) (by simp));have HB:=ag ((Below.refl w.heap.size w).alloc (Nat.le_refl _) (.cells #[] 5))
 go_enter Tryz.func103,Tryz.ntmps103
 go_wp2_with fail
 go_loopw [0,3] (fun x o wr=> ∃(f m:Nat) (acc:List UInt8),x= .int .u64 (m:Int)/\m<18446744073709551616/\m<2^(7*f)/\acc++eV f m=aO n/\wr.ownsRow w.heap.size 5 1 o acc.length (acc.map aw)/\acc.length<=20/\Below w.heap.size w wr) (fun x _ _=>(intOf x).toNat)
 case atStart=>exact⟨10,n,[],rfl,hn,Nat.lt_trans hn (by decide),rfl,HO.out,by simp,HB.out⟩
 case round=>
  obtain⟨f,m,acc,rfl,hm,hmf,henc,hown,hal,hb⟩:=hrel;have HE:=ag henc;have HO2:=ag hown;have HB2:=ag hb;have HMF:=ag hmf;have hbz:=hb.size;obtain⟨ao,co,rfl,h1,h2⟩:=am hown;clear henc hown hb hmf HO HB
  by_cases hlt:127<m
  ·have hv:Value.int .u8 ((m:Int)%128+128)=aw (UInt8.ofNat (m%128+128)):=by rw[iO (by omega)]; simp
   have HV:=ag hv;obtain⟨f,rfl⟩: ∃g,f=g+1:=⟨f-1,by
    cases f with
    | zero=>have:=HMF.out; simp at this; omega
    | succ g=>rfl⟩
   have HE2:=ag (show(acc++[UInt8.ofNat (m%128+128)])++eV f (m/128)=aO n by rw[<-HE.out,eV,if_pos hlt]; simp);have HMF2:=ag (show m/128<2^(7*f) by
    have h3:=HMF.out;rw[show 7*(f+1)=7*f+7 by omega,Nat.pow_add]at h3;exact Nat.div_lt_of_lt_mul (by omega))
   have hal2:acc.length<=10:=by
    have h4:=cJ n;rw[<-HE.out,List.length_append,eV,if_pos hlt,List.length_cons]at h4;omega
   clear hv;go_wp2_with (at_builtin; go_must (refine iu Tryz.appBytes rfl _ _ rfl w.heap.size (.slice ao acc.length co) acc.length (acc.map aw) rfl wr [.int .u8 ((m:Int)%128+128)] _ rfl rfl (by rw[HV.out]; exact uB _) HO2.out (by omega) hbz ?_); intro v' wc hown' hgrow' _; have HB3:=ag (de HB2.out HO2.out hgrow' (Nat.le_refl _) hbz); have HO3:=ag (show wc.ownsRow w.heap.size 5 1 v' (acc++[UInt8.ofNat (m%128+128)]).length ((acc++[UInt8.ofNat (m%128+128)]).map aw) by rw[List.length_append,List.map_append,List.map_cons,List.map_nil,<-HV.out]; exact hown'); obtain⟨ae,ce,rfl,-,-⟩:=am hown'; clear hown' hgrow')
   go_roundw
   case rel=>exact⟨f,m/128,acc++[UInt8.ofNat (m%128+128)],by simp,by omega,HMF2.out,HE2.out,HO3.out,by simp; omega,HB3.out⟩
   case measure=>simp[intOf]; omega
  ·have hv:Value.int .u8 (m:Int)=aw (UInt8.ofNat m):=by rw[iO (by omega)]
   have HV:=ag hv;have HE2:=ag (show acc++[UInt8.ofNat m]=aO n by
    rw[<-HE.out]
    cases f with
    | zero=>rfl
    | succ f=>rw[eV,if_neg hlt])
   clear hv;go_wp2_with (at_builtin; go_must (refine iu Tryz.appBytes rfl _ _ rfl w.heap.size (.slice ao acc.length co) acc.length (acc.map aw) rfl wr [.int .u8 (m:Int)] _ rfl rfl (by rw[HV.out]; exact uB _) HO2.out (by omega) hbz ?_); intro v' wc hown' hgrow' _; have HB3:=ag (de HB2.out HO2.out hgrow' (Nat.le_refl _) hbz); have HO3:=ag (show wc.ownsRow w.heap.size 5 1 v' (acc++[UInt8.ofNat m]).length ((acc++[UInt8.ofNat m]).map aw) by rw[List.length_append,List.map_append,List.map_cons,List.map_nil,<-HV.out]; exact hown'); obtain⟨ae,ce,rfl,-,-⟩:=am hown'; clear hown' hgrow')
   go_ret;rw[<-HE2.out];exact⟨_,rfl,(bi HO3.out).weak (fun k hk=>hk.1),HB3.out⟩
end Go.Proofs.YtpffpjbkbaleiaaGreatDoor
namespace Go.Proofs.YtpffpjbkbaleiaaGreatDoor
open Go.RowKit
def eH :List UInt8->Nat
 | []=>0
 | b::l=>b.toNat%128+128*eH l
def gS (l:List UInt8):Nat:=eH l%18446744073709551616
def gQ (data:List UInt8) (off:Nat):Nat->Nat->Except Int (Nat×Nat)
 | 0,_=> .error 3
 | f+1,k=>match data[off+k]? with
  | none=> .error 3
  | some b=>if 128<=b.toNat then gQ data off f (k+1)
   else if aO (gS ((data.drop off).take (k+1)))=(data.drop off).take (k+1)then .ok (gS ((data.drop off).take (k+1)),off+k+1)else .error 3
theorem tX : ∀l:List UInt8,eH l<2^(7*l.length)
 | []=>by simp[eH]
 | b::l=>by
  have:=tX l;rw[eH,List.length_cons,show 7*(l.length+1)=7*l.length+7 by omega,Nat.pow_add];omega
theorem mW : ∀(l:List UInt8) (b:UInt8),eH (l++[b])=eH l+b.toNat%128*2^(7*l.length)
 | [],b=>by simp[eH]
 | c::l,b=>by
  rw[List.cons_append,eH,mW l b,eH,List.length_cons,show 7*(l.length+1)=7*l.length+7 by omega,Nat.pow_add,Nat.mul_add];have:128*(b.toNat%128*2^(7*l.length))=b.toNat%128*(2^(7*l.length)*2^7):=by
   rw[Nat.mul_left_comm,Nat.mul_comm 128]
  omega
theorem Bg (b:UInt8) (l:List UInt8):gS (b::l)=(gS l*128%18446744073709551616+b.toNat%128)%18446744073709551616:=by
 unfold gS; rw[eH]; omega
theorem wA : ∀(f n:Nat),n<2^(7*(f+1))->eH (eV f n)=n
 | 0,n,h=>by
  have h1:n<128:=h;rw[eV,eH,eH,UInt8.toNat_ofNat_of_lt' (by show n<256; omega)]; omega
 | f+1,n,h=>by
  rw[eV]
  split
  ·rw[eH,wA f (n/128) (by
    rw[show 7*(f+1+1)=7*(f+1)+7 by omega,Nat.pow_add]at h;exact Nat.div_lt_of_lt_mul (by omega)),UInt8.toNat_ofNat_of_lt' (by show _<256; omega)]
   omega
  ·rw[eH,eH,UInt8.toNat_ofNat_of_lt' (by show n<256; omega)]; omega
theorem vp : ∀(f n:Nat) (c:UInt8) (l:List UInt8),0<n->n<2^(7*(f+1))->eV f n=l++[c]->c.toNat≠0
 | 0,n,c,l,h0,h,he=>by
  have h1:n<128:=h;rw[eV]at he;have:c=UInt8.ofNat n:=by
   have:=congrArg List.getLast? he
   simpa using this.symm
  rw[this,UInt8.toNat_ofNat_of_lt' (by show n<256; omega)]; omega
 | f+1,n,c,l,h0,h,he=>by
  rw[eV]at he
  split at he
  ·cases l with
   | nil=>
    simp only[List.nil_append,List.cons.injEq]at he;have:=congrArg List.length he.2;have h3:(eV f (n/128)).length≠0:=by cases f<;> (rw[eV]; try split)<;> simp
    simp at this; exact absurd (by simp[this]) h3
   | cons d l=>
    simp only[List.cons_append,List.cons.injEq]at he;exact vp f (n/128) c l (by omega) (by
     rw[show 7*(f+1+1)=7*(f+1)+7 by omega,Nat.pow_add]at h;exact Nat.div_lt_of_lt_mul (by omega)) he.2
  ·have:c=UInt8.ofNat n:=by
    have:=congrArg List.getLast? he
    simpa using this.symm
   rw[this,UInt8.toNat_ofNat_of_lt' (by show n<256; omega)]; omega
theorem yN : ∀(f:Nat) (l:List UInt8) (c:UInt8),(∀b∈l,128<=b.toNat)->c.toNat<128->(l≠[]->c.toNat≠0)->l.length<=f->eV f (eH (l++[c]))=l++[c]
 | f,[],c,_,h2,_,_=>by
  have hv:eH ([]++[c])=c.toNat:=by simp[eH]; omega
  rw[hv];have hc:UInt8.ofNat c.toNat=c:=UInt8.ofNat_toNat
  cases f with
  | zero=>rw[eV,hc]; rfl
  | succ f=>rw[eV,if_neg (by omega),hc]; rfl
 | 0,b::l,c,_,_,_,h4=>by simp at h4
 | f+1,b::l,c,h1,h2,h3,h4=>by
  have hb:=h1 b (by simp);have hb8:=b.toNat_lt;have hr:=yN f l c (fun x hx=>h1 x (by simp[hx])) h2 (fun _=>h3 (by simp)) (by simpa using h4);have hp:0<eH (l++[c]):=by
   rw[mW];have hc:=h3 (by simp);have:0<c.toNat%128*2^(7*l.length):=Nat.mul_pos (by omega) (Nat.two_pow_pos _);omega
  rw[List.cons_append,eV,eH,if_pos (by omega),show(b.toNat%128+128*eH (l++[c]))/128=eH (l++[c]) by omega,hr,
   show(b.toNat%128+128*eH (l++[c]))%128+128=b.toNat by omega,UInt8.ofNat_toNat]
theorem CM (m x k:Nat) (h:m<2^k):m ||| (x*2^k)=m+x*2^k:=by
 rw[Nat.or_comm,Nat.mul_comm,<-Nat.two_pow_add_eq_or_of_lt h,Nat.add_comm]
theorem CG (m:Nat) (b:UInt8) (k:Nat) (hk:k<=9) (h:m<2^(7*k)):qN m b k=(m+b.toNat%128*2^(7*k))%18446744073709551616:=by
 unfold qN;have hb:b.toNat%128<128:=by omega
 generalize b.toNat%128=x at hb
 by_cases h9:k=9
 ·subst h9;have e:x*2^(7*9)%18446744073709551616=x%2*2^(7*9):=by
   simp only[Nat.reduceMul,Nat.reducePow]; omega
  rw[e,CM _ _ _ h];simp only[Nat.reduceMul,Nat.reducePow]at *;omega
 ·have hp:2^(7*k)*128<=18446744073709551616:=by
   rw[show(128:Nat)=2^7 from rfl,show(18446744073709551616:Nat)=2^64 from rfl,<-Nat.pow_add];exact Nat.pow_le_pow_right (by omega) (by omega)
  have hx:x*2^(7*k)+2^(7*k)<=2^(7*k)*128:=by
   rw[Nat.mul_comm (2^(7*k)),<-Nat.succ_mul]; exact Nat.mul_le_mul_right _ (by omega)
  rw[Nat.mod_eq_of_lt (by omega),CM _ _ _ h,Nat.mod_eq_of_lt (by omega)]
theorem vI (data:List UInt8) (off:Nat): ∀(f k:Nat),k+f=10->(∀b∈(data.drop off).take k,128<=b.toNat)->off+k<=data.length->
  iE data f k (off+k) (eH ((data.drop off).take k))=gQ data off f k
 | 0,_,_,_,_=>rfl
 | f+1,k,hk,hp,hle=>by
  rw[iE,gQ]
  cases hd:data[off+k]? with
  | none=>rfl
  | some b=>
   have hb8:=b.toNat_lt;have hlt:off+k<data.length:=(List.getElem?_eq_some_iff.1 hd).1;have hlen:((data.drop off).take k).length=k:=by simp; omega
   have htk:(data.drop off).take (k+1)=(data.drop off).take k++[b]:=by
    rw[List.take_add_one,List.getElem?_drop,hd]; rfl
   have hm:=tX ((data.drop off).take k);rw[hlen]at hm;have hs:=mW ((data.drop off).take k) b;rw[hlen,<-htk]at hs;have hnn:=CG _ b k (by omega) hm;rw[<-hs]at hnn;simp only
   by_cases h128:128<=b.toNat
   ·rw[if_pos h128,if_pos h128]
    by_cases hf:f=0
    ·subst hf; rfl
    ·have hlt2:eH ((data.drop off).take (k+1))<18446744073709551616:=by
      have:=tX ((data.drop off).take (k+1));refine Nat.lt_of_lt_of_le this ?_;rw[show(18446744073709551616:Nat)=2^64 from rfl];exact Nat.pow_le_pow_right (by omega) (by simp; omega)
     rw[hnn,Nat.mod_eq_of_lt hlt2];have:=vI data off f (k+1) (by omega) (by
      intro x hx;rw[htk,List.mem_append]at hx
      rcases hx with hx | hx
      ·exact hp x hx
      ·simp at hx; subst hx; exact h128) (by omega)
     exact this
   ·rw[if_neg h128,if_neg h128,hnn];have hval:gS ((data.drop off).take (k+1))=eH ((data.drop off).take (k+1))%18446744073709551616:=rfl;have hvl:gS ((data.drop off).take (k+1))<2^(7*(10+1)):=by rw[hval]; exact Nat.lt_trans (Nat.mod_lt _ (by decide)) (by decide)
    by_cases hbad:iD b k=true
    ·rw[if_pos hbad,if_neg];intro he;have h1:=wA 10 _ hvl;rw[show eV 10 _=_ from he]at h1;simp only[iD,Bool.or_eq_true,Bool.and_eq_true,decide_eq_true_eq]at hbad
     rcases hbad with⟨h2,h3⟩ | ⟨h2,h3⟩
     ·have hpos:0<eH ((data.drop off).take (k+1))%18446744073709551616:=by
       rcases Nat.eq_zero_or_pos (eH ((data.drop off).take (k+1))%18446744073709551616)with h0 | h0
       ·exfalso
        rw[hval,h0]at he;have:=congrArg List.length he;simp[aO,eV]at this;omega
       ·exact h0
      exact vp 10 _ b ((data.drop off).take k) (by rw[hval]; exact hpos) hvl (by rw[<-htk]; exact he) h3
     ·subst h2;rw[hs]at h1;have h5:gS ((data.drop off).take (9+1))<18446744073709551616:=by rw[hval]; exact Nat.mod_lt _ (by decide)
      rw[<-h1]at h5;simp only[Nat.reduceMul,Nat.reducePow]at h5;omega
    ·rw[if_neg hbad];have hbad':iD b k=false:=by simpa using hbad
     simp only[iD,Bool.or_eq_false_iff,Bool.and_eq_false_iff,decide_eq_false_iff_not]at hbad';have hsm:eH ((data.drop off).take (k+1))<18446744073709551616:=by
      rw[hs]
      by_cases h9:k=9
      ·subst h9;have: ¬1<b.toNat:=hbad'.2.elim (fun h=>absurd rfl h) id;simp only[Nat.reduceMul,Nat.reducePow]at hm ⊢;omega
      ·have hp:2^(7*k)*128<=18446744073709551616:=by
        rw[show(128:Nat)=2^7 from rfl,show(18446744073709551616:Nat)=2^64 from rfl,<-Nat.pow_add];exact Nat.pow_le_pow_right (by omega) (by omega)
       have hx:b.toNat%128*2^(7*k)+2^(7*k)<=2^(7*k)*128:=by
        rw[Nat.mul_comm (2^(7*k)),<-Nat.succ_mul]; exact Nat.mul_le_mul_right _ (by omega)
       omega
     have hvv:gS ((data.drop off).take (k+1))=eH ((data.drop off).take (k+1)):=by rw[hval,Nat.mod_eq_of_lt hsm]
     have henc:aO (gS ((data.drop off).take (k+1)))=(data.drop off).take (k+1):=by
      rw[hvv,htk];refine yN 10 _ b hp (by omega) ?_ (by omega);intro hne;have:0<k:=by
       rcases Nat.eq_zero_or_pos k with h0 | h0
       ·subst h0; simp at hne
       ·exact h0
      rcases hbad'.1 with h | h
      ·exact absurd this h
      ·exact h
     rw[if_pos henc,Nat.mod_eq_of_lt hsm,hvv]
theorem CD (data:List UInt8) (off:Nat) (h:off<=data.length):et data off=gQ data off 10 0:=by
 have:=vI data off 10 0 rfl (by simp) (by omega)
 simpa [eH,et]using this
end Go.Proofs.YtpffpjbkbaleiaaGreatDoor
namespace Go.Proofs.YtpffpjbkbaleiaaGreatDoor
open Go.RowKit
theorem gC {S:Nat->Prop} {w w':World} {a:Option Addr} {n cap:Nat} {l:List UInt8} (hv:aD S w (.slice a n cap) l) (hb:Below w.heap.size w w') {k:Nat} {x:UInt8} (hx:l[k]? =some x): ∃b o,a=some ⟨b,o,none⟩/\w'.cell? ⟨b,o+k,none⟩=some (.int .u8 (x.toNat:Int)):=by
 obtain⟨hl,a',cap',hv',_,_,h0⟩:=hv
 cases hv'
 rcases h0 with h0 | ⟨b,o,rfl,_,hc⟩
 ·simp[List.eq_nil_of_length_eq_zero h0]at hx
 ·have h1:=hc k (aw x) (by simp[hx]);exact⟨b,o,rfl,(hb.cell (aC h1)).trans h1⟩
theorem zb (l:List UInt8):gS l<18446744073709551616:=Nat.mod_lt _ (by decide)
def gy (r:Except Int (Nat×Nat)):Value:=match r with
 | .ok (n,o)=> .tuple #[.int .u64 (n:Int), .int .i64 (o:Int), .bool true]
 | .error _=> .tuple #[.int .u64 0, .int .i64 0, .bool false]
theorem CH {data:List UInt8} {off f k:Nat} {b:UInt8} (h:data[off+k]? =some b) (h1: ¬128<=b.toNat) (h2:aO (gS ((data.drop off).take (k+1)))≠(data.drop off).take (k+1)):gQ data off (f+1) k= .error 3:=by
 rw[gQ,h]; simp only[if_neg h1,if_neg h2]
theorem ED {data:List UInt8} {off f k:Nat} {b:UInt8} (h:data[off+k]? =some b) (h1: ¬128<=b.toNat) (h2:aO (gS ((data.drop off).take (k+1)))=(data.drop off).take (k+1)):gQ data off (f+1) k= .ok (gS ((data.drop off).take (k+1)),off+(k+1)):=by
 rw[gQ,h]; simp only[if_neg h1,if_pos h2]; rfl
theorem Ae {data:List UInt8} {off f k:Nat} {b:UInt8} (h:data[off+k]? =some b) (h1:128<=b.toNat):gQ data off (f+1) k=gQ data off f (k+1):=by
 rw[gQ,h]; simp only[if_pos h1]
theorem CI {data:List UInt8} {off f k:Nat} (h:data.length<=off+k):gQ data off f k= .error 3:=by
 cases f with
 | zero=>rfl
 | succ f=>rw[gQ,List.getElem?_eq_none h]
theorem wS {α:Type} {l:List α} {j:Nat} {b:α} (h:l[j]? =some b):l.drop j=b::l.drop (j+1):=by
 obtain⟨h1,h2⟩:=List.getElem?_eq_some_iff.1 h;rw[List.drop_eq_getElem_cons h1,h2]
theorem tH (S:Nat->Prop) (v:Value) (data:List UInt8) (off:Nat) (w:World) (hv:aD S w v data) (hoff:off<=data.length) (hsm:data.length<=32768):
  Calls Tryz.prog 144 #[v, .int .i64 (off:Int)] w fun e w'=>e= .returned (gy (gQ data off 10 0))/\Below w.heap.size w w':=by
 have HV:=ag hv;obtain⟨_,a,cap,rfl,hc,hm,-⟩:=hv;unfold maxLen at hm
 go_enter Tryz.func144,Tryz.ntmps144
 go_wp2_with fail
 go_loopw [7] (fun x wr=> ∃n:Nat,1<=n/\n<=11/\x= .int .i64 (n:Int)/\gQ data off 10 0=gQ data off (11-n) (n-1)/\Below w.heap.size w wr) (fun x _=>11-(intOf x).toNat)
 case atStart=>exact⟨1,by omega,by omega,rfl,rfl,Below.refl _ _⟩
 case round=>
  obtain⟨n,hn1,hn2,rfl,hn,hb⟩:=hrel;have HN:=ag hn;have HB:=ag hb;clear hn hb
  by_cases h10:n<=10
  ·by_cases hl:off+n<=data.length
   ·obtain⟨x,hx⟩: ∃x,data[off+n-1]? =some x:=⟨data[off+n-1]'(by omega),by simp⟩;have hx8:=x.toNat_lt;have HX:=ag (show data[off+(n-1)]? =some x by rw[<-hx]; congr 1; omega);obtain⟨b,o,rfl,q0⟩:=gC HV.out HB.out hx;clear hx
    by_cases h128:128<=x.toNat
    ·have HT:=ag (show gQ data off 10 0=gQ data off (11-(n+1)) (n+1-1) by
      rw[HN.out,show 11-n=(10-n)+1 by omega,Ae HX.out h128]; congr 1<;> omega)
     go_wp2_with fail
     go_roundw
     case rel=>exact⟨n+1,by omega,by omega,by go_num,HT.out,HB.out⟩
     case measure=>simp[intOf]; omega
    ·obtain⟨bs,hbs⟩: ∃bs,bs=(data.drop off).take n:=⟨_,rfl⟩;have hbl:bs.length=n:=by rw[hbs]; simp; omega
     have HBL:=ag hbl;have HBI:=ag (show ∀j,j<n->bs[j]? =data[off+j]? by intro j hj; rw[hbs,List.getElem?_take,if_pos hj,List.getElem?_drop]);have HBAD:=ag (show aO (gS bs)≠bs->gQ data off 10 0= .error 3 by
      intro hne;rw[HN.out,show 11-n=(10-n)+1 by omega];refine CH HX.out h128 ?_;rw[show n-1+1=n by omega,<-hbs]; exact hne)
     have HGOOD:=ag (show aO (gS bs)=bs->gQ data off 10 0= .ok (gS bs,off+n) by
      intro he;rw[HN.out,show 11-n=(10-n)+1 by omega,ED HX.out h128 (by rw[show n-1+1=n by omega,<-hbs]; exact he),show n-1+1=n by omega,<-hbs])
     clear hbs hbl;go_wp2_with fail;clear q0
     go_loopw [8,9] (fun y z wr'=> ∃(j:Nat) (i:Int),j<=n/\z= .int .i64 i/\i=(j:Int)-1/\y= .int .u64 (gS (bs.drop j):Int)/\Below w.heap.size w wr') (fun _ z _=>(intOf z+1).toNat)
     case atStart=>exact⟨n,(n:Int)-1,Nat.le_refl _,rfl,rfl,by rw[List.drop_of_length_le (by rw[HBL.out]; exact Nat.le_refl _)]; rfl,HB.out⟩
     case round=>
      obtain⟨j,i,hj,rfl,hi,rfl,hb2⟩:=hrel;have HB2:=ag hb2;clear hb2
      by_cases hj0:j=0
      ·obtain rfl:i= -1:=by omega
       have hdr:bs.drop j=bs:=by rw[hj0]; rfl
       rw[hdr];obtain⟨V,hV⟩: ∃V,V=gS bs:=⟨_,rfl⟩;rw[<-hV];have hVl:V<18446744073709551616:=by rw[hV]; exact zb _
       have HVV:=ag hV;clear hV hdr hi hj0;go_wp2_with (go_at_call 103; refine(qD V _ hVl).mono ?_; rintro e w1 ⟨nv,rfl,hnv,hb3⟩);have HB3:=ag (ai HB2.out hb3);have HVV2:=HVV.out;rw[<-HVV2]at HBAD HGOOD;clear HVV2 hb3;have HNV:=ag hnv;have hel:=cJ V;obtain⟨en,hen⟩: ∃en,en=aO V:=⟨_,rfl⟩;rw[<-hen]at HNV hel HBAD HGOOD hnv;obtain⟨_,na,nc,rfl,hnn1,hnn2,-⟩:=hnv
       unfold maxLen at hnn2;clear hen
       by_cases hl2:en.length=n
       ·have HL2:=ag hl2;rw[hl2]at HNV hnn1 ⊢;clear hl2 hel;go_wp2_with fail
        go_simp
        go_wp2_with fail
        go_loopw [11] (fun z wr'=> ∃j:Nat,j<=n/\z= .int .i64 (j:Int)/\en.take j=bs.take j/\Below w1.heap.size w1 wr') (fun z _=>n-(intOf z).toNat)
        case atStart=>exact⟨0,by omega,rfl,by simp,Below.refl _ _⟩
        case round=>
         obtain⟨j,hj2,rfl,hjt,hb4⟩:=hrel;have HJT:=ag hjt;have HB4:=ag hb4;clear hjt hb4
         by_cases hjn:j<n
         ·obtain⟨c,hc1⟩: ∃c,en[j]? =some c:=⟨en[j]'(by rw[HL2.out]; omega),by simp⟩;obtain⟨y,hy⟩: ∃y,data[off+j]? =some y:=⟨data[off+j]'(by omega),by simp⟩;have HY:=ag (show bs[j]? =some y by rw[HBI.out j hjn]; exact hy);have HC:=ag hc1;have hy8:=y.toNat_lt;have hc8:=c.toNat_lt;obtain⟨W,hW⟩: ∃W:World,W=wr.drew:=⟨_,rfl⟩;have HBW:=ag (show Below w1.heap.size w1 W by rw[hW]; exact HB4.out.drew)
          have HBX:=ag (ai HB3.out HBW.out);obtain⟨b5,o5,hbo5,q0⟩:=gC HV.out HBX.out hy
          cases hbo5
          obtain⟨b6,o6,rfl,q1⟩:=gC HNV.out HBW.out hc1;obtain⟨oj,hoj⟩: ∃oj:Nat,oj=off+j:=⟨_,rfl⟩;have hoj2:oj<data.length:=by omega
          have hwr:IntKind.i64.wrap (oj:Int)=(oj:Int):=IntWalk.i64_in _ (by omega);have hwr2:(off:Int)+(j:Int)=(oj:Int):=by omega
          rw[<-hoj]at q0;clear hoj;clear hc1 hy
          by_cases hm2:c=y
          ·have e1:((c.toNat:Int) != (y.toNat:Int))=false:=by simp[hm2]
           have HT:=ag (show en.take (j+1)=bs.take (j+1) by rw[bZ HC.out,bZ HY.out,HJT.out,hm2]);clear hm2;go_wp2_with fail;refine au [some 11] (by kernel_rfl) (by kernel_rfl) (by kernel_rfl) ?_;simp only[bn,List.take_succ_cons,List.take_zero];rw[<-hW];clear hW
           repeat (first | (refine aI rfl ?_; simp only[Act.put,aE,aF,aG]) | (refine aM rfl (fun K hK=> ?_); go_simp; refine hK _ ?_; clear hK K))
           refine aL ?_;go_wp2_with fail
           go_roundw
           case rel=>exact⟨j+1,by omega,by go_num,HT.out,HBW.out⟩
           case measure=>simp[intOf]; omega
          ·have e1:((c.toNat:Int) != (y.toNat:Int))=true:=by
            simp only[bne_iff_ne,ne_eq]; intro e; exact hm2 (UInt8.toNat_inj.1 (by omega))
           have HT:=ag (HBAD.out (by
            intro e;have h1:=HC.out;rw[e,HY.out]at h1;exact hm2 (Option.some.inj h1).symm))
           clear hm2;go_wp2_with fail;refine au [some 11] (by kernel_rfl) (by kernel_rfl) (by kernel_rfl) ?_;simp only[bn,List.take_succ_cons,List.take_zero];rw[<-hW];clear hW
           repeat (first | (refine aI rfl ?_; simp only[Act.put,aE,aF,aG]) | (refine aM rfl (fun K hK=> ?_); go_simp; refine hK _ ?_; clear hK K))
           refine aL ?_;go_wp2_with fail
           (go_ret3; exact⟨by rw[HT.out]; rfl,HBX.out⟩)
         ·obtain rfl:j=n:=by omega
          have HT:=ag (HGOOD.out (by
           have:=HJT.out
           rwa [List.take_of_length_le (by rw[HL2.out]; exact Nat.le_refl _),List.take_of_length_le (by rw[HBL.out]; exact Nat.le_refl _)]at this))
          go_wp2_with fail
          (go_ret3; exact⟨by rw[HT.out]; rfl,ai HB3.out HB4.out⟩)
       ·have HT:=ag (HBAD.out (by intro e; exact hl2 (by rw[e]; exact HBL.out)));have e1:((en.length:Int) != (n:Int))=true:=by simp; omega
        clear hl2;go_wp2_with fail
        go_simp
        go_wp2_with fail
        (go_ret3; exact⟨by rw[HT.out]; rfl,HB3.out⟩)
      ·obtain⟨j,rfl⟩: ∃j',j=j'+1:=⟨j-1,by omega⟩;obtain rfl:i=(j:Int):=by omega
       obtain⟨y,hy⟩: ∃y,data[off+j]? =some y:=⟨data[off+j]'(by omega),by simp⟩;have hy8:=y.toNat_lt;have HT:=ag (show gS (bs.drop j)=(gS (bs.drop (j+1))*128%18446744073709551616+y.toNat%128)%18446744073709551616 by
        rw[wS (l:=bs) (b:=y) (by rw[HBI.out j (by omega)]; exact hy),Bg])
       obtain⟨b3,o3,hbo,q0⟩:=gC HV.out HB2.out hy
       cases hbo
       obtain⟨V,hV⟩: ∃V,V=gS (bs.drop (j+1)):=⟨_,rfl⟩;have hVl:V<18446744073709551616:=by rw[hV]; exact zb _
       rw[<-hV]at HT ⊢;clear hy hi hV;go_wp2_with fail
       go_roundw
       case rel=>exact⟨j,(j:Int)-1,by omega,by rfl,by omega,by rw[HT.out]; simp only[IntKind.wrap_u64]; congr 1,HB2.out⟩
       case measure=>simp[intOf]
   ·have HT:=ag (show gQ data off 10 0= .error 3 by rw[HN.out]; exact CI (by omega));go_wp2_with fail
    (go_ret3; exact⟨by rw[HT.out]; rfl,HB.out⟩)
  ·have HT:=ag (show gQ data off 10 0= .error 3 by rw[HN.out,show 11-n=0 by omega]; rfl);go_wp2_with fail
   (go_ret3; exact⟨by rw[HT.out]; rfl,HB.out⟩)
end Go.Proofs.YtpffpjbkbaleiaaGreatDoor
namespace Go.Proofs.YtpffpjbkbaleiaaGreatDoor
open Go.RowKit
structure je where
 kind:Int
 u:Nat
 n:Int
 b:Bool
 s:ByteArray
 most:Int
theorem ws (s:ByteArray):Lib.strCells s=(bl s).map aw:=rfl
theorem kP {ops:Array Oper} {rest:List Oper} {o:Oper} {a:Act} {Q:Exit->Act->World->Prop} {w:World} (hgd:o.guard=none) (sl x:Operand)
  (ho:o.op= .call {callee:= .builtin .append,args:= #[sl,x],argTypes:= #[29,9]}) (base:Nat) (v:Value) (acc:List UInt8) (hs:a.eval sl=v) (hown:w.ownsRow base 5 1 v acc.length (acc.map aw)) (s:ByteArray) (hx:a.eval x= .string s)
  (hn:acc.length+s.size<1099511627775) (hbase:base<=w.heap.size)
  (h: ∀v' w',w'.ownsRow base 5 1 v' (acc.length+s.size) (acc.map aw++(bl s).map aw)->w.grownBy w' v.ownBlock->wpList Tryz.prog ops Q rest (a.put o.dst v') w'):wpList Tryz.prog ops Q (o::rest) a w:=by
 obtain⟨ht,⟨i,z,h11,h12,h13,h14,h15⟩,hpos,hsm⟩:=Tryz.appBytes;have hz:i.zero=some (.int .u8 0):=by
  have:(Tryz.prog.info? 5).map (fun i=>i.zero)=some (some (.int .u8 0)):=by kernel_rfl
  rw[h11]at this;exact Option.some.inj this
 refine Lib.wpList_append_own_string w hgd sl x 29 9 ho base 5 i ht Tryz.underlying9 h11 hz h13 h14 v acc.length _ hs hown s hx (by unfold maxLen; omega) (by omega) hbase fun v' w' h1 h2 _=>h v' w' ?_ h2
 rw[<-ws];exact h1
end Go.Proofs.YtpffpjbkbaleiaaGreatDoor
namespace Go.Proofs.YtpffpjbkbaleiaaGreatDoor
open Go.RowKit
def rvV (x:je):Value:= .agg #[.int .i64 x.kind, .int .u64 (x.u:Int), .int .i64 x.n, .bool x.b, .string x.s, .int .i64 x.most]
theorem wrap_u64 (n:Int):IntKind.u64.wrap n=((n%18446744073709551616).toNat:Int):=by rw[IntKind.wrap_u64]; omega
end Go.Proofs.YtpffpjbkbaleiaaGreatDoor
namespace Go.Proofs.YtpffpjbkbaleiaaGreatDoor
open Go.RowKit
def lJ {α:Type} (z:je) (val:α->je) (off:Nat) (r:Except Int (α×Nat)) (w:World) (e:Ending) (w':World):Prop:=
 (match r with
  | .ok (x,o)=>e= .returned (.tuple #[rvV (val x), .int .i64 (o:Int), .int .i64 0])
  | .error y=>e= .returned (.tuple #[rvV z, .int .i64 (off:Int), .int .i64 y]))/\Below w.heap.size w w'
theorem dj (S:Nat->Prop) (v:Value) (data:List UInt8) (off:Nat) (w:World) (hv:aD S w v data) (hoff:off<=data.length) (hsm:data.length<=32768) (r:Except Int (Nat×Nat)) (hr:et data off=r):
  Calls Tryz.prog 144 #[v, .int .i64 (off:Int)] w fun e w'=>e= .returned (gy r)/\Below w.heap.size w w':=by
 rw[<-hr,CD data off hoff]; exact tH S v data off w hv hoff hsm
theorem bO (w:World) (x:Obj):(w.alloc x).heap[w.heap.size]? =some x:=by show(w.heap.push x)[w.heap.size]? =some x; simp
theorem dm (w:World) (x y:Obj):((w.alloc x).alloc y).heap[w.heap.size+1]? =some y:=by
 have:=bO (w.alloc x) y
 rwa [show(w.alloc x).heap.size=w.heap.size+1 by show(w.heap.push x).size=_; simp]at this
theorem ET {w:World} {b:Nat} {a0 a1 a2 a3 a4 a5 x0 x1 x2 x3 x4 x5:Value} {t:TypeId} (h:w.heap[b]? =some (.cells #[a0,a1,a2,a3,a4,a5] t (0,0))):
  ((((((w.setCell ⟨b,0,none⟩ x0).setCell ⟨b,1,none⟩ x1).setCell ⟨b,2,none⟩ x2).setCell ⟨b,3,none⟩ x3).setCell ⟨b,4,none⟩ x4).setCell ⟨b,5,none⟩ x5).heap[b]? =some (.cells #[x0,x1,x2,x3,x4,x5] t (0,0)):=
 cO (cO (cO (cO (cO (cO h x0) x1) x2) x3) x4) x5
theorem qa {a:Act} {w:World} {b:Nat} {x0 x1 x2 x3 x4 x5 e9 e10:Value} (h:w.heap[b]? =some (.cells #[x0,x1,x2,x3,x4,x5] 96 (0,0)))
  (h8:a.tmps[8]? =some (.pointer (some ⟨b,0,none⟩))) (h9:a.tmps[9]? =some e9) (h10:a.tmps[10]? =some e10):(results Tryz.f114 a.tmps).run Tryz.prog w= .ok (.tuple #[.agg #[x0,x1,x2,x3,x4,x5],e9,e10]) w:=by
 have m0:=ak (k:=0) h;have m1:=ak (k:=1) h;have m2:=ak (k:=2) h;have m3:=ak (k:=3) h;have m4:=ak (k:=4) h;have m5:=ak (k:=5) h;simp only[aP]at m0 m1 m2 m3 m4 m5;simp[results,Tryz.results114,go_sem,h8,h9,h10,m0,m1,m2,m3,m4,m5]
theorem eQ {a:Act} {w:World} {b:Nat} {a0 a1 a2 a3 a4 a5 x0 x1 x2 x3 x4 x5 e9 e10:Value} {Q:Ending->World->Prop} (h:w.heap[b]? =some (.cells #[a0,a1,a2,a3,a4,a5] 96 (0,0)))
  (h8:a.tmps[8]? =some (.pointer (some ⟨b,0,none⟩))) (h9:a.tmps[9]? =some e9) (h10:a.tmps[10]? =some e10) (hd:a.defers=[])
  (hQ:Q (.returned (.tuple #[.agg #[x0,x1,x2,x3,x4,x5],e9,e10])) ((((((w.setCell ⟨b,0,none⟩ x0).setCell ⟨b,1,none⟩ x1).setCell ⟨b,2,none⟩ x2).setCell ⟨b,3,none⟩ x3).setCell ⟨b,4,none⟩ x4).setCell ⟨b,5,none⟩ x5)):
  bodyPost Tryz.prog Tryz.f114 Q Exit.ret a ((((((w.setCell ⟨b,0,none⟩ x0).setCell ⟨b,1,none⟩ x1).setCell ⟨b,2,none⟩ x2).setCell ⟨b,3,none⟩ x3).setCell ⟨b,4,none⟩ x4).setCell ⟨b,5,none⟩ x5):=
 bodyPost_ret (qa (ET h) h8 h9 h10) hd hQ
theorem bL {B:Nat} {a w:World} {b k:Nat} {x:Value} (h:Below B a w) (hb:B<=b):Below B a (w.setCell ⟨b,k,none⟩ x):=Below.setCell h hb x
theorem Am (S:Nat->Prop) (v:Value) (data:List UInt8) (off:Nat) (w:World) (hv:aD S w v data) (hoff:off<=data.length) (hsm:data.length<=32768):
  Calls Tryz.prog 114 #[v, .int .i64 (off:Int), .int .i64 1, .int .i64 0] w (lJ ⟨1,0,0,false,⟨#[]⟩,0⟩ (fun n=>⟨1,n,0,false,⟨#[]⟩,0⟩) off (et data off) w):=by
 cases hnum:et data off with
 | error y=>
  obtain rfl:=iV hnum;have HV:=ag hv;obtain⟨_,a,cap,rfl,hc,hm,-⟩:=hv;unfold maxLen at hm
  go_enter Tryz.func114,Tryz.ntmps114
  go_wp2_with fail;obtain⟨W,hW⟩: ∃W:World,W=(w.alloc (.cells #[.int .i64 0, .int .u64 0, .int .i64 0, .bool false, .string ⟨#[]⟩, .int .i64 0] 96)).alloc (.cells #[.int .i64 1, .int .u64 0, .int .i64 0, .bool false, .string ⟨#[]⟩, .int .i64 0] 96):=⟨_,rfl⟩;rw[<-hW];have HB0:=ag (show Below w.heap.size w W by rw[hW]; exact((Below.refl _ _).alloc (Nat.le_refl _) _).alloc (by simp) _)
  have hz8:W.heap[w.heap.size]? =some (.cells #[.int .i64 0, .int .u64 0, .int .i64 0, .bool false, .string ⟨#[]⟩, .int .i64 0] 96 (0,0)):=by rw[hW]; exact cQ (bO _ _) _
  have hz11:W.heap[w.heap.size+1]? =some (.cells #[.int .i64 1, .int .u64 0, .int .i64 0, .bool false, .string ⟨#[]⟩, .int .i64 0] 96 (0,0)):=by rw[hW]; exact dm _ _ _
  refine(dj S _ data off W (HV.out.below (Nat.le_refl _) HB0.out) hoff hsm _ hnum).mono ?_;rintro e w1 ⟨he,hb1⟩;simp only[gy]at he;subst he;have HB1:=ag (ai HB0.out hb1);have HX8:=ag ((hb1.block w.heap.size (lt_of_block hz8)).trans hz8);have HX11:=ag ((hb1.block (w.heap.size+1) (lt_of_block hz11)).trans hz11);have HZ1:=ag (lt_of_block hz11);clear hz8 hz11 hW HB0 hb1
  have q0:=ak (k:=0) HX11.out;have q1:=ak (k:=1) HX11.out;have q2:=ak (k:=2) HX11.out;have q3:=ak (k:=3) HX11.out;have q4:=ak (k:=4) HX11.out;have q5:=ak (k:=5) HX11.out;simp only[aP]at q0 q1 q2 q3 q4 q5;have m0:=ak (k:=0) HX8.out;have m1:=ak (k:=1) HX8.out;have m2:=ak (k:=2) HX8.out;have m3:=ak (k:=3) HX8.out;have m4:=ak (k:=4) HX8.out
  have m5:=ak (k:=5) HX8.out;simp only[aP]at m0 m1 m2 m3 m4 m5;have g1:=aj (k:=1) HX11.out;have g2:=aj (k:=2) HX11.out;have g4:=aj (k:=4) HX11.out;have p0:=aj (k:=0) HX8.out;have p1:=aj (k:=1) HX8.out;have p2:=aj (k:=2) HX8.out;have p3:=aj (k:=3) HX8.out;have p4:=aj (k:=4) HX8.out;have p5:=aj (k:=5) HX8.out;go_wp2_with fail
  refine eQ (b:=w.heap.size) (e9:= .int .i64 (off:Int)) (e10:= .int .i64 3) (HX8.out) (by kernel_rfl) (by kernel_rfl) (by kernel_rfl) (by kernel_rfl) (And.intro (by exact rfl) ?_)
  repeat refine bL ?_ (by omega)
  exact HB1.out
 | ok p=>
  obtain⟨n,o⟩:=p;have hsp:=eu hnum;have HV:=ag hv;obtain⟨_,a,cap,rfl,hc,hm,-⟩:=hv;unfold maxLen at hm
  go_enter Tryz.func114,Tryz.ntmps114
  go_wp2_with fail;obtain⟨W,hW⟩: ∃W:World,W=(w.alloc (.cells #[.int .i64 0, .int .u64 0, .int .i64 0, .bool false, .string ⟨#[]⟩, .int .i64 0] 96)).alloc (.cells #[.int .i64 1, .int .u64 0, .int .i64 0, .bool false, .string ⟨#[]⟩, .int .i64 0] 96):=⟨_,rfl⟩;rw[<-hW];have HB0:=ag (show Below w.heap.size w W by rw[hW]; exact((Below.refl _ _).alloc (Nat.le_refl _) _).alloc (by simp) _)
  have hz8:W.heap[w.heap.size]? =some (.cells #[.int .i64 0, .int .u64 0, .int .i64 0, .bool false, .string ⟨#[]⟩, .int .i64 0] 96 (0,0)):=by rw[hW]; exact cQ (bO _ _) _
  have hz11:W.heap[w.heap.size+1]? =some (.cells #[.int .i64 1, .int .u64 0, .int .i64 0, .bool false, .string ⟨#[]⟩, .int .i64 0] 96 (0,0)):=by rw[hW]; exact dm _ _ _
  refine(dj S _ data off W (HV.out.below (Nat.le_refl _) HB0.out) hoff hsm _ hnum).mono ?_;rintro e w1 ⟨he,hb1⟩;simp only[gy]at he;subst he;have HB1:=ag (ai HB0.out hb1);have HX8:=ag ((hb1.block w.heap.size (lt_of_block hz8)).trans hz8);have HX11:=ag ((hb1.block (w.heap.size+1) (lt_of_block hz11)).trans hz11);have HZ1:=ag (lt_of_block hz11);clear hz8 hz11 hW HB0 hb1
  have q0:=ak (k:=0) HX11.out;have q1:=ak (k:=1) HX11.out;have q2:=ak (k:=2) HX11.out;have q3:=ak (k:=3) HX11.out;have q4:=ak (k:=4) HX11.out;have q5:=ak (k:=5) HX11.out;simp only[aP]at q0 q1 q2 q3 q4 q5;have m0:=ak (k:=0) HX8.out;have m1:=ak (k:=1) HX8.out;have m2:=ak (k:=2) HX8.out;have m3:=ak (k:=3) HX8.out;have m4:=ak (k:=4) HX8.out
  have m5:=ak (k:=5) HX8.out;simp only[aP]at m0 m1 m2 m3 m4 m5;have g1:=aj (k:=1) HX11.out;have g2:=aj (k:=2) HX11.out;have g4:=aj (k:=4) HX11.out;have p0:=aj (k:=0) HX8.out;have p1:=aj (k:=1) HX8.out;have p2:=aj (k:=2) HX8.out;have p3:=aj (k:=3) HX8.out;have p4:=aj (k:=4) HX8.out;have p5:=aj (k:=5) HX8.out;go_wp2_with fail
  refine eQ (b:=w.heap.size) (e9:= .int .i64 (o:Int)) (e10:= .int .i64 0) (bh HX8.out (by omega) _) (by kernel_rfl) (by kernel_rfl) (by kernel_rfl) (by kernel_rfl) (And.intro (by exact rfl) ?_)
  repeat refine bL ?_ (by omega)
  exact HB1.out
theorem vq {data:List UInt8} {off most:Nat} {y:Int} (h:et data off= .error y):dO data off most= .error y:=by unfold dO; rw[h]
theorem rW {data:List UInt8} {off most n o:Nat} (h:et data off= .ok (n,o)) (hn:most<n):dO data off most= .error 2:=by unfold dO; rw[h]; simp only[if_pos hn]
theorem yK {data:List UInt8} {off most n o:Nat} (h:et data off= .ok (n,o)) (hn: ¬most<n):dO data off most= .ok (n,o):=by unfold dO; rw[h]; simp only[if_neg hn]
theorem Ap (S:Nat->Prop) (v:Value) (data:List UInt8) (off most:Nat) (w:World) (hv:aD S w v data) (hoff:off<=data.length) (hsm:data.length<=32768) (hmost:most<=32768):
  Calls Tryz.prog 114 #[v, .int .i64 (off:Int), .int .i64 7, .int .i64 (most:Int)] w (lJ ⟨7,0,0,false,⟨#[]⟩,most⟩ (fun n:Nat=>⟨7,0,(n:Int),false,⟨#[]⟩,most⟩) off (dO data off most) w):=by
 cases hnum:et data off with
 | error y=>
  obtain rfl:=iV hnum;rw[vq hnum];have HV:=ag hv;obtain⟨_,a,cap,rfl,hc,hm,-⟩:=hv;unfold maxLen at hm
  go_enter Tryz.func114,Tryz.ntmps114
  go_wp2_with fail;obtain⟨W,hW⟩: ∃W:World,W=(w.alloc (.cells #[.int .i64 0, .int .u64 0, .int .i64 0, .bool false, .string ⟨#[]⟩, .int .i64 0] 96)).alloc (.cells #[.int .i64 7, .int .u64 0, .int .i64 0, .bool false, .string ⟨#[]⟩, .int .i64 (most:Int)] 96):=⟨_,rfl⟩;rw[<-hW];have HB0:=ag (show Below w.heap.size w W by rw[hW]; exact((Below.refl _ _).alloc (Nat.le_refl _) _).alloc (by simp) _)
  have hz8:W.heap[w.heap.size]? =some (.cells #[.int .i64 0, .int .u64 0, .int .i64 0, .bool false, .string ⟨#[]⟩, .int .i64 0] 96 (0,0)):=by rw[hW]; exact cQ (bO _ _) _
  have hz11:W.heap[w.heap.size+1]? =some (.cells #[.int .i64 7, .int .u64 0, .int .i64 0, .bool false, .string ⟨#[]⟩, .int .i64 (most:Int)] 96 (0,0)):=by rw[hW]; exact dm _ _ _
  refine(dj S _ data off W (HV.out.below (Nat.le_refl _) HB0.out) hoff hsm _ hnum).mono ?_;rintro e w1 ⟨he,hb1⟩;simp only[gy]at he;subst he;have HB1:=ag (ai HB0.out hb1);have HX8:=ag ((hb1.block w.heap.size (lt_of_block hz8)).trans hz8);have HX11:=ag ((hb1.block (w.heap.size+1) (lt_of_block hz11)).trans hz11);have HZ1:=ag (lt_of_block hz11);clear hz8 hz11 hW HB0 hb1
  have q0:=ak (k:=0) HX11.out;have q1:=ak (k:=1) HX11.out;have q2:=ak (k:=2) HX11.out;have q3:=ak (k:=3) HX11.out;have q4:=ak (k:=4) HX11.out;have q5:=ak (k:=5) HX11.out;simp only[aP]at q0 q1 q2 q3 q4 q5;have m0:=ak (k:=0) HX8.out;have m1:=ak (k:=1) HX8.out;have m2:=ak (k:=2) HX8.out;have m3:=ak (k:=3) HX8.out;have m4:=ak (k:=4) HX8.out
  have m5:=ak (k:=5) HX8.out;simp only[aP]at m0 m1 m2 m3 m4 m5;have g1:=aj (k:=1) HX11.out;have g2:=aj (k:=2) HX11.out;have g4:=aj (k:=4) HX11.out;have p0:=aj (k:=0) HX8.out;have p1:=aj (k:=1) HX8.out;have p2:=aj (k:=2) HX8.out;have p3:=aj (k:=3) HX8.out;have p4:=aj (k:=4) HX8.out;have p5:=aj (k:=5) HX8.out;go_wp2_with fail
  refine eQ (b:=w.heap.size) (e9:= .int .i64 (off:Int)) (e10:= .int .i64 3) (HX8.out) (by kernel_rfl) (by kernel_rfl) (by kernel_rfl) (by kernel_rfl) (And.intro (by exact rfl) ?_)
  repeat refine bL ?_ (by omega)
  exact HB1.out
 | ok p=>
  obtain⟨n,o⟩:=p;have hsp:=eu hnum
  by_cases hn:most<n
  ·rw[rW hnum hn];have HV:=ag hv;obtain⟨_,a,cap,rfl,hc,hm,-⟩:=hv;unfold maxLen at hm
   go_enter Tryz.func114,Tryz.ntmps114
   go_wp2_with fail;obtain⟨W,hW⟩: ∃W:World,W=(w.alloc (.cells #[.int .i64 0, .int .u64 0, .int .i64 0, .bool false, .string ⟨#[]⟩, .int .i64 0] 96)).alloc (.cells #[.int .i64 7, .int .u64 0, .int .i64 0, .bool false, .string ⟨#[]⟩, .int .i64 (most:Int)] 96):=⟨_,rfl⟩;rw[<-hW];have HB0:=ag (show Below w.heap.size w W by rw[hW]; exact((Below.refl _ _).alloc (Nat.le_refl _) _).alloc (by simp) _)
   have hz8:W.heap[w.heap.size]? =some (.cells #[.int .i64 0, .int .u64 0, .int .i64 0, .bool false, .string ⟨#[]⟩, .int .i64 0] 96 (0,0)):=by rw[hW]; exact cQ (bO _ _) _
   have hz11:W.heap[w.heap.size+1]? =some (.cells #[.int .i64 7, .int .u64 0, .int .i64 0, .bool false, .string ⟨#[]⟩, .int .i64 (most:Int)] 96 (0,0)):=by rw[hW]; exact dm _ _ _
   refine(dj S _ data off W (HV.out.below (Nat.le_refl _) HB0.out) hoff hsm _ hnum).mono ?_;rintro e w1 ⟨he,hb1⟩;simp only[gy]at he;subst he;have HB1:=ag (ai HB0.out hb1);have HX8:=ag ((hb1.block w.heap.size (lt_of_block hz8)).trans hz8);have HX11:=ag ((hb1.block (w.heap.size+1) (lt_of_block hz11)).trans hz11);have HZ1:=ag (lt_of_block hz11);clear hz8 hz11 hW HB0 hb1
   have q0:=ak (k:=0) HX11.out;have q1:=ak (k:=1) HX11.out;have q2:=ak (k:=2) HX11.out;have q3:=ak (k:=3) HX11.out;have q4:=ak (k:=4) HX11.out;have q5:=ak (k:=5) HX11.out;simp only[aP]at q0 q1 q2 q3 q4 q5;have m0:=ak (k:=0) HX8.out;have m1:=ak (k:=1) HX8.out;have m2:=ak (k:=2) HX8.out;have m3:=ak (k:=3) HX8.out;have m4:=ak (k:=4) HX8.out
   have m5:=ak (k:=5) HX8.out;simp only[aP]at m0 m1 m2 m3 m4 m5;have g1:=aj (k:=1) HX11.out;have g2:=aj (k:=2) HX11.out;have g4:=aj (k:=4) HX11.out;have p0:=aj (k:=0) HX8.out;have p1:=aj (k:=1) HX8.out;have p2:=aj (k:=2) HX8.out;have p3:=aj (k:=3) HX8.out;have p4:=aj (k:=4) HX8.out;have p5:=aj (k:=5) HX8.out
   go_wp2_with fail;refine eQ (b:=w.heap.size) (e9:= .int .i64 (off:Int)) (e10:= .int .i64 2) (HX8.out) (by kernel_rfl) (by kernel_rfl) (by kernel_rfl) (by kernel_rfl) (And.intro (by exact rfl) ?_)
   repeat refine bL ?_ (by omega)
   exact HB1.out
  ·rw[yK hnum hn];have HV:=ag hv;obtain⟨_,a,cap,rfl,hc,hm,-⟩:=hv;unfold maxLen at hm
   go_enter Tryz.func114,Tryz.ntmps114
   go_wp2_with fail;obtain⟨W,hW⟩: ∃W:World,W=(w.alloc (.cells #[.int .i64 0, .int .u64 0, .int .i64 0, .bool false, .string ⟨#[]⟩, .int .i64 0] 96)).alloc (.cells #[.int .i64 7, .int .u64 0, .int .i64 0, .bool false, .string ⟨#[]⟩, .int .i64 (most:Int)] 96):=⟨_,rfl⟩;rw[<-hW];have HB0:=ag (show Below w.heap.size w W by rw[hW]; exact((Below.refl _ _).alloc (Nat.le_refl _) _).alloc (by simp) _)
   have hz8:W.heap[w.heap.size]? =some (.cells #[.int .i64 0, .int .u64 0, .int .i64 0, .bool false, .string ⟨#[]⟩, .int .i64 0] 96 (0,0)):=by rw[hW]; exact cQ (bO _ _) _
   have hz11:W.heap[w.heap.size+1]? =some (.cells #[.int .i64 7, .int .u64 0, .int .i64 0, .bool false, .string ⟨#[]⟩, .int .i64 (most:Int)] 96 (0,0)):=by rw[hW]; exact dm _ _ _
   refine(dj S _ data off W (HV.out.below (Nat.le_refl _) HB0.out) hoff hsm _ hnum).mono ?_;rintro e w1 ⟨he,hb1⟩;simp only[gy]at he;subst he;have HB1:=ag (ai HB0.out hb1);have HX8:=ag ((hb1.block w.heap.size (lt_of_block hz8)).trans hz8);have HX11:=ag ((hb1.block (w.heap.size+1) (lt_of_block hz11)).trans hz11);have HZ1:=ag (lt_of_block hz11);clear hz8 hz11 hW HB0 hb1
   have q0:=ak (k:=0) HX11.out;have q1:=ak (k:=1) HX11.out;have q2:=ak (k:=2) HX11.out;have q3:=ak (k:=3) HX11.out;have q4:=ak (k:=4) HX11.out;have q5:=ak (k:=5) HX11.out;simp only[aP]at q0 q1 q2 q3 q4 q5;have m0:=ak (k:=0) HX8.out;have m1:=ak (k:=1) HX8.out;have m2:=ak (k:=2) HX8.out;have m3:=ak (k:=3) HX8.out;have m4:=ak (k:=4) HX8.out
   have m5:=ak (k:=5) HX8.out;simp only[aP]at m0 m1 m2 m3 m4 m5;have g1:=aj (k:=1) HX11.out;have g2:=aj (k:=2) HX11.out;have g4:=aj (k:=4) HX11.out;have p0:=aj (k:=0) HX8.out;have p1:=aj (k:=1) HX8.out;have p2:=aj (k:=2) HX8.out;have p3:=aj (k:=3) HX8.out;have p4:=aj (k:=4) HX8.out;have p5:=aj (k:=5) HX8.out
   go_wp2_with fail;refine eQ (b:=w.heap.size) (e9:= .int .i64 (o:Int)) (e10:= .int .i64 0) (bh HX8.out (by omega) _) (by kernel_rfl) (by kernel_rfl) (by kernel_rfl) (by kernel_rfl) (And.intro (by exact rfl) ?_)
   repeat refine bL ?_ (by omega)
   exact HB1.out
end Go.Proofs.YtpffpjbkbaleiaaGreatDoor
namespace Go.Proofs.YtpffpjbkbaleiaaGreatDoor
open Go.RowKit
theorem sH {data:List UInt8} {off n:Nat} (h:data.length-off<n):cP data off n= .error 3:=by unfold cP; rw[if_pos h]
theorem wv {data:List UInt8} {off n:Nat} (h: ¬data.length-off<n):cP data off n= .ok ((data.drop off).take n,off+n):=by unfold cP; rw[if_neg h]
theorem kY {S:Nat->Prop} {w w':World} {a:Addr} {len cap:Nat} {data:List UInt8} (hv:aD S w (.slice (some a) len cap) data) (hb:Below w.heap.size w w') {off n c:Nat} (hn:off+n<=data.length) (hc:n<=c):
  (convert 29 9 (.slice (some ⟨a.block,a.off+off,none⟩) n c)).run Tryz.prog w'= .ok (.string ⟨((data.drop off).take n).toArray⟩) w':=by
 have hl:((data.drop off).take n).length=n:=by simp; omega
 have h:=tn (w:=w') (rb:=a.block+1) (pv:= .slice (some ⟨a.block,a.off+off,none⟩) n c) (bs:=(data.drop off).take n) ⟨a.block,a.off+off,c,by rw[hl],by omega,by omega,fun j b hj=>by
  rw[List.getElem?_take]at hj
  split at hj
  ·rw[List.getElem?_drop]at hj;obtain⟨b',o',he,hq⟩:=gC hv hb hj
   cases he
   rw[Nat.add_assoc];exact hq
  ·cases hj⟩
 exact h
theorem Ao (S:Nat->Prop) (v:Value) (data:List UInt8) (off:Nat) (w:World) (hv:aD S w v data) (hoff:off<=data.length) (hsm:data.length<=32768):
  Calls Tryz.prog 114 #[v, .int .i64 (off:Int), .int .i64 6, .int .i64 0] w (lJ ⟨6,0,0,false,⟨#[]⟩,0⟩ (fun bs:List UInt8=>⟨6,0,0,false,⟨bs.toArray⟩,0⟩) off (cP data off 32) w):=by
 have HB1:=ag (((Below.refl w.heap.size w).alloc (Nat.le_refl _) (.cells #[.int .i64 0, .int .u64 0, .int .i64 0, .bool false, .string ⟨#[]⟩, .int .i64 0] 96)).alloc (by simp) (.cells #[.int .i64 6, .int .u64 0, .int .i64 0, .bool false, .string ⟨#[]⟩, .int .i64 0] 96));have HX8:=ag (cQ (bO w (.cells #[.int .i64 0, .int .u64 0, .int .i64 0, .bool false, .string ⟨#[]⟩, .int .i64 0] 96)) (.cells #[.int .i64 6, .int .u64 0, .int .i64 0, .bool false, .string ⟨#[]⟩, .int .i64 0] 96))
 have HV:=ag hv;obtain⟨_,a,cap,rfl,hc,hm,-⟩:=hv;unfold maxLen at hm
 by_cases h32:data.length-off<32
 ·rw[sH h32]
  go_enter Tryz.func114,Tryz.ntmps114
  go_wp2_with fail;refine bodyPost_ret (qa (b:=w.heap.size) (e9:= .int .i64 ((off:Int))) (e10:= .int .i64 3) (cQ (bO _ _) _) (by kernel_rfl) (by kernel_rfl) (by kernel_rfl)) (by kernel_rfl) (And.intro (by exact rfl) ?_);exact((Below.refl w.heap.size w).alloc (Nat.le_refl _) _).alloc (by simp) _
 ·rw[wv h32];obtain⟨x,hx⟩: ∃x,data[off]? =some x:=⟨data[off]'(by omega),by simp⟩;obtain⟨b,o,rfl,-⟩:=gC HV.out HB1.out hx;have hcv:=kY HV.out HB1.out (off:=off) (n:=32) (c:=cap-off) (by omega) (by omega)
  go_enter Tryz.func114,Tryz.ntmps114
  go_wp2_with fail;refine bodyPost_ret (qa (b:=w.heap.size) (e9:= .int .i64 ((off:Int)+32)) (e10:= .int .i64 0) (cQ (bO _ _) _) (by kernel_rfl) (by kernel_rfl) (by kernel_rfl)) (by kernel_rfl) (And.intro (by exact rfl) ?_);exact((Below.refl w.heap.size w).alloc (Nat.le_refl _) _).alloc (by simp) _
theorem oJ {data:List UInt8} {off most:Nat} {y:Int} (h:dO data off most= .error y):cE data off most= .error y:=by unfold cE; rw[h]
theorem zr {data:List UInt8} {off most n o:Nat} (h:dO data off most= .ok (n,o)):cE data off most=cP data o n:=by unfold cE; rw[h]
theorem An (S:Nat->Prop) (v:Value) (data:List UInt8) (off most:Nat) (w:World) (hv:aD S w v data) (hoff:off<=data.length) (hsm:data.length<=32768) (hmost:most<=32768):
  Calls Tryz.prog 114 #[v, .int .i64 (off:Int), .int .i64 5, .int .i64 (most:Int)] w (lJ ⟨5,0,0,false,⟨#[]⟩,most⟩ (fun bs:List UInt8=>⟨5,0,0,false,⟨bs.toArray⟩,most⟩) off (cE data off most) w):=by
 cases hnum:et data off with
 | error y=>
  obtain rfl:=iV hnum;rw[oJ (vq hnum)];have HV:=ag hv;obtain⟨_,a,cap,rfl,hc,hm,-⟩:=hv;unfold maxLen at hm
  go_enter Tryz.func114,Tryz.ntmps114
  go_wp2_with fail;obtain⟨W,hW⟩: ∃W:World,W=(w.alloc (.cells #[.int .i64 0, .int .u64 0, .int .i64 0, .bool false, .string ⟨#[]⟩, .int .i64 0] 96)).alloc (.cells #[.int .i64 5, .int .u64 0, .int .i64 0, .bool false, .string ⟨#[]⟩, .int .i64 (most:Int)] 96):=⟨_,rfl⟩;rw[<-hW];have HB0:=ag (show Below w.heap.size w W by rw[hW]; exact((Below.refl _ _).alloc (Nat.le_refl _) _).alloc (by simp) _)
  have hz8:W.heap[w.heap.size]? =some (.cells #[.int .i64 0, .int .u64 0, .int .i64 0, .bool false, .string ⟨#[]⟩, .int .i64 0] 96 (0,0)):=by rw[hW]; exact cQ (bO _ _) _
  have hz11:W.heap[w.heap.size+1]? =some (.cells #[.int .i64 5, .int .u64 0, .int .i64 0, .bool false, .string ⟨#[]⟩, .int .i64 (most:Int)] 96 (0,0)):=by rw[hW]; exact dm _ _ _
  refine(dj S _ data off W (HV.out.below (Nat.le_refl _) HB0.out) hoff hsm _ hnum).mono ?_;rintro e w1 ⟨he,hb1⟩;simp only[gy]at he;subst he;have HB1:=ag (ai HB0.out hb1);have HX8:=ag ((hb1.block w.heap.size (lt_of_block hz8)).trans hz8);have HX11:=ag ((hb1.block (w.heap.size+1) (lt_of_block hz11)).trans hz11);have HZ1:=ag (lt_of_block hz11);clear hz8 hz11 hW HB0 hb1
  have q0:=ak (k:=0) HX11.out;have q1:=ak (k:=1) HX11.out;have q2:=ak (k:=2) HX11.out;have q3:=ak (k:=3) HX11.out;have q4:=ak (k:=4) HX11.out;have q5:=ak (k:=5) HX11.out;simp only[aP]at q0 q1 q2 q3 q4 q5;have m0:=ak (k:=0) HX8.out;have m1:=ak (k:=1) HX8.out;have m2:=ak (k:=2) HX8.out;have m3:=ak (k:=3) HX8.out;have m4:=ak (k:=4) HX8.out
  have m5:=ak (k:=5) HX8.out;simp only[aP]at m0 m1 m2 m3 m4 m5;have g1:=aj (k:=1) HX11.out;have g2:=aj (k:=2) HX11.out;have g4:=aj (k:=4) HX11.out;have p0:=aj (k:=0) HX8.out;have p1:=aj (k:=1) HX8.out;have p2:=aj (k:=2) HX8.out;have p3:=aj (k:=3) HX8.out;have p4:=aj (k:=4) HX8.out;have p5:=aj (k:=5) HX8.out;go_wp2_with fail
  refine eQ (b:=w.heap.size) (e9:= .int .i64 (off:Int)) (e10:= .int .i64 3) (HX8.out) (by kernel_rfl) (by kernel_rfl) (by kernel_rfl) (by kernel_rfl) (And.intro (by exact rfl) ?_)
  repeat refine bL ?_ (by omega)
  exact HB1.out
 | ok p=>
  obtain⟨n,o⟩:=p;have hsp:=eu hnum
  by_cases hn:most<n
  ·rw[oJ (rW hnum hn)];have HV:=ag hv;obtain⟨_,a,cap,rfl,hc,hm,-⟩:=hv;unfold maxLen at hm
   go_enter Tryz.func114,Tryz.ntmps114
   go_wp2_with fail;obtain⟨W,hW⟩: ∃W:World,W=(w.alloc (.cells #[.int .i64 0, .int .u64 0, .int .i64 0, .bool false, .string ⟨#[]⟩, .int .i64 0] 96)).alloc (.cells #[.int .i64 5, .int .u64 0, .int .i64 0, .bool false, .string ⟨#[]⟩, .int .i64 (most:Int)] 96):=⟨_,rfl⟩;rw[<-hW];have HB0:=ag (show Below w.heap.size w W by rw[hW]; exact((Below.refl _ _).alloc (Nat.le_refl _) _).alloc (by simp) _)
   have hz8:W.heap[w.heap.size]? =some (.cells #[.int .i64 0, .int .u64 0, .int .i64 0, .bool false, .string ⟨#[]⟩, .int .i64 0] 96 (0,0)):=by rw[hW]; exact cQ (bO _ _) _
   have hz11:W.heap[w.heap.size+1]? =some (.cells #[.int .i64 5, .int .u64 0, .int .i64 0, .bool false, .string ⟨#[]⟩, .int .i64 (most:Int)] 96 (0,0)):=by rw[hW]; exact dm _ _ _
   refine(dj S _ data off W (HV.out.below (Nat.le_refl _) HB0.out) hoff hsm _ hnum).mono ?_;rintro e w1 ⟨he,hb1⟩;simp only[gy]at he;subst he;have HB1:=ag (ai HB0.out hb1);have HX8:=ag ((hb1.block w.heap.size (lt_of_block hz8)).trans hz8);have HX11:=ag ((hb1.block (w.heap.size+1) (lt_of_block hz11)).trans hz11);have HZ1:=ag (lt_of_block hz11);clear hz8 hz11 hW HB0 hb1
   have q0:=ak (k:=0) HX11.out;have q1:=ak (k:=1) HX11.out;have q2:=ak (k:=2) HX11.out;have q3:=ak (k:=3) HX11.out;have q4:=ak (k:=4) HX11.out;have q5:=ak (k:=5) HX11.out;simp only[aP]at q0 q1 q2 q3 q4 q5;have m0:=ak (k:=0) HX8.out;have m1:=ak (k:=1) HX8.out;have m2:=ak (k:=2) HX8.out;have m3:=ak (k:=3) HX8.out;have m4:=ak (k:=4) HX8.out
   have m5:=ak (k:=5) HX8.out;simp only[aP]at m0 m1 m2 m3 m4 m5;have g1:=aj (k:=1) HX11.out;have g2:=aj (k:=2) HX11.out;have g4:=aj (k:=4) HX11.out;have p0:=aj (k:=0) HX8.out;have p1:=aj (k:=1) HX8.out;have p2:=aj (k:=2) HX8.out;have p3:=aj (k:=3) HX8.out;have p4:=aj (k:=4) HX8.out;have p5:=aj (k:=5) HX8.out
   go_wp2_with fail;refine eQ (b:=w.heap.size) (e9:= .int .i64 (off:Int)) (e10:= .int .i64 2) (HX8.out) (by kernel_rfl) (by kernel_rfl) (by kernel_rfl) (by kernel_rfl) (And.intro (by exact rfl) ?_)
   repeat refine bL ?_ (by omega)
   exact HB1.out
  ·rw[zr (yK hnum hn)];have hcw:IntKind.u64.wrap ((data.length:Int)-(o:Int))=(data.length:Int)-(o:Int):=by rw[IntKind.wrap_u64]; omega
   by_cases hle:data.length-o<n
   ·rw[sH hle];have HV:=ag hv;obtain⟨_,a,cap,rfl,hc,hm,-⟩:=hv;unfold maxLen at hm
    go_enter Tryz.func114,Tryz.ntmps114
    go_wp2_with fail;obtain⟨W,hW⟩: ∃W:World,W=(w.alloc (.cells #[.int .i64 0, .int .u64 0, .int .i64 0, .bool false, .string ⟨#[]⟩, .int .i64 0] 96)).alloc (.cells #[.int .i64 5, .int .u64 0, .int .i64 0, .bool false, .string ⟨#[]⟩, .int .i64 (most:Int)] 96):=⟨_,rfl⟩;rw[<-hW];have HB0:=ag (show Below w.heap.size w W by rw[hW]; exact((Below.refl _ _).alloc (Nat.le_refl _) _).alloc (by simp) _)
    have hz8:W.heap[w.heap.size]? =some (.cells #[.int .i64 0, .int .u64 0, .int .i64 0, .bool false, .string ⟨#[]⟩, .int .i64 0] 96 (0,0)):=by rw[hW]; exact cQ (bO _ _) _
    have hz11:W.heap[w.heap.size+1]? =some (.cells #[.int .i64 5, .int .u64 0, .int .i64 0, .bool false, .string ⟨#[]⟩, .int .i64 (most:Int)] 96 (0,0)):=by rw[hW]; exact dm _ _ _
    refine(dj S _ data off W (HV.out.below (Nat.le_refl _) HB0.out) hoff hsm _ hnum).mono ?_;rintro e w1 ⟨he,hb1⟩;simp only[gy]at he;subst he;have HB1:=ag (ai HB0.out hb1);have HX8:=ag ((hb1.block w.heap.size (lt_of_block hz8)).trans hz8);have HX11:=ag ((hb1.block (w.heap.size+1) (lt_of_block hz11)).trans hz11);have HZ1:=ag (lt_of_block hz11);clear hz8 hz11 hW HB0 hb1
    have q0:=ak (k:=0) HX11.out;have q1:=ak (k:=1) HX11.out;have q2:=ak (k:=2) HX11.out;have q3:=ak (k:=3) HX11.out;have q4:=ak (k:=4) HX11.out;have q5:=ak (k:=5) HX11.out;simp only[aP]at q0 q1 q2 q3 q4 q5;have m0:=ak (k:=0) HX8.out;have m1:=ak (k:=1) HX8.out;have m2:=ak (k:=2) HX8.out;have m3:=ak (k:=3) HX8.out;have m4:=ak (k:=4) HX8.out
    have m5:=ak (k:=5) HX8.out;simp only[aP]at m0 m1 m2 m3 m4 m5;have g1:=aj (k:=1) HX11.out;have g2:=aj (k:=2) HX11.out;have g4:=aj (k:=4) HX11.out;have p0:=aj (k:=0) HX8.out;have p1:=aj (k:=1) HX8.out;have p2:=aj (k:=2) HX8.out;have p3:=aj (k:=3) HX8.out;have p4:=aj (k:=4) HX8.out;have p5:=aj (k:=5) HX8.out
    go_wp2_with fail;refine eQ (b:=w.heap.size) (e9:= .int .i64 (off:Int)) (e10:= .int .i64 3) (HX8.out) (by kernel_rfl) (by kernel_rfl) (by kernel_rfl) (by kernel_rfl) (And.intro (by exact rfl) ?_)
    repeat refine bL ?_ (by omega)
    exact HB1.out
   ·rw[wv hle];obtain⟨x,hx⟩: ∃x,data[off]? =some x:=⟨data[off]'(by omega),by simp⟩;have HXX:=ag hx;clear hx;have HV:=ag hv;obtain⟨_,a,cap,rfl,hc,hm,-⟩:=hv;unfold maxLen at hm
    go_enter Tryz.func114,Tryz.ntmps114
    go_wp2_with fail;obtain⟨W,hW⟩: ∃W:World,W=(w.alloc (.cells #[.int .i64 0, .int .u64 0, .int .i64 0, .bool false, .string ⟨#[]⟩, .int .i64 0] 96)).alloc (.cells #[.int .i64 5, .int .u64 0, .int .i64 0, .bool false, .string ⟨#[]⟩, .int .i64 (most:Int)] 96):=⟨_,rfl⟩;rw[<-hW];have HB0:=ag (show Below w.heap.size w W by rw[hW]; exact((Below.refl _ _).alloc (Nat.le_refl _) _).alloc (by simp) _)
    have hz8:W.heap[w.heap.size]? =some (.cells #[.int .i64 0, .int .u64 0, .int .i64 0, .bool false, .string ⟨#[]⟩, .int .i64 0] 96 (0,0)):=by rw[hW]; exact cQ (bO _ _) _
    have hz11:W.heap[w.heap.size+1]? =some (.cells #[.int .i64 5, .int .u64 0, .int .i64 0, .bool false, .string ⟨#[]⟩, .int .i64 (most:Int)] 96 (0,0)):=by rw[hW]; exact dm _ _ _
    refine(dj S _ data off W (HV.out.below (Nat.le_refl _) HB0.out) hoff hsm _ hnum).mono ?_;rintro e w1 ⟨he,hb1⟩;simp only[gy]at he;subst he;have HB1:=ag (ai HB0.out hb1);have HX8:=ag ((hb1.block w.heap.size (lt_of_block hz8)).trans hz8);have HX11:=ag ((hb1.block (w.heap.size+1) (lt_of_block hz11)).trans hz11);have HZ1:=ag (lt_of_block hz11);clear hz8 hz11 hW HB0 hb1
    have q0:=ak (k:=0) HX11.out;have q1:=ak (k:=1) HX11.out;have q2:=ak (k:=2) HX11.out;have q3:=ak (k:=3) HX11.out;have q4:=ak (k:=4) HX11.out;have q5:=ak (k:=5) HX11.out;simp only[aP]at q0 q1 q2 q3 q4 q5;have m0:=ak (k:=0) HX8.out;have m1:=ak (k:=1) HX8.out;have m2:=ak (k:=2) HX8.out;have m3:=ak (k:=3) HX8.out;have m4:=ak (k:=4) HX8.out
    have m5:=ak (k:=5) HX8.out;simp only[aP]at m0 m1 m2 m3 m4 m5;have g1:=aj (k:=1) HX11.out;have g2:=aj (k:=2) HX11.out;have g4:=aj (k:=4) HX11.out;have p0:=aj (k:=0) HX8.out;have p1:=aj (k:=1) HX8.out;have p2:=aj (k:=2) HX8.out;have p3:=aj (k:=3) HX8.out;have p4:=aj (k:=4) HX8.out;have p5:=aj (k:=5) HX8.out
    obtain⟨b,ao,rfl,-⟩:=gC HV.out HB1.out HXX.out
    by_cases hco:cap=o
    ·obtain rfl:n=0:=by omega
     have hcv:=kY HV.out HB1.out (off:=0) (n:=0) (c:=0) (by omega) (by omega);simp only[Nat.add_zero]at hcv;subst hco;go_wp2_with fail;refine eQ (b:=w.heap.size) (e9:= .int .i64 (cap:Int)) (e10:= .int .i64 0) (bh HX8.out (by omega) _) (by kernel_rfl) (by kernel_rfl) (by kernel_rfl) (by kernel_rfl) (And.intro (by exact rfl) ?_)
     repeat refine bL ?_ (by omega)
     exact HB1.out
    ·have hcv:=kY HV.out HB1.out (off:=o) (n:=n) (c:=cap-o) (by omega) (by omega);have hco2: ¬o=cap:=fun h=>hco h.symm
     have hco3: ¬cap-o=0:=by omega
     go_wp2_with fail;refine eQ (b:=w.heap.size) (e9:= .int .i64 ((o:Int)+(n:Int):Int)) (e10:= .int .i64 0) (bh HX8.out (by omega) _) (by kernel_rfl) (by kernel_rfl) (by kernel_rfl) (by kernel_rfl) (And.intro (by exact rfl) ?_)
     repeat refine bL ?_ (by omega)
     exact HB1.out
end Go.Proofs.YtpffpjbkbaleiaaGreatDoor
namespace Go.Proofs.YtpffpjbkbaleiaaGreatDoor
open Go.RowKit
structure cB (w : World) (rb : Nat) (v : Value) (data : List UInt8) (s : RS) : Prop where
 box:w.heap[rb]? =some (.cells #[v, .int .i64 (s.off:Int), .int .i64 (s.last:Int), .int .i64 s.err] 112 (0,0))
 row:aT (· ≠rb) w 1 v data.length (data.map aw)
 le:s.off<=data.length
 small:data.length<=32768
theorem cB.lt {w:World} {rb:Nat} {v:Value} {data:List UInt8} {s:RS} (h:cB w rb v data s):rb<w.heap.size:=lt_of_block h.box
theorem cB.below {w w':World} {rb:Nat} {v:Value} {data:List UInt8} {s:RS} (h:cB w rb v data s) (hb:Below w.heap.size w w'):cB w' rb v data s:=
 ⟨by rw[hb.block _ h.lt]; exact h.box,h.row.below (by omega) hb,h.le,h.small⟩
theorem cB.grown {w w':World} {rb:Nat} {v:Value} {data:List UInt8} {s s':RS} (h:cB w rb v data s) (hg:w.grownBy w' (some rb)) (hbox:w'.heap[rb]? =some (.cells #[v, .int .i64 (s'.off:Int), .int .i64 (s'.last:Int), .int .i64 s'.err] 112 (0,0))) (hle:s'.off<=data.length):cB w' rb v data s':=
 ⟨hbox,((h.row.mono (T:=fun k=>k≠rb/\k<w.heap.size) (fun k hk hS=>⟨hS,hk⟩) (by omega)).same (fun k hk=>hg.block k hk.2 (fun e=>hk.1 (by simpa using e)))).weak (fun k hk=>hk.1),hle,h.small⟩
theorem cB.fin {w wf:World} {rb:Nat} {v:Value} {data:List UInt8} {s s':RS} (h:cB w rb v data s) (hg:w.grownBy wf (some rb)) (hbox:wf.heap[rb]? =some (.cells #[v, .int .i64 (s'.off:Int), .int .i64 (s'.last:Int), .int .i64 s'.err] 112 (0,0))) (hle:s'.off<=data.length) {b:Nat} (hb:w.heap.size<=b) {x0 x1 x2 x3 x4 x5:Value} :
  cB ((((((wf.setCell ⟨b,0,none⟩ x0).setCell ⟨b,1,none⟩ x1).setCell ⟨b,2,none⟩ x2).setCell ⟨b,3,none⟩ x3).setCell ⟨b,4,none⟩ x4).setCell ⟨b,5,none⟩ x5) rb v data s'/\
  w.grownBy ((((((wf.setCell ⟨b,0,none⟩ x0).setCell ⟨b,1,none⟩ x1).setCell ⟨b,2,none⟩ x2).setCell ⟨b,3,none⟩ x3).setCell ⟨b,4,none⟩ x4).setCell ⟨b,5,none⟩ x5) (some rb):=by
 have hlt:=h.lt;have hne:rb≠b:=by omega
 have h6:=cg (cg (cg (cg (cg (cg hg hb (k:=0) x0) hb (k:=1) x1) hb (k:=2) x2) hb (k:=3) x3) hb (k:=4) x4) hb (k:=5) x5;exact⟨h.grown h6 (bh (bh (bh (bh (bh (bh hbox hne _) hne _) hne _) hne _) hne _) hne _) hle,h6⟩
def rr {α:Type} (z:je) (val:α->je) (r:Except Int (α×Nat)) (s:RS):je×RS:=if s.err=0 then match r with
 | .ok (x,o)=>(val x,⟨o,s.off,0⟩)
 | .error y=>(z,⟨s.off,s.last,y⟩)else(z,s)
def kT (p:je×RS) (rb:Nat) (v:Value) (data:List UInt8) (w:World) (e:Ending) (w':World):Prop:=e= .returned (rvV p.1)/\cB w' rb v data p.2/\w.grownBy w' (some rb)
theorem yQ {a:Act} {w:World} {b:Nat} {x0 x1 x2 x3 x4 x5:Value} (h:w.heap[b]? =some (.cells #[x0,x1,x2,x3,x4,x5] 96 (0,0)))
  (h6:a.tmps[6]? =some (.pointer (some ⟨b,0,none⟩))):(results Tryz.f65 a.tmps).run Tryz.prog w= .ok (.agg #[x0,x1,x2,x3,x4,x5]) w:=by
 have m0:=ak (k:=0) h;have m1:=ak (k:=1) h;have m2:=ak (k:=2) h;have m3:=ak (k:=3) h;have m4:=ak (k:=4) h;have m5:=ak (k:=5) h;simp only[aP]at m0 m1 m2 m3 m4 m5;simp[results,Tryz.results65,go_sem,h6,m0,m1,m2,m3,m4,m5]
theorem ov {a:Act} {w:World} {b:Nat} {a0 a1 a2 a3 a4 a5 x0 x1 x2 x3 x4 x5:Value} {Q:Ending->World->Prop} (h:w.heap[b]? =some (.cells #[a0,a1,a2,a3,a4,a5] 96 (0,0)))
  (h6:a.tmps[6]? =some (.pointer (some ⟨b,0,none⟩))) (hd:a.defers=[])
  (hQ:Q (.returned (.agg #[x0,x1,x2,x3,x4,x5])) ((((((w.setCell ⟨b,0,none⟩ x0).setCell ⟨b,1,none⟩ x1).setCell ⟨b,2,none⟩ x2).setCell ⟨b,3,none⟩ x3).setCell ⟨b,4,none⟩ x4).setCell ⟨b,5,none⟩ x5)):
  bodyPost Tryz.prog Tryz.f65 Q Exit.ret a ((((((w.setCell ⟨b,0,none⟩ x0).setCell ⟨b,1,none⟩ x1).setCell ⟨b,2,none⟩ x2).setCell ⟨b,3,none⟩ x3).setCell ⟨b,4,none⟩ x4).setCell ⟨b,5,none⟩ x5):=
 bodyPost_ret (yQ (ET h) h6) hd hQ
theorem yG {P:Program} {ops:Array Oper} {Q:Exit->Act->World->Prop} {S:World->Prop} {dst:Option Tmp} {op:Op} {ty:TypeId} {pos:String} {aft:Array Edge} {g:Option (Nat×Bool)} {fuel:Nat} {listed:Array Bool} {a:Act} {w:World} (i:Nat) (hi:ops[i]? =some ⟨dst,op,ty,pos,aft,g⟩)
  (hw:Region.wanted ⟨dst,op,ty,pos,aft,g⟩ (yielded ops a.tmps)=true)
  (h: ∀K:Act->World->Prop,(∀a w,S w/\lF P ops Q S fuel (listed.setIfInBounds i true) a w->K a w)->wpList P #[] (Exit.then K Q) [⟨dst,op,ty,pos, #[],none⟩] a w):
  wpOp P ops Q i (fun a' w'=>S w'/\wpAnyH P .any ops Q S fuel (listed.setIfInBounds i true) a' w') a w:=by
 have hb:oa P ops (fun a' w'=>S w'/\wpAnyH P .any ops Q S fuel (listed.setIfInBounds i true) a' w') Q [⟨dst,op,ty,pos,aft,g⟩] a w:=
  bC hw (fun K hK=>h K (fun a w hh=>hK a w ⟨hh.1,hh.2.out⟩))
 unfold wpOp;simp only[hi];exact oa.out hb
theorem BK {B:Nat} {a w:World} {b:Nat} {x0 x1 x2 x3 x4 x5:Value} (h:Below B a w) (hb:B<=b):Below B a ((((((w.setCell ⟨b,0,none⟩ x0).setCell ⟨b,1,none⟩ x1).setCell ⟨b,2,none⟩ x2).setCell ⟨b,3,none⟩ x3).setCell ⟨b,4,none⟩ x4).setCell ⟨b,5,none⟩ x5):=
 bL (bL (bL (bL (bL (bL h hb) hb) hb) hb) hb) hb
theorem tI {w:World} {b c:Nat} {o:Obj} {x0 x1 x2 x3 x4 x5:Value} (h:w.heap[c]? =some o) (hne:c≠b):((((((w.setCell ⟨b,0,none⟩ x0).setCell ⟨b,1,none⟩ x1).setCell ⟨b,2,none⟩ x2).setCell ⟨b,3,none⟩ x3).setCell ⟨b,4,none⟩ x4).setCell ⟨b,5,none⟩ x5).heap[c]? =some o:=
 bh (bh (bh (bh (bh (bh h hne _) hne _) hne _) hne _) hne _) hne _
def lO (q:je) (o':Nat) (er:Int) (K most:Int) (s:RS):je×RS:=if er=0 then(q,⟨o',s.off,0⟩)else(⟨K,0,0,false,⟨#[]⟩,most⟩,⟨s.off,s.last,er⟩)
theorem re (rb:Nat) (v:Value) (data:List UInt8) (s:RS) (K most:Int) (q:je) (o':Nat) (er:Int) (w:World) (hr:cB w rb v data s) (hK:(K == 0)=false) (he:s.err=0) (ho:o'<=data.length)
  (hrd: ∀W,aD (· ≠rb) W v data->Calls Tryz.prog 114 #[v, .int .i64 (s.off:Int), .int .i64 K, .int .i64 most] W fun e w'=>e= .returned (.tuple #[rvV q, .int .i64 (o':Int), .int .i64 er])/\Below W.heap.size W w'):
  Calls Tryz.prog 65 #[.pointer (some ⟨rb,0,none⟩), .int .i64 K, .int .i64 most] w (kT (lO q o' er K most s) rb v data w):=by
 obtain⟨qk,qu,qn,qb,qs,qm⟩:=q;have HR:=ag hr;have hlt:=hr.lt;have HE:=ag he;have HRD:=ag hrd;have c3:=ak (k:=3) hr.box;simp only[aP]at c3;rw[he]at c3;clear hr hrd he
 go_enter Tryz.func65,Tryz.ntmps65
 go_wp2_with fail;obtain⟨W,hW⟩: ∃W:World,W=(w.alloc (.cells #[.int .i64 0, .int .u64 0, .int .i64 0, .bool false, .string ⟨#[]⟩, .int .i64 0] 96)).alloc (.cells #[.int .i64 K, .int .u64 0, .int .i64 0, .bool false, .string ⟨#[]⟩, .int .i64 most] 96):=⟨_,rfl⟩;rw[<-hW];have HB0:=ag (show Below w.heap.size w W by rw[hW]; exact((Below.refl _ _).alloc (Nat.le_refl _) _).alloc (by simp) _)
 have HZ8:=ag (show W.heap[w.heap.size]? =some (.cells #[.int .i64 0, .int .u64 0, .int .i64 0, .bool false, .string ⟨#[]⟩, .int .i64 0] 96 (0,0)) by rw[hW]; exact cQ (bO _ _) _);have HZ11:=ag (show W.heap[w.heap.size+1]? =some (.cells #[.int .i64 K, .int .u64 0, .int .i64 0, .bool false, .string ⟨#[]⟩, .int .i64 most] 96 (0,0)) by rw[hW]; exact dm _ _ _);clear hW c3
 refine cH (fun w'=>w'.cell? ⟨rb,0,none⟩=some v/\w'.cell? ⟨rb,1,none⟩=some (.int .i64 (s.off:Int))) (by kernel_rfl) ?_;obtain⟨W2,hW2⟩: ∃W2:World,W2=W.drew:=⟨_,rfl⟩;rw[<-hW2];have hbw:Below W.heap.size W W2:=by rw[hW2]; exact(Below.refl _ _).drew
 have HB2:=ag (ai HB0.out hbw);have HR2:=ag (HR.out.below HB2.out);have HY8:=ag ((hbw.block _ (lt_of_block HZ8.out)).trans HZ8.out);have HY11:=ag ((hbw.block _ (lt_of_block HZ11.out)).trans HZ11.out);clear hW2 hbw HZ8 HZ11 HB0;have c0:=ak (k:=0) HR2.out.box;have c1:=ak (k:=1) HR2.out.box;have c2:=ak (k:=2) HR2.out.box;have c3:=ak (k:=3) HR2.out.box;simp only[aP]at c0 c1 c2 c3
 refine ah 0 rfl (by kernel_rfl) (by kernel_rfl) (by kernel_rfl) (fun _ _ _ h=>h) rfl (by go_simp) (by rintro w' ⟨hw1,hw2⟩; go_simp; rfl) ?_;simp only[Act.put,aE,aF,aG];refine ah 1 rfl (by kernel_rfl) (by kernel_rfl) (by kernel_rfl) (fun _ _ _ h=>h) rfl (by go_simp) (by rintro w' ⟨hw1,hw2⟩; go_simp; rfl) ?_;simp only[Act.put,aE,aF,aG];refine ah 2 rfl (by kernel_rfl) (by kernel_rfl) (by kernel_rfl) (fun _ _ _ h=>h) rfl (by go_simp) (by rintro w' ⟨hw1,hw2⟩; go_simp; rfl) ?_
 simp only[Act.put,aE,aF,aG];refine ah 3 rfl (by kernel_rfl) (by kernel_rfl) (by kernel_rfl) (fun _ _ _ h=>h) rfl (by go_simp) (by rintro w' ⟨hw1,hw2⟩; go_simp; rfl) ?_;simp only[Act.put,aE,aF,aG];refine ah 4 rfl (by kernel_rfl) (by kernel_rfl) (by kernel_rfl) (fun _ _ _ h=>h) rfl (by go_simp) (by rintro w' ⟨hw1,hw2⟩; go_simp; rfl) ?_;simp only[Act.put,aE,aF,aG]
 refine ah 5 rfl (by kernel_rfl) (by kernel_rfl) (by kernel_rfl) (fun _ _ _ h=>h) rfl (by go_simp) (by rintro w' ⟨hw1,hw2⟩; go_simp; rfl) ?_;simp only[Act.put,aE,aF,aG];refine ah 6 rfl (by kernel_rfl) (by kernel_rfl) (by kernel_rfl) (fun _ _ _ h=>h) rfl (by go_simp) (by rintro w' ⟨hw1,hw2⟩; go_simp; rfl) ?_;simp only[Act.put,aE,aF,aG];refine ah 7 rfl (by kernel_rfl) (by kernel_rfl) (by kernel_rfl) (fun _ _ _ h=>h) rfl (by go_simp) (by rintro w' ⟨hw1,hw2⟩; go_simp; rfl) ?_
 simp only[Act.put,aE,aF,aG];refine ah 8 rfl (by kernel_rfl) (by kernel_rfl) (by kernel_rfl) (fun _ _ _ h=>h) rfl (by go_simp) (by rintro w' ⟨hw1,hw2⟩; go_simp; rfl) ?_;simp only[Act.put,aE,aF,aG];refine ah 9 rfl (by kernel_rfl) (by kernel_rfl) (by kernel_rfl) (fun _ _ _ h=>h) rfl (by go_simp) (by rintro w' ⟨hw1,hw2⟩; go_simp; rfl) ?_;simp only[Act.put,aE,aF,aG]
 refine lF.of (wpAnyH_all (rs:=[10,15]) (by kernel_rfl) (by simp) fun j hj=> ?_);simp only[List.mem_cons,List.not_mem_nil,or_false]at hj
 rcases hj with rfl | rfl
 ·refine yG 10 rfl rfl (fun K hK=> ?_);go_wp2_with (go_at_call 114; refine(HRD.out _ HR2.out.row).mono ?_; rintro e w1 ⟨rfl,hb1⟩; simp only[rvV]);have HB3:=ag (ai HB2.out hb1);have HR3:=ag (HR.out.below HB3.out);have HX8:=ag ((hb1.block _ (lt_of_block HY8.out)).trans HY8.out);have HX11:=ag ((hb1.block _ (lt_of_block HY11.out)).trans HY11.out);clear c0 c1 c2 c3;have c0:=ak (k:=0) HR3.out.box
  have c1:=ak (k:=1) HR3.out.box;have c2:=ak (k:=2) HR3.out.box;have c3:=ak (k:=3) HR3.out.box;simp only[aP]at c0 c1 c2 c3;refine⟨⟨c0,c1⟩, ?_⟩;refine ah 11 rfl (by kernel_rfl) (by kernel_rfl) (by kernel_rfl) (fun _ _ _ h=>h) rfl (by go_simp) (by rintro w' ⟨hw1,hw2⟩; go_simp; rfl) ?_;simp only[Act.put,aE,aF,aG];refine ah 12 rfl (by kernel_rfl) (by kernel_rfl) (by kernel_rfl) (fun _ _ _ h=>h) rfl (by go_simp) (by rintro w' ⟨hw1,hw2⟩; go_simp; rfl) ?_
  simp only[Act.put,aE,aF,aG];refine ah 13 rfl (by kernel_rfl) (by kernel_rfl) (by kernel_rfl) (fun _ _ _ h=>h) rfl (by go_simp) (by rintro w' ⟨hw1,hw2⟩; go_simp; rfl) ?_;simp only[Act.put,aE,aF,aG];refine ah 14 rfl (by kernel_rfl) (by kernel_rfl) (by kernel_rfl) (fun _ _ _ h=>h) rfl (by go_simp) (by rintro w' ⟨hw1,hw2⟩; go_simp; rfl) ?_;simp only[Act.put,aE,aF,aG]
  refine ay 15 rfl (by kernel_rfl) rfl (fun K hK=> ?_);go_wp2_with fail;obtain⟨w2,hw2⟩: ∃w2,w2=w1.alloc (.cells #[.int .i64 0, .int .u64 0, .int .i64 0, .bool false, .string ⟨#[]⟩, .int .i64 0] 96):=⟨_,rfl⟩;rw[<-hw2];have hb2:Below w1.heap.size w1 w2:=by rw[hw2]; exact(Below.refl _ _).alloc (Nat.le_refl _) _
  have HN8:=ag (show w2.heap[w1.heap.size]? =some (.cells #[.int .i64 0, .int .u64 0, .int .i64 0, .bool false, .string ⟨#[]⟩, .int .i64 0] 96 (0,0)) by rw[hw2]; exact bO _ _);obtain⟨b8,hb8⟩: ∃b8,b8=w1.heap.size:=⟨_,rfl⟩;have HL8:=ag (show w.heap.size+1<b8 by rw[hb8]; exact lt_of_block HX11.out);rw[<-hb8]at HN8 ⊢;clear hw2 hb8;have HB4:=ag (ai HB3.out hb2)
  have HR4:=ag (HR.out.below HB4.out);have HW8:=ag ((hb2.block _ (lt_of_block HX8.out)).trans HX8.out);have HW11:=ag ((hb2.block _ (lt_of_block HX11.out)).trans HX11.out);clear c0 c1 c2 c3;have c0:=ak (k:=0) HR4.out.box;have c1:=ak (k:=1) HR4.out.box;have c2:=ak (k:=2) HR4.out.box;have c3:=ak (k:=3) HR4.out.box;simp only[aP]at c0 c1 c2 c3;refine⟨⟨c0,c1⟩, ?_⟩
  have m0:=ak (k:=0) HN8.out;have m1:=ak (k:=1) HN8.out;have m2:=ak (k:=2) HN8.out;have m3:=ak (k:=3) HN8.out;have m4:=ak (k:=4) HN8.out;have m5:=ak (k:=5) HN8.out;simp only[aP]at m0 m1 m2 m3 m4 m5;have p0:=aj (k:=0) HN8.out;have p1:=aj (k:=1) HN8.out;have p2:=aj (k:=2) HN8.out;have p3:=aj (k:=3) HN8.out;have p4:=aj (k:=4) HN8.out
  have p5:=aj (k:=5) HN8.out;refine ay 16 rfl (by kernel_rfl) rfl (fun K hK=> ?_);go_wp2_with fail;obtain⟨wf,hwf⟩: ∃wf,wf=((((((w2.setCell ⟨b8,0,none⟩ (.int .i64 qk)).setCell ⟨b8,1,none⟩ (.int .u64 (qu:Int))).setCell ⟨b8,2,none⟩ (.int .i64 qn)).setCell ⟨b8,3,none⟩ (.bool qb)).setCell ⟨b8,4,none⟩ (.string qs)).setCell ⟨b8,5,none⟩ (.int .i64 qm)):=⟨_,rfl⟩;rw[<-hwf]
  have HBF:=ag (show Below w.heap.size w wf by rw[hwf]; exact BK HB4.out (by have:=HL8.out; omega));have HF8:=ag (show wf.heap[w.heap.size]? =some _ by rw[hwf]; exact tI HW8.out (by have:=HL8.out; omega));have HF11:=ag (show wf.heap[w.heap.size+1]? =some _ by rw[hwf]; exact tI HW11.out (by have:=HL8.out; omega));have HFN:=ag (show wf.heap[b8]? =some _ by rw[hwf]; exact ET HN8.out)
  have HFR:=ag (HR.out.below HBF.out);clear hwf m0 m1 m2 m3 m4 m5 p0 p1 p2 p3 p4 p5 c0 c1 c2 c3;have c0:=ak (k:=0) HFR.out.box;have c1:=ak (k:=1) HFR.out.box;have c2:=ak (k:=2) HFR.out.box;have c3:=ak (k:=3) HFR.out.box;simp only[aP]at c0 c1 c2 c3;refine⟨⟨c0,c1⟩, ?_⟩;refine ah 17 rfl (by kernel_rfl) (by kernel_rfl) (by kernel_rfl) (fun _ _ _ h=>h) rfl (by go_simp) (by rintro w' ⟨hw1,hw2⟩; go_simp; rfl) ?_
  simp only[Act.put,aE,aF,aG];refine ah 18 rfl (by kernel_rfl) (by kernel_rfl) (by kernel_rfl) (fun _ _ _ h=>h) rfl (by go_simp) (by rintro w' ⟨hw1,hw2⟩; go_simp; rfl) ?_;simp only[Act.put,aE,aF,aG];refine aV (by kernel_rfl) ?_;rw[HE.out]at c3;have f1:=aj (k:=1) HFR.out.box;have f2:=aj (k:=2) HFR.out.box;have f3:=aj (k:=3) HFR.out.box;have m0:=ak (k:=0) HF8.out
  have m1:=ak (k:=1) HF8.out;have m2:=ak (k:=2) HF8.out;have m3:=ak (k:=3) HF8.out;have m4:=ak (k:=4) HF8.out;have m5:=ak (k:=5) HF8.out;simp only[aP]at m0 m1 m2 m3 m4 m5;have p0:=aj (k:=0) HF8.out;have p1:=aj (k:=1) HF8.out;have p2:=aj (k:=2) HF8.out;have p3:=aj (k:=3) HF8.out;have p4:=aj (k:=4) HF8.out;have p5:=aj (k:=5) HF8.out
  have k0:=ak (k:=0) HF11.out;have k1:=ak (k:=1) HF11.out;have k2:=ak (k:=2) HF11.out;have k3:=ak (k:=3) HF11.out;have k4:=ak (k:=4) HF11.out;have k5:=ak (k:=5) HF11.out;simp only[aP]at k0 k1 k2 k3 k4 k5;have n0:=ak (k:=0) HFN.out;have n1:=ak (k:=1) HFN.out;have n2:=ak (k:=2) HFN.out;have n3:=ak (k:=3) HFN.out;have n4:=ak (k:=4) HFN.out
  have n5:=ak (k:=5) HFN.out;simp only[aP]at n0 n1 n2 n3 n4 n5
  by_cases hz:er=0
  ·subst hz;have hl1:rb≠w.heap.size:=by omega
   have hl2:rb≠b8:=by have:=HL8.out; omega
   have hl3:b8≠w.heap.size:=by have:=HL8.out; omega
   go_wp2_with fail;refine ov (b:=w.heap.size) (bh (bh HF8.out hl1.symm _) hl1.symm _) (by kernel_rfl) (by kernel_rfl) ?_;have hfin:=HR.out.fin (wf:=(wf.setCell ⟨rb,2,none⟩ (.int .i64 (s.off:Int))).setCell ⟨rb,1,none⟩ (.int .i64 (o':Int))) (s':=⟨o',s.off,0⟩) (b:=w.heap.size) (an (an (aX HBF.out _) (aH _ _ _ _)) (aH _ _ _ _)) (by
    have h1:=tR (x:= .int .i64 (o':Int)) (tS (x:= .int .i64 (s.off:Int)) HFR.out.box);rw[HE.out]at h1;exact h1) ho (Nat.le_refl _) (x0:= .int .i64 qk) (x1:= .int .u64 (qu:Int)) (x2:= .int .i64 qn) (x3:= .bool qb) (x4:= .string qs) (x5:= .int .i64 qm)
   exact⟨by exact rfl,hfin.1,hfin.2⟩
  ·have e1:(er != 0)=true:=by simp[hz]
   have HZ:=ag hz;have hl1:rb≠w.heap.size:=by omega
   clear hz;go_wp2_with fail;refine ov (b:=w.heap.size) (bh HF8.out hl1.symm _) (by kernel_rfl) (by kernel_rfl) ?_;have hfin:=HR.out.fin (wf:=wf.setCell ⟨rb,3,none⟩ (.int .i64 er)) (s':=⟨s.off,s.last,er⟩) (b:=w.heap.size) (an (aX HBF.out _) (aH _ _ _ _)) (tT HFR.out.box) HR.out.le (Nat.le_refl _) (x0:= .int .i64 K) (x1:= .int .u64 0) (x2:= .int .i64 0) (x3:= .bool false) (x4:= .string ⟨#[]⟩) (x5:= .int .i64 most)
   have hcp:lO ⟨qk,qu,qn,qb,qs,qm⟩ o' er K most s=(⟨K,0,0,false,⟨#[]⟩,most⟩,⟨s.off,s.last,er⟩):=by unfold lO; rw[if_neg HZ.out]
   rw[hcp];exact⟨by exact rfl,hfin.1,hfin.2⟩
 ·refine yG 15 rfl rfl (fun K hK=> ?_);go_wp2_with fail;obtain⟨w2,hw2⟩: ∃w2,w2=W2.alloc (.cells #[.int .i64 0, .int .u64 0, .int .i64 0, .bool false, .string ⟨#[]⟩, .int .i64 0] 96):=⟨_,rfl⟩;rw[<-hw2];have hb2:Below W2.heap.size W2 w2:=by rw[hw2]; exact(Below.refl _ _).alloc (Nat.le_refl _) _
  have HN7:=ag (show w2.heap[W2.heap.size]? =some (.cells #[.int .i64 0, .int .u64 0, .int .i64 0, .bool false, .string ⟨#[]⟩, .int .i64 0] 96 (0,0)) by rw[hw2]; exact bO _ _);obtain⟨b8,hb8⟩: ∃b8,b8=W2.heap.size:=⟨_,rfl⟩;have HL8:=ag (show w.heap.size+1<b8 by rw[hb8]; exact lt_of_block HY11.out);rw[<-hb8]at HN7 ⊢;clear hw2 hb8;have HB3:=ag (ai HB2.out hb2)
  have HR3:=ag (HR.out.below HB3.out);have HX8:=ag ((hb2.block _ (lt_of_block HY8.out)).trans HY8.out);have HX11:=ag ((hb2.block _ (lt_of_block HY11.out)).trans HY11.out);clear c0 c1 c2 c3;have c0:=ak (k:=0) HR3.out.box;have c1:=ak (k:=1) HR3.out.box;have c2:=ak (k:=2) HR3.out.box;have c3:=ak (k:=3) HR3.out.box;simp only[aP]at c0 c1 c2 c3;refine⟨⟨c0,c1⟩, ?_⟩
  refine ay 10 rfl (by kernel_rfl) rfl (fun K hK=> ?_);go_wp2_with (go_at_call 114; refine(HRD.out _ HR3.out.row).mono ?_; rintro e w1 ⟨rfl,hb1⟩; simp only[rvV]);have HN8:=ag ((hb1.block _ (lt_of_block HN7.out)).trans HN7.out);have HB4:=ag (ai HB3.out hb1);have HR4:=ag (HR.out.below HB4.out);have HW8:=ag ((hb1.block _ (lt_of_block HX8.out)).trans HX8.out);have HW11:=ag ((hb1.block _ (lt_of_block HX11.out)).trans HX11.out)
  clear c0 c1 c2 c3;have c0:=ak (k:=0) HR4.out.box;have c1:=ak (k:=1) HR4.out.box;have c2:=ak (k:=2) HR4.out.box;have c3:=ak (k:=3) HR4.out.box;simp only[aP]at c0 c1 c2 c3;refine⟨⟨c0,c1⟩, ?_⟩;refine ah 11 rfl (by kernel_rfl) (by kernel_rfl) (by kernel_rfl) (fun _ _ _ h=>h) rfl (by go_simp) (by rintro w' ⟨hw1,hw2⟩; go_simp; rfl) ?_;simp only[Act.put,aE,aF,aG]
  refine ah 12 rfl (by kernel_rfl) (by kernel_rfl) (by kernel_rfl) (fun _ _ _ h=>h) rfl (by go_simp) (by rintro w' ⟨hw1,hw2⟩; go_simp; rfl) ?_;simp only[Act.put,aE,aF,aG];refine ah 13 rfl (by kernel_rfl) (by kernel_rfl) (by kernel_rfl) (fun _ _ _ h=>h) rfl (by go_simp) (by rintro w' ⟨hw1,hw2⟩; go_simp; rfl) ?_;simp only[Act.put,aE,aF,aG];refine ah 14 rfl (by kernel_rfl) (by kernel_rfl) (by kernel_rfl) (fun _ _ _ h=>h) rfl (by go_simp) (by rintro w' ⟨hw1,hw2⟩; go_simp; rfl) ?_
  simp only[Act.put,aE,aF,aG];have m0:=ak (k:=0) HN8.out;have m1:=ak (k:=1) HN8.out;have m2:=ak (k:=2) HN8.out;have m3:=ak (k:=3) HN8.out;have m4:=ak (k:=4) HN8.out;have m5:=ak (k:=5) HN8.out;simp only[aP]at m0 m1 m2 m3 m4 m5;have p0:=aj (k:=0) HN8.out;have p1:=aj (k:=1) HN8.out;have p2:=aj (k:=2) HN8.out;have p3:=aj (k:=3) HN8.out
  have p4:=aj (k:=4) HN8.out;have p5:=aj (k:=5) HN8.out;refine ay 16 rfl (by kernel_rfl) rfl (fun K hK=> ?_);go_wp2_with fail;obtain⟨wf,hwf⟩: ∃wf,wf=((((((w1.setCell ⟨b8,0,none⟩ (.int .i64 qk)).setCell ⟨b8,1,none⟩ (.int .u64 (qu:Int))).setCell ⟨b8,2,none⟩ (.int .i64 qn)).setCell ⟨b8,3,none⟩ (.bool qb)).setCell ⟨b8,4,none⟩ (.string qs)).setCell ⟨b8,5,none⟩ (.int .i64 qm)):=⟨_,rfl⟩
  rw[<-hwf];have HBF:=ag (show Below w.heap.size w wf by rw[hwf]; exact BK HB4.out (by have:=HL8.out; omega));have HF8:=ag (show wf.heap[w.heap.size]? =some _ by rw[hwf]; exact tI HW8.out (by have:=HL8.out; omega));have HF11:=ag (show wf.heap[w.heap.size+1]? =some _ by rw[hwf]; exact tI HW11.out (by have:=HL8.out; omega));have HFN:=ag (show wf.heap[b8]? =some _ by rw[hwf]; exact ET HN8.out)
  have HFR:=ag (HR.out.below HBF.out);clear hwf m0 m1 m2 m3 m4 m5 p0 p1 p2 p3 p4 p5 c0 c1 c2 c3;have c0:=ak (k:=0) HFR.out.box;have c1:=ak (k:=1) HFR.out.box;have c2:=ak (k:=2) HFR.out.box;have c3:=ak (k:=3) HFR.out.box;simp only[aP]at c0 c1 c2 c3;refine⟨⟨c0,c1⟩, ?_⟩;refine ah 17 rfl (by kernel_rfl) (by kernel_rfl) (by kernel_rfl) (fun _ _ _ h=>h) rfl (by go_simp) (by rintro w' ⟨hw1,hw2⟩; go_simp; rfl) ?_
  simp only[Act.put,aE,aF,aG];refine ah 18 rfl (by kernel_rfl) (by kernel_rfl) (by kernel_rfl) (fun _ _ _ h=>h) rfl (by go_simp) (by rintro w' ⟨hw1,hw2⟩; go_simp; rfl) ?_;simp only[Act.put,aE,aF,aG];refine aV (by kernel_rfl) ?_;rw[HE.out]at c3;have f1:=aj (k:=1) HFR.out.box;have f2:=aj (k:=2) HFR.out.box;have f3:=aj (k:=3) HFR.out.box;have m0:=ak (k:=0) HF8.out
  have m1:=ak (k:=1) HF8.out;have m2:=ak (k:=2) HF8.out;have m3:=ak (k:=3) HF8.out;have m4:=ak (k:=4) HF8.out;have m5:=ak (k:=5) HF8.out;simp only[aP]at m0 m1 m2 m3 m4 m5;have p0:=aj (k:=0) HF8.out;have p1:=aj (k:=1) HF8.out;have p2:=aj (k:=2) HF8.out;have p3:=aj (k:=3) HF8.out;have p4:=aj (k:=4) HF8.out;have p5:=aj (k:=5) HF8.out
  have k0:=ak (k:=0) HF11.out;have k1:=ak (k:=1) HF11.out;have k2:=ak (k:=2) HF11.out;have k3:=ak (k:=3) HF11.out;have k4:=ak (k:=4) HF11.out;have k5:=ak (k:=5) HF11.out;simp only[aP]at k0 k1 k2 k3 k4 k5;have n0:=ak (k:=0) HFN.out;have n1:=ak (k:=1) HFN.out;have n2:=ak (k:=2) HFN.out;have n3:=ak (k:=3) HFN.out;have n4:=ak (k:=4) HFN.out
  have n5:=ak (k:=5) HFN.out;simp only[aP]at n0 n1 n2 n3 n4 n5
  by_cases hz:er=0
  ·subst hz;have hl1:rb≠w.heap.size:=by omega
   have hl2:rb≠b8:=by have:=HL8.out; omega
   have hl3:b8≠w.heap.size:=by have:=HL8.out; omega
   go_wp2_with fail;refine ov (b:=w.heap.size) (bh (bh HF8.out hl1.symm _) hl1.symm _) (by kernel_rfl) (by kernel_rfl) ?_;have hfin:=HR.out.fin (wf:=(wf.setCell ⟨rb,2,none⟩ (.int .i64 (s.off:Int))).setCell ⟨rb,1,none⟩ (.int .i64 (o':Int))) (s':=⟨o',s.off,0⟩) (b:=w.heap.size) (an (an (aX HBF.out _) (aH _ _ _ _)) (aH _ _ _ _)) (by
    have h1:=tR (x:= .int .i64 (o':Int)) (tS (x:= .int .i64 (s.off:Int)) HFR.out.box);rw[HE.out]at h1;exact h1) ho (Nat.le_refl _) (x0:= .int .i64 qk) (x1:= .int .u64 (qu:Int)) (x2:= .int .i64 qn) (x3:= .bool qb) (x4:= .string qs) (x5:= .int .i64 qm)
   exact⟨by exact rfl,hfin.1,hfin.2⟩
  ·have e1:(er != 0)=true:=by simp[hz]
   have HZ:=ag hz;have hl1:rb≠w.heap.size:=by omega
   clear hz;go_wp2_with fail;refine ov (b:=w.heap.size) (bh HF8.out hl1.symm _) (by kernel_rfl) (by kernel_rfl) ?_;have hfin:=HR.out.fin (wf:=wf.setCell ⟨rb,3,none⟩ (.int .i64 er)) (s':=⟨s.off,s.last,er⟩) (b:=w.heap.size) (an (aX HBF.out _) (aH _ _ _ _)) (tT HFR.out.box) HR.out.le (Nat.le_refl _) (x0:= .int .i64 K) (x1:= .int .u64 0) (x2:= .int .i64 0) (x3:= .bool false) (x4:= .string ⟨#[]⟩) (x5:= .int .i64 most)
   have hcp:lO ⟨qk,qu,qn,qb,qs,qm⟩ o' er K most s=(⟨K,0,0,false,⟨#[]⟩,most⟩,⟨s.off,s.last,er⟩):=by unfold lO; rw[if_neg HZ.out]
   rw[hcp];exact⟨by exact rfl,hfin.1,hfin.2⟩
end Go.Proofs.YtpffpjbkbaleiaaGreatDoor
namespace Go.Proofs.YtpffpjbkbaleiaaGreatDoor
open Go.RowKit
theorem Bu (rb:Nat) (v:Value) (data:List UInt8) (s:RS) (K most:Int) (w:World) (hr:cB w rb v data s) (he: ¬s.err=0):
  Calls Tryz.prog 65 #[.pointer (some ⟨rb,0,none⟩), .int .i64 K, .int .i64 most] w (kT (⟨K,0,0,false,⟨#[]⟩,most⟩,s) rb v data w):=by
 have HR:=ag hr;have hlt:=hr.lt;have c3:=ak (k:=3) hr.box;simp only[aP]at c3;have e1:(s.err != 0)=true:=by simp[he]
 clear he hr
 go_enter Tryz.func65,Tryz.ntmps65
 go_wp2_with fail;refine bodyPost_ret (yQ (b:=w.heap.size) (cQ (bO _ _) _) (by kernel_rfl)) (by kernel_rfl) ?_;refine⟨by exact rfl,HR.out.below ?_,aX ?_ _⟩
 ·exact((Below.refl w.heap.size w).alloc (Nat.le_refl _) _).alloc (by simp) _
 ·exact((Below.refl w.heap.size w).alloc (Nat.le_refl _) _).alloc (by simp) _
theorem lK {α:Type} (rb:Nat) (v:Value) (data:List UInt8) (s:RS) (K most:Int) (val:α->je) (REX:Except Int (α×Nat)) (w:World) (hr:cB w rb v data s) (hK:(K == 0)=false)
  (hrd: ∀W,aD (· ≠rb) W v data->Calls Tryz.prog 114 #[v, .int .i64 (s.off:Int), .int .i64 K, .int .i64 most] W (lJ ⟨K,0,0,false,⟨#[]⟩,most⟩ val s.off REX W))
  (hok: ∀x o,REX= .ok (x,o)->o<=data.length) (herr: ∀y,REX= .error y-> ¬y=0):
  Calls Tryz.prog 65 #[.pointer (some ⟨rb,0,none⟩), .int .i64 K, .int .i64 most] w (kT (rr ⟨K,0,0,false,⟨#[]⟩,most⟩ val REX s) rb v data w):=by
 by_cases he:s.err=0
 ·cases REX with
  | error y=>
   have h:=re rb v data s K most ⟨K,0,0,false,⟨#[]⟩,most⟩ s.off y w hr hK he hr.le hrd;have h1:lO ⟨K,0,0,false,⟨#[]⟩,most⟩ s.off y K most s=rr ⟨K,0,0,false,⟨#[]⟩,most⟩ val (.error y) s:=by
    unfold lO rr; rw[if_neg (herr y rfl),if_pos he]
   rw[h1]at h; exact h
  | ok p=>
   obtain⟨x,o⟩:=p;have h:=re rb v data s K most (val x) o 0 w hr hK he (hok x o rfl) hrd;have h1:lO (val x) o 0 K most s=rr ⟨K,0,0,false,⟨#[]⟩,most⟩ val (.ok (x,o)) s:=by
    unfold lO rr; rw[if_pos rfl,if_pos he]
   rw[h1]at h; exact h
 ·have h1:rr ⟨K,0,0,false,⟨#[]⟩,most⟩ val REX s=(⟨K,0,0,false,⟨#[]⟩,most⟩,s):=by unfold rr; rw[if_neg he]
  rw[h1];exact Bu rb v data s K most w hr he
theorem ww {data:List UInt8} {off n o:Nat} {bs:List UInt8} (h0:off<=data.length) (h:cP data off n= .ok (bs,o)):o<=data.length:=by
 unfold cP at h
 split at h
 ·simp at h
 ·simp only[Except.ok.injEq,Prod.mk.injEq]at h; omega
theorem zt {data:List UInt8} {off most o:Nat} {bs:List UInt8} (h:cE data off most= .ok (bs,o)):o<=data.length:=by
 unfold cE at h
 cases hl:dO data off most with
 | error y=>rw[hl]at h; simp at h
 | ok p=>
  obtain⟨n,o1⟩:=p;rw[hl]at h;exact ww (fa hl).2.2 h
def nK (data:List UInt8) (s:RS):je×RS:=rr ⟨1,0,0,false,⟨#[]⟩,0⟩ (fun n=>⟨1,n,0,false,⟨#[]⟩,0⟩) (et data s.off) s
def lu (data:List UInt8) (most:Nat) (s:RS):je×RS:=rr ⟨5,0,0,false,⟨#[]⟩,most⟩ (fun bs:List UInt8=>⟨5,0,0,false,⟨bs.toArray⟩,most⟩) (cE data s.off most) s
def vU (data:List UInt8) (s:RS):je×RS:=rr ⟨6,0,0,false,⟨#[]⟩,0⟩ (fun bs:List UInt8=>⟨6,0,0,false,⟨bs.toArray⟩,0⟩) (cP data s.off 32) s
def jA (data:List UInt8) (most:Nat) (s:RS):je×RS:=rr ⟨7,0,0,false,⟨#[]⟩,most⟩ (fun n:Nat=>⟨7,0,(n:Int),false,⟨#[]⟩,most⟩) (dO data s.off most) s
theorem Db (rb:Nat) (v:Value) (data:List UInt8) (s:RS) (w:World) (hr:cB w rb v data s):
  Calls Tryz.prog 65 #[.pointer (some ⟨rb,0,none⟩), .int .i64 1, .int .i64 0] w (kT (nK data s) rb v data w):=
 lK rb v data s 1 0 _ _ w hr rfl (fun W h=>Am _ v data s.off W h hr.le hr.small) (fun _ _ h=>(eu h).2.2) (fun _ h=>mh h)
theorem FR (rb:Nat) (v:Value) (data:List UInt8) (most:Nat) (s:RS) (w:World) (hr:cB w rb v data s) (hm:most<=32768):
  Calls Tryz.prog 65 #[.pointer (some ⟨rb,0,none⟩), .int .i64 5, .int .i64 (most:Int)] w (kT (lu data most s) rb v data w):=
 lK rb v data s 5 most _ _ w hr rfl (fun W h=>An _ v data s.off most W h hr.le hr.small hm) (fun _ _ h=>zt h) (fun _ h=>kr h)
theorem FQ (rb:Nat) (v:Value) (data:List UInt8) (s:RS) (w:World) (hr:cB w rb v data s):
  Calls Tryz.prog 65 #[.pointer (some ⟨rb,0,none⟩), .int .i64 6, .int .i64 0] w (kT (vU data s) rb v data w):=
 lK rb v data s 6 0 _ _ w hr rfl (fun W h=>Ao _ v data s.off W h hr.le hr.small) (fun _ _ h=>ww hr.le h) (fun _ h=>iZ h)
theorem FN (rb:Nat) (v:Value) (data:List UInt8) (most:Nat) (s:RS) (w:World) (hr:cB w rb v data s) (hm:most<=32768):
  Calls Tryz.prog 65 #[.pointer (some ⟨rb,0,none⟩), .int .i64 7, .int .i64 (most:Int)] w (kT (jA data most s) rb v data w):=
 lK rb v data s 7 most _ _ w hr rfl (fun W h=>Ap _ v data s.off most W h hr.le hr.small hm) (fun _ _ h=>(fa h).2.2) (fun _ h=>il h)
def xe (n:Nat):Int:=if 1125899906842624<n then -1 else(n:Int)
def fx (data:List UInt8) (s:RS):Int×RS:=(xe (nK data s).1.u,(nK data s).2)
theorem Da (data:List UInt8) (s:RS):(nK data s).1.u<18446744073709551616:=by
 unfold nK rr
 split
 ·cases h:et data s.off with
  | error y=>show(0:Nat)<_; decide
  | ok p=>exact(eu h).1
 ·show(0:Nat)<_; decide
theorem jM (rb:Nat) (v:Value) (data:List UInt8) (s:RS) (w:World) (hr:cB w rb v data s):
  Calls Tryz.prog 66 #[.pointer (some ⟨rb,0,none⟩)] w fun e w'=>e= .returned (.int .i64 (fx data s).1)/\cB w' rb v data (fx data s).2/\w.grownBy w' (some rb):=by
 have HR:=ag hr;clear hr
 go_enter Tryz.func66,Tryz.ntmps66
 go_wp2_with fail;refine(Db rb v data s w HR.out).mono ?_;rintro e w1 ⟨rfl,h1,h2⟩;have H1:=ag h1;have H2:=ag h2;have hu:=Da data s;obtain⟨p,hp⟩: ∃p,p=nK data s:=⟨_,rfl⟩;have HP:=ag hp;rw[<-hp]at H1 hu ⊢;clear hp h1 h2;obtain⟨⟨k,u,n,b,t,m⟩,s'⟩:=p;simp only[rvV]at hu ⊢
 by_cases hn:1125899906842624<u
 ·have HT:=ag (show(fx data s).1= -1 by unfold fx; rw[<-HP.out]; unfold xe; rw[if_pos hn]);have HS:=ag (show(fx data s).2=s' by unfold fx; rw[<-HP.out]);go_wp2_with fail;go_ret;exact⟨by rw[HT.out]; rfl,by rw[HS.out]; exact H1.out.below ((Below.refl _ _).alloc (Nat.le_refl _) _),an H2.out (aX ((Below.refl _ _).alloc (Nat.le_refl _) _) _)⟩
 ·have HT:=ag (show(fx data s).1=(u:Int) by unfold fx; rw[<-HP.out]; unfold xe; rw[if_neg hn]);have HS:=ag (show(fx data s).2=s' by unfold fx; rw[<-HP.out]);go_wp2_with fail;go_ret;exact⟨by rw[HT.out]; rfl,by rw[HS.out]; exact H1.out.below ((Below.refl _ _).alloc (Nat.le_refl _) _),an H2.out (aX ((Below.refl _ _).alloc (Nat.le_refl _) _) _)⟩
end Go.Proofs.YtpffpjbkbaleiaaGreatDoor
namespace Go.Proofs.YtpffpjbkbaleiaaGreatDoor
open Go.RowKit
theorem rF (rb:Nat) (v:Value) (data:List UInt8) (s:RS) (w:World) (hr:cB w rb v data s):
  Calls Tryz.prog 68 #[.pointer (some ⟨rb,0,none⟩)] w fun e w'=>(∃p:Int,e= .returned (.tuple #[.int .i64 p, .int .i64 (fi data s)]))/\Below w.heap.size w w':=by
 obtain⟨_,a,cap,rfl,hc,hcm,-⟩:=hr.row;unfold maxLen at hcm;have c0:=ak (k:=0) hr.box;have c1:=ak (k:=1) hr.box;have c2:=ak (k:=2) hr.box;have c3:=ak (k:=3) hr.box;simp only[aP]at c0 c1 c2 c3;have hsm:=hr.small;have hle:=hr.le;clear hr
 by_cases he:s.err=0
 ·rw[he]at c3;have HE:=ag he;clear he
  by_cases hl:s.off<data.length
  ·have HR:=ag (show fi data s=3 by unfold fi; rw[if_pos HE.out,if_pos hl])
   go_enter Tryz.func68,Tryz.ntmps68
   go_wp2_with fail
   go_quiet (fail)
   go_wp2_with fail
   go_ret2
   exact⟨⟨(s.off:Int),by rw[HR.out]; rfl⟩,by first | exact bq (bq (Below.refl _ _) _) _ | exact bq (Below.refl _ _) _⟩
  ·have HR:=ag (show fi data s=0 by unfold fi; rw[if_pos HE.out,if_neg hl])
   go_enter Tryz.func68,Tryz.ntmps68
   go_wp2_with fail
   go_quiet (fail)
   go_wp2_with fail
   go_quiet (fail)
   go_wp2_with fail
   go_ret2
   exact⟨⟨(s.off:Int),by rw[HR.out]; rfl⟩,by first | exact bq (bq (Below.refl _ _) _) _ | exact bq (Below.refl _ _) _⟩
 ·have HR:=ag (show fi data s=s.err by unfold fi; rw[if_neg he])
  go_enter Tryz.func68,Tryz.ntmps68
  go_wp2_with fail
  go_quiet (fail)
  go_wp2_with fail
  go_quiet (fail)
  go_wp2_with fail
  go_ret2
  exact⟨⟨(s.off:Int),by rw[HR.out]; rfl⟩,by first | exact bq (bq (Below.refl _ _) _) _ | exact bq (Below.refl _ _) _⟩
def gR (data:List UInt8) (s:RS):aN×RS:=
 (⟨(vU data s).1.s,(fx data (vU data s).2).1,(fx data (fx data (vU data s).2).2).1⟩,(fx data (fx data (vU data s).2).2).2)
theorem set3 {w:World} {b:Nat} {a0 a1 a2 x0 x1 x2:Value} {t:TypeId} (h:w.heap[b]? =some (.cells #[a0,a1,a2] t (0,0))):
  (((w.setCell ⟨b,0,none⟩ x0).setCell ⟨b,1,none⟩ x1).setCell ⟨b,2,none⟩ x2).heap[b]? =some (.cells #[x0,x1,x2] t (0,0)):=cO (cO (cO h x0) x1) x2
theorem As {a:Act} {w:World} {b:Nat} {a0 a1 a2 x0 x1 x2:Value} {Q:Ending->World->Prop} (h:w.heap[b]? =some (.cells #[a0,a1,a2] 26 (0,0)))
  (h2:a.tmps[2]? =some (.pointer (some ⟨b,0,none⟩))) (hd:a.defers=[])
  (hQ:Q (.returned (.agg #[x0,x1,x2])) (((w.setCell ⟨b,0,none⟩ x0).setCell ⟨b,1,none⟩ x1).setCell ⟨b,2,none⟩ x2)):
  bodyPost Tryz.prog Tryz.f67 Q Exit.ret a (((w.setCell ⟨b,0,none⟩ x0).setCell ⟨b,1,none⟩ x1).setCell ⟨b,2,none⟩ x2):=by
 have hs:=set3 (x0:=x0) (x1:=x1) (x2:=x2) h
 revert hQ
 generalize (((w.setCell ⟨b,0,none⟩ x0).setCell ⟨b,1,none⟩ x1).setCell ⟨b,2,none⟩ x2)=w3 at hs
 intro hQ;have m0:=ak (k:=0) hs;have m1:=ak (k:=1) hs;have m2:=ak (k:=2) hs;simp only[aP]at m0 m1 m2;exact bodyPost_ret (by simp[results,Tryz.results67,go_sem,h2,m0,m1,m2]) hd hQ
theorem Ar (rb:Nat) (v:Value) (data:List UInt8) (s:RS) (w:World) (hr:cB w rb v data s):
  Calls Tryz.prog 67 #[.pointer (some ⟨rb,0,none⟩)] w fun e w'=>e= .returned (bu (gR data s).1)/\cB w' rb v data (gR data s).2/\w.grownBy w' (some rb):=by
 have HR:=ag hr;have hlt:=hr.lt;clear hr
 go_enter Tryz.func67,Tryz.ntmps67
 go_wp2_with fail;refine(FQ rb v data s _ (HR.out.below ((Below.refl _ _).alloc (Nat.le_refl _) _))).mono ?_;rintro e w1 ⟨rfl,h1,h2⟩;have H1:=ag h1;have hz:=wh h2;simp at hz;have HB:=ag (eZ h2 (bO w _) (by omega));have HG:=ag (an (aX ((Below.refl _ _).alloc (Nat.le_refl _) _) (some rb)) h2);clear h1 h2;obtain⟨p,hp⟩: ∃p,p=vU data s:=⟨_,rfl⟩
 have HP:=ag hp;rw[<-hp]at H1 ⊢;clear hp;obtain⟨⟨pk,pu,pn,pb,pt,pm⟩,s1⟩:=p;simp only[rvV];have hfd: ∀w:World,(Instr.field 96 (.agg #[.int .i64 pk, .int .u64 (pu:Int), .int .i64 pn, .bool pb, .string pt, .int .i64 pm]) 4).run Tryz.prog w= .ok (.string pt) w:=fun _=>by kernel_rfl
 go_wp2_with fail;refine(jM rb v data s1 _ H1.out).mono ?_;rintro e w2 ⟨rfl,h1,h2⟩;have H2:=ag h1;have hz2:=wh h2;have HB2:=ag (eZ h2 HB.out (by omega));have HG2:=ag (an HG.out h2);clear h1 h2;go_wp2_with fail;refine(jM rb v data (fx data s1).2 _ H2.out).mono ?_;rintro e w3 ⟨rfl,h1,h2⟩;have H3:=ag h1;have HB3:=ag (eZ h2 HB2.out (by omega))
 have HG3:=ag (an HG2.out h2);clear h1 h2;have b0:=ak (k:=0) HB3.out;have b1:=ak (k:=1) HB3.out;have b2:=ak (k:=2) HB3.out;have g0:=aj (k:=0) HB3.out;have g1:=aj (k:=1) HB3.out;have g2:=aj (k:=2) HB3.out;simp only[aP]at b0 b1 b2;obtain⟨i1,hi1⟩: ∃i1,i1=(fx data s1).1:=⟨_,rfl⟩;obtain⟨i2,hi2⟩: ∃i2,i2=(fx data (fx data s1).2).1:=⟨_,rfl⟩
 rw[<-hi1,<-hi2];have HI1:=ag hi1;have HI2:=ag hi2;clear hi1 hi2;go_wp2_with fail;refine As HB3.out (by kernel_rfl) (by kernel_rfl) ?_;have e1:(vU data s).2=s1:=by rw[<-HP.out]
 have e2:(vU data s).1.s=pt:=by rw[<-HP.out]
 have h6:=cg (cg (cg HG3.out (Nat.le_refl _) (k:=0) (.string pt)) (Nat.le_refl _) (k:=1) (.int .i64 i1)) (Nat.le_refl _) (k:=2) (.int .i64 i2);have hne:rb≠w.heap.size:=by omega
 refine⟨?_, ?_,h6⟩
 ·unfold gR; rw[e1,e2,<-HI1.out,<-HI2.out]; rfl
 ·have e3:(gR data s).2=(fx data (fx data s1).2).2:=by unfold gR; rw[e1]
  rw[e3];exact HR.out.grown h6 (bh (bh (bh H3.out.box hne _) hne _) hne _) H3.out.le
end Go.Proofs.YtpffpjbkbaleiaaGreatDoor
namespace Go.Proofs.YtpffpjbkbaleiaaGreatDoor
open Go.RowKit
def iz (s t:RS):Prop:=(s.err=0<->t.err=0)/\(s.err=0->s.off=t.off)
theorem iz.start :iz ⟨0,0,0⟩ ⟨0,0,0⟩:=⟨Iff.rfl,fun _=>rfl⟩
theorem mu {α:Type} {z:je} {val:α->je} {z0:α} (f:Nat->Except Int (α×Nat)) (hz:z=val z0) (hne: ∀o y,f o= .error y-> ¬y=0) {s t:RS} (h:iz s t):
  (rr z val (f s.off) s).1=val (rv z0 (f t.off) t).1/\iz (rr z val (f s.off) s).2 (rv z0 (f t.off) t).2:=by
 unfold rr rv
 by_cases he:s.err=0
 ·rw[if_pos he,if_pos (h.1.1 he),h.2 he]
  cases hf:f t.off with
  | error y=>exact⟨hz,⟨fun e=>absurd e (hne _ _ hf),fun e=>absurd e (hne _ _ hf)⟩,fun e=>absurd e (hne _ _ hf)⟩
  | ok p=>exact⟨rfl,Iff.rfl,fun _=>rfl⟩
 ·rw[if_neg he,if_neg (fun e=>he (h.1.2 e))];exact⟨hz,h⟩
theorem Dk {data:List UInt8} {s t:RS} (h:iz s t):(nK data s).1.u=(ki data t).1/\iz (nK data s).2 (ki data t).2:=by
 have:=mu (z0:=(0:Nat)) (val:=fun n=>⟨1,n,0,false,⟨#[]⟩,0⟩) (fun o=>et data o) rfl (fun _ _ h=>mh h) h;exact⟨by have h1:=this.1; unfold nK ki; rw[h1],this.2⟩
theorem wg {data:List UInt8} {most:Nat} {s t:RS} (h:iz s t):(lu data most s).1.s=⟨(qU data most t).1.toArray⟩/\iz (lu data most s).2 (qU data most t).2:=by
 have:=mu (z0:=([]:List UInt8)) (val:=fun bs:List UInt8=>⟨5,0,0,false,⟨bs.toArray⟩,most⟩) (fun o=>cE data o most) rfl (fun _ _ h=>kr h) h;exact⟨by have h1:=this.1; unfold lu qU; rw[h1],this.2⟩
theorem Fm {data:List UInt8} {s t:RS} (h:iz s t):(vU data s).1.s=⟨(Bm data t).1.toArray⟩/\iz (vU data s).2 (Bm data t).2:=by
 have:=mu (z0:=([]:List UInt8)) (val:=fun bs:List UInt8=>⟨6,0,0,false,⟨bs.toArray⟩,0⟩) (fun o=>cP data o 32) rfl (fun _ _ h=>iZ h) h;exact⟨by have h1:=this.1; unfold vU Bm; rw[h1],this.2⟩
theorem Fl {data:List UInt8} {most:Nat} {s t:RS} (h:iz s t):(jA data most s).1.n=((kK data most t).1:Int)/\iz (jA data most s).2 (kK data most t).2:=by
 have:=mu (z:=⟨7,0,0,false,⟨#[]⟩,most⟩) (z0:=(0:Nat)) (val:=fun n:Nat=>⟨7,0,(n:Int),false,⟨#[]⟩,most⟩) (fun o=>dO data o most) rfl (fun _ _ h=>il h) h;exact⟨by have h1:=this.1; unfold jA kK; rw[h1],this.2⟩
def gz (a b:Int):Prop:=a=b\/(a= -1/\(b<0\/1125899906842624<b))
theorem DA (data:List UInt8) (s:RS):(ki data s).1<18446744073709551616:=by
 unfold ki rv
 split
 ·cases h:et data s.off with
  | error y=>show(0:Nat)<_; decide
  | ok p=>exact(eu h).1
 ·show(0:Nat)<_; decide
theorem EE {n:Nat} (h:n<18446744073709551616):gz (xe n) (eS n):=by
 unfold gz xe eS wrap64
 split<;> omega
theorem sD {data:List UInt8} {s t:RS} (h:iz s t):gz (fx data s).1 (eS (ki data t).1)/\iz (fx data s).2 (ki data t).2:=by
 obtain⟨h1,h2⟩:=Dk (data:=data) h;exact⟨by unfold fx; rw[h1]; exact EE (DA data t),h2⟩
def wG (a b:aN):Prop:=a.name=b.name/\gz a.gen b.gen/\gz a.size b.size
theorem yX {data:List UInt8} {s t:RS} (h:iz s t):wG (gR data s).1 (iF data t).1/\iz (gR data s).2 (iF data t).2:=by
 obtain⟨h1,h2⟩:=Fm (data:=data) h;obtain⟨h3,h4⟩:=sD (data:=data) h2;obtain⟨h5,h6⟩:=sD (data:=data) h4;exact⟨⟨h1,h3,h5⟩,h6⟩
theorem ml {a b:aN} (h:wG a b):dJ a=dJ b:=by
 obtain⟨h1,h2,h3⟩:=h;unfold dJ;rw[h1];unfold gz at h2 h3;rw[Bool.eq_iff_iff];simp only[Bool.and_eq_true,decide_eq_true_eq]
 constructor<;> (rintro⟨⟨⟨⟨k1,k2⟩,k3⟩,k4⟩,k5⟩; exact⟨⟨⟨⟨k1,by omega⟩,by omega⟩,by omega⟩,by omega⟩)
theorem kA {a b:aN} (h:wG a b) (hv:dJ a=true):a=b:=by
 obtain⟨h1,h2,h3⟩:=h;unfold gz at h2 h3;simp only[dJ,Bool.and_eq_true,decide_eq_true_eq]at hv;obtain⟨n,g,z⟩:=a;obtain⟨n',g',z'⟩:=b;simp only at *;subst h1;have:g=g':=by omega
 have:z=z':=by omega
 subst_vars
 rfl
end Go.Proofs.YtpffpjbkbaleiaaGreatDoor
namespace Go.Proofs.YtpffpjbkbaleiaaGreatDoor
open Go.RowKit
def bX (data:List UInt8):Nat->List aN->RS->List aN×RS
 | 0,l,s=>(l,s)
 | k+1,l,s=>if s.err=0 then bX data k (l++[(gR data s).1]) (gR data s).2 else(l,s)
def cY (data:List UInt8) (nm:ByteArray) (kd md td:Int) (s:RS):aB×RS:=
 if kd=1 then(⟨nm,kd,md,td,du (bX data (jA data 32768 s).1.n.toNat [] (jA data 32768 s).2).1,⟨#[]⟩,(bX data (jA data 32768 s).1.n.toNat [] (jA data 32768 s).2).1,bg⟩,(bX data (jA data 32768 s).1.n.toNat [] (jA data 32768 s).2).2)
 else if kd=2 then(⟨nm,kd,md,td,0,⟨#[]⟩,[],(gR data s).1⟩,(gR data s).2)
 else(⟨nm,kd,md,td,0,(lu data 512 s).1.s,[],bg⟩,(lu data 512 s).2)
def mJ (data:List UInt8) (nm:ByteArray) (kd md:Int) (td:Nat) (s:RS):Option (aB×RS):=
 if 9223372036854775807<td then none else some (cY data nm kd md td s)
def kL (data:List UInt8) (s:RS):Option (aB×RS):=
 mJ data (lu data 64 s).1.s (fx data (lu data 64 s).2).1 (fx data (fx data (lu data 64 s).2).2).1 (nK data (fx data (fx data (lu data 64 s).2).2).2).1.u (nK data (fx data (fx data (lu data 64 s).2).2).2).2
def cF (data:List UInt8):Nat->List aB->RS->Option (List aB×RS)
 | 0,l,s=>some (l,s)
 | n+1,l,s=>if s.err=0 then(kL data s).bind fun p=>cF data n (l++[p.1]) p.2 else some (l,s)
def CA (data:List UInt8):Option (List aB):=
 if 32768<data.length then none else
 (cF data (jA data 4096 ⟨0,0,0⟩).1.n.toNat [] (jA data 4096 ⟨0,0,0⟩).2).bind fun p=>if fi data p.2=0/\cr p.1=true then some p.1 else none
theorem tP {α:Type} {z:je} {val:α->je} {r:Except Int (α×Nat)} {s:RS} (hne: ∀y,r= .error y-> ¬y=0) (h:(rr z val r s).2.err=0):s.err=0/\ ∃x o,r= .ok (x,o)/\(rr z val r s).2.off=o/\(rr z val r s).1=val x:=by
 unfold rr at h ⊢
 by_cases he:s.err=0
 ·rw[if_pos he]at h ⊢
  cases r with
  | error y=>exact absurd h (hne y rfl)
  | ok p=>exact⟨he,p.1,p.2,rfl,rfl,rfl⟩
 ·rw[if_neg he]at h;exact absurd h he
theorem qd {α:Type} {z:α} {r:Except Int (α×Nat)} {s:RS} (hne: ∀y,r= .error y-> ¬y=0) (h:(rv z r s).2.err=0):s.err=0/\ ∃x o,r= .ok (x,o)/\(rv z r s).2.off=o/\(rv z r s).1=x:=by
 unfold rv at h ⊢
 by_cases he:s.err=0
 ·rw[if_pos he]at h ⊢
  cases r with
  | error y=>exact absurd h (hne y rfl)
  | ok p=>exact⟨he,p.1,p.2,rfl,rfl,rfl⟩
 ·rw[if_neg he]at h;exact absurd h he
theorem FP {data:List UInt8} {s:RS} (h:(vU data s).2.err=0):s.err=0/\(s.off<=data.length->s.off+32<=(vU data s).2.off/\(vU data s).2.off<=data.length):=by
 obtain⟨h1,x,o,h2,h3,_⟩:=tP (fun _ h=>iZ h) h;refine⟨h1,fun hle=> ?_⟩;unfold vU;rw[h3];unfold cP at h2
 split at h2
 ·simp at h2
 ·simp only[Except.ok.injEq,Prod.mk.injEq]at h2; omega
theorem FS {data:List UInt8} {s:RS} (h:(nK data s).2.err=0):s.err=0/\s.off+1<=(nK data s).2.off/\(nK data s).2.off<=data.length:=by
 obtain⟨h1,x,o,h2,h3,_⟩:=tP (fun _ h=>mh h) h;have h4:=eu h2;unfold nK;rw[h3];exact⟨h1,by omega,by omega⟩
theorem Cj {data:List UInt8} {s:RS} (h:(fx data s).2.err=0):s.err=0/\s.off+1<=(fx data s).2.off/\(fx data s).2.off<=data.length:=FS h
theorem yZ {data:List UInt8} {most:Nat} {s:RS} (h:(qU data most s).2.err=0):s.err=0:=(qd (fun _ h=>kr h) h).1
theorem my {data:List UInt8} {s:RS} (h:(ki data s).2.err=0):s.err=0:=(qd (fun _ h=>mh h) h).1
theorem EZ {data:List UInt8} {s:RS} (h:(Bm data s).2.err=0):s.err=0:=(qd (fun _ h=>iZ h) h).1
theorem Ek {data:List UInt8} {most:Nat} {s:RS} (h:(kK data most s).2.err=0):s.err=0:=(qd (fun _ h=>il h) h).1
theorem CW {data:List UInt8} {s:RS} (h:(gR data s).2.err=0):s.err=0/\(s.off<=data.length->s.off+34<=(gR data s).2.off/\(gR data s).2.off<=data.length):=by
 obtain⟨h1,h2,h3⟩:=Cj (s:=(fx data (vU data s).2).2) h;obtain⟨h4,h5,h6⟩:=Cj h1;obtain⟨h7,h8⟩:=FP h4;refine⟨h7,fun hle=> ?_⟩;have:=h8 hle;unfold gR;simp only;omega
theorem mO {data:List UInt8} {s:RS} (h:(iF data s).2.err=0):s.err=0:=EZ (my (my h))
theorem gW {data:List UInt8} : ∀ {n:Nat} {l:List aN} {s:RS},(bX data n l s).2.err=0->s.err=0
 | 0,_,_,h=>h
 | n+1,l,s,h=>by
  rw[bX]at h
  split at h
  ·assumption
  ·exact h
theorem oS {data:List UInt8} : ∀ {n:Nat} {l:List aN} {s:RS} {r:aN},r∈l->r∈(bX data n l s).1
 | 0,_,_,_,h=>h
 | n+1,l,s,r,h=>by
  rw[bX]
  split
  ·exact oS (List.mem_append_left _ h)
  ·exact h
theorem oR {data:List UInt8} : ∀ {n:Nat} {l:List aN} {s:RS},(bX data n l s).2.err=0->s.off<=data.length->s.off+34*n<=data.length
 | 0,_,_,_,h=>by omega
 | n+1,l,s,h,hle=>by
  have h0:=gW h;rw[bX,if_pos h0]at h;have h1:=(CW (gW h)).2 hle;have h2:=oR h h1.2;omega
def ee (data:List UInt8):Nat->List aN->RS->List aN×RS
 | 0,l,s=>(l,s)
 | k+1,l,s=>ee data k (l++[(iF data s).1]) (iF data s).2
theorem ni (data:List UInt8): ∀(k:Nat) (l:List aN) (s:RS),ee data (k+1) l s=((ee data k l s).1++[(iF data (ee data k l s).2).1],(iF data (ee data k l s).2).2)
 | 0,_,_=>rfl
 | k+1,l,s=>by rw[ee,ni data k]; rfl
theorem gh (data:List UInt8) (s0:RS): ∀k,dq data s0 k=ee data k [] s0
 | 0=>rfl
 | k+1=>by rw[ni,<-gh data s0 k]; rfl
theorem gV {data:List UInt8} : ∀ {n:Nat} {l:List aN} {s:RS},(ee data n l s).2.err=0->s.err=0
 | 0,_,_,h=>h
 | n+1,_,_,h=>mO (gV (n:=n) h)
theorem oP {data:List UInt8} : ∀ {n:Nat} {l:List aN} {s:RS} {r:aN},r∈l->r∈(ee data n l s).1
 | 0,_,_,_,h=>h
 | n+1,_l,_s,_r,h=>oP (n:=n) (List.mem_append_left _ h)
theorem ux {data:List UInt8} : ∀ {n:Nat} {l:List aN} {s t:RS},iz s t->(bX data n l s).2.err=0->(∀r∈(bX data n l s).1,dJ r=true)->(ee data n l t).1=(bX data n l s).1/\iz (bX data n l s).2 (ee data n l t).2
 | 0,_,_,_,hs,_,_=>⟨rfl,hs⟩
 | n+1,l,s,t,hs,he,hv=>by
  have h0:=gW he;rw[bX,if_pos h0]at he hv ⊢;obtain⟨h1,h2⟩:=yX (data:=data) hs;have h3:=kA h1 (hv _ (oS (by simp)));rw[ee,<-h3];exact ux h2 he hv
theorem oU {data:List UInt8} : ∀ {n:Nat} {l:List aN} {s t:RS},iz s t->(ee data n l t).2.err=0->(∀r∈(ee data n l t).1,dJ r=true)->(bX data n l s).1=(ee data n l t).1/\iz (bX data n l s).2 (ee data n l t).2
 | 0,_,_,_,hs,_,_=>⟨rfl,hs⟩
 | n+1,l,s,t,hs,he,hv=>by
  rw[ee]at he hv ⊢;obtain⟨h1,h2⟩:=yX (data:=data) hs;have h3:=kA h1 (by rw[ml h1]; exact hv _ (oP (by simp)));rw[bX,if_pos (hs.1.2 (mO (gV he))),h3];exact oU h2 he hv
theorem pL {data:List UInt8} {off a b n o:Nat} (h:dO data off a= .ok (n,o)) (hn:n<=b):dO data off b= .ok (n,o):=by
 unfold dO at h ⊢
 cases hx:et data off with
 | error y=>rw[hx]at h; simp at h
 | ok p=>
  obtain⟨m,q⟩:=p;rw[hx]at h;simp only at h ⊢
  split at h
  ·simp at h
  ·simp only[Except.ok.injEq,Prod.mk.injEq]at h;obtain⟨rfl,rfl⟩:=h;rw[if_neg (by omega)]
theorem BU {data:List UInt8} {a b:Nat} {s t:RS} (hs:iz s t) (he:(jA data a s).2.err=0) (hn:(jA data a s).1.n.toNat<=b):(kK data b t).1=(jA data a s).1.n.toNat/\iz (jA data a s).2 (kK data b t).2/\(jA data a s).2.off<=data.length:=by
 obtain⟨h1,x,o,h2,h3,h4⟩:=tP (fun _ h=>il h) he;have h5:(jA data a s).1.n.toNat=x:=by unfold jA; rw[h4]; simp
 rw[h5]at hn ⊢;have h6:=pL h2 hn;have h7:kK data b t=(x,⟨o,t.off,0⟩):=by
  unfold kK rv;rw[if_pos (hs.1.1 h1),<-hs.2 h1,h6]
 rw[h7];refine⟨rfl,⟨⟨fun _=>rfl,fun _=>he⟩,fun _=>h3⟩, ?_⟩
 show(jA data a s).2.off<=_
 have h8:(jA data a s).2.off=o:=h3;rw[h8];exact(fa h2).2.2
theorem wP {data:List UInt8} {a b:Nat} (hab:b<=a) {s t:RS} (hs:iz s t) (he:(kK data b t).2.err=0):(jA data a s).1.n.toNat=(kK data b t).1/\iz (jA data a s).2 (kK data b t).2:=by
 obtain⟨h1,x,o,h2,h3,h4⟩:=qd (fun _ h=>il h) he;have h5:(kK data b t).1=x:=h4;have h8:(kK data b t).2.off=o:=h3;have h6:=pL h2 (Nat.le_trans (fa h2).1 hab);have h7:jA data a s=(⟨7,0,(x:Int),false,⟨#[]⟩,a⟩,⟨o,s.off,0⟩):=by
  unfold jA rr;rw[if_pos (hs.1.2 h1),hs.2 (hs.1.2 h1),h6]
 rw[h7,h5];exact⟨by simp,⟨⟨fun _=>he,fun _=>rfl⟩,fun _=>h8.symm⟩⟩
theorem ir {it:aB} (h:bF it=true):(it.kind=1\/it.kind=2\/it.kind=3)/\0<=it.mode/\it.mode<=511/\0<=it.time/\(it.kind=1-> ∀c∈it.chunks,dJ c=true)/\(it.kind=2->dJ it.node=true):=by
 unfold bF mz bT at h;simp only[Bool.and_eq_true,decide_eq_true_eq]at h;obtain⟨⟨_,⟨h1,h2⟩,h3⟩,h4⟩:=h;refine⟨?_,h1,h2,h3,fun hk=> ?_,fun hk=> ?_⟩
 ·split at h4
  ·exact .inl (by assumption)
  ·split at h4
   ·exact .inr (.inl (by assumption))
   ·split at h4
    ·exact .inr (.inr (by assumption))
    ·simp at h4
 ·rw[if_pos hk]at h4;simp only[bV,fm,Bool.and_eq_true,List.all_eq_true]at h4;exact fun c hc=>(h4.2.1 c hc).1
 ·rw[if_neg (by omega),if_pos hk]at h4;simp only[Bool.and_eq_true]at h4;exact h4.2
theorem nu (data:List UInt8) (nm:ByteArray) (kd md td:Int) (s:RS):(cY data nm kd md td s).1.kind=kd/\(cY data nm kd md td s).1.mode=md/\(cY data nm kd md td s).1.time=td:=by
 unfold cY
 split
 ·exact⟨rfl,rfl,rfl⟩
 ·split
  ·exact⟨rfl,rfl,rfl⟩
  ·exact⟨rfl,rfl,rfl⟩
theorem pC {data nm:List UInt8} {kd md td:Nat} {s s1:RS} {a:aB} (h:eh data nm kd md td s=some (a,s1)):a.kind=eS kd/\a.mode=eS md/\a.time=eS td:=by
 unfold eh at h
 split at h
 ·simp only[Option.some.injEq,Prod.mk.injEq]at h; obtain⟨rfl,_⟩:=h; exact⟨rfl,rfl,rfl⟩
 ·split at h
  ·simp only[Option.some.injEq,Prod.mk.injEq]at h; obtain⟨rfl,_⟩:=h; exact⟨rfl,rfl,rfl⟩
  ·split at h
   ·simp only[Option.some.injEq,Prod.mk.injEq]at h; obtain⟨rfl,_⟩:=h; exact⟨rfl,rfl,rfl⟩
   ·simp at h
theorem xh {data nm:List UInt8} {kd md td:Nat} {s s1:RS} {a:aB} (h:eh data nm kd md td s=some (a,s1)) (he:s1.err=0):s.err=0:=by
 unfold eh at h
 split at h
 ·simp only[Option.some.injEq,Prod.mk.injEq]at h; obtain⟨_,rfl⟩:=h;rw[gh]at he;exact Ek (gV he)
 ·split at h
  ·simp only[Option.some.injEq,Prod.mk.injEq]at h; obtain⟨_,rfl⟩:=h; exact mO he
  ·split at h
   ·simp only[Option.some.injEq,Prod.mk.injEq]at h; obtain⟨_,rfl⟩:=h; exact yZ he
   ·simp at h
theorem Cm {data nm:List UInt8} {nm':ByteArray} {kd md td:Nat} {kd' md' td':Int} {s t:RS} (hlen:data.length<=32768) (hs:iz s t) (hn:nm'=⟨nm.toArray⟩) (hk:kd'=eS kd) (hm:md'=eS md) (ht:td'=eS td)
  (he:(cY data nm' kd' md' td' s).2.err=0) (hv:bF (cY data nm' kd' md' td' s).1=true):
  ∃t',eh data nm kd md td t=some ((cY data nm' kd' md' td' s).1,t')/\iz (cY data nm' kd' md' td' s).2 t':=by
 obtain⟨hf,_,_,_,hf1,hf2⟩:=ir hv;rw[(nu data nm' kd' md' td' s).1]at hf hf1 hf2;subst hn hk hm ht
 rcases hf with h | h | h
 ·have hf1:=hf1 h;unfold cY eh at *;rw[if_pos h]at he hf1 ⊢;simp only at he hf1 ⊢;have h1:=gW he;obtain⟨h2,x,o,h3,h4,h5⟩:=tP (fun _ h=>il h) h1;have h6:=oR he (by show(jA data 32768 s).2.off<=_; unfold jA; rw[h4]; exact(fa h3).2.2);obtain⟨c1,c2,_⟩:=BU (b:=963) hs h1 (by omega);obtain⟨d1,d2⟩:=ux c2 he hf1;rw[if_pos h,gh,c1,d1]
  exact⟨_,rfl,d2⟩
 ·have hf2:=hf2 h;have h0: ¬eS kd=1:=by omega
  unfold cY eh at *;rw[if_neg h0,if_pos h]at he hf2 ⊢;simp only at he hf2 ⊢;obtain⟨h1,h2⟩:=yX (data:=data) hs;rw[if_neg h0,if_pos h,kA h1 hf2];exact⟨_,rfl,h2⟩
 ·have h0: ¬eS kd=1:=by omega
  have h00: ¬eS kd=2:=by omega
  unfold cY eh at *;rw[if_neg h0,if_neg h00]at he ⊢;simp only at he ⊢;obtain⟨h1,h2⟩:=wg (data:=data) (most:=512) hs;rw[if_neg h0,if_neg h00,if_pos h,h1];exact⟨_,rfl,h2⟩
theorem xj {data nm:List UInt8} {nm':ByteArray} {kd md td:Nat} {kd' md' td':Int} {s t t':RS} {a:aB} (hs:iz s t) (hn:nm'=⟨nm.toArray⟩) (hk:kd'=eS kd) (hm:md'=eS md) (ht:td'=eS td)
  (h0:eh data nm kd md td t=some (a,t')) (he:t'.err=0) (hv:bF a=true):
  (cY data nm' kd' md' td' s).1=a/\iz (cY data nm' kd' md' td' s).2 t':=by
 obtain⟨hf,_,_,_,hf1,hf2⟩:=ir hv;rw[(pC h0).1]at hf hf1 hf2;subst hn hk hm ht;unfold eh at h0;unfold cY
 rcases hf with h | h | h
 ·have hf1:=hf1 h;rw[if_pos h]at h0 ⊢;simp only[Option.some.injEq,Prod.mk.injEq]at h0;obtain⟨rfl,rfl⟩:=h0;simp only at hf1 ⊢;rw[gh]at he hf1 ⊢;obtain⟨c1,c2⟩:=wP (a:=32768) (by omega) hs (gV he);obtain⟨d1,d2⟩:=oU c2 he hf1;rw[c1,d1];exact⟨rfl,d2⟩
 ·have hf2:=hf2 h;have h1: ¬eS kd=1:=by omega
  rw[if_neg h1,if_pos h]at h0 ⊢;simp only[Option.some.injEq,Prod.mk.injEq]at h0;obtain⟨rfl,rfl⟩:=h0;simp only at hf2 ⊢;obtain⟨h1,h2⟩:=yX (data:=data) hs;rw[kA h1 (by rw[ml h1]; exact hf2)];exact⟨rfl,h2⟩
 ·have h1: ¬eS kd=1:=by omega
  have h2: ¬eS kd=2:=by omega
  rw[if_neg h1,if_neg h2]at h0 ⊢;rw[if_pos h]at h0;simp only[Option.some.injEq,Prod.mk.injEq]at h0;obtain⟨rfl,rfl⟩:=h0;obtain⟨h3,h4⟩:=wg (data:=data) (most:=512) hs;rw[h3];exact⟨rfl,h4⟩
theorem CJ {a b:Int} (h:gz a b) (h0:0<=a):a=b:=by unfold gz at h; omega
theorem vJ {a b:Int} (h:gz a b) (h0:0<=b) (h1:b<=511):a=b:=by unfold gz at h; omega
theorem sI {n:Nat} (h:n<=9223372036854775807):eS n=(n:Int):=by unfold eS wrap64; omega
theorem Fc {n:Nat} (hn:n<18446744073709551616) (h:0<=eS n):n<=9223372036854775807:=by unfold eS wrap64 at h; omega
theorem Eu {data:List UInt8} {s t s':RS} {a:aB} (hlen:data.length<=32768) (hs:iz s t) (h:kL data s=some (a,s')) (he:s'.err=0) (hv:bF a=true): ∃t',dM data t=some (a,t')/\iz s' t':=by
 obtain⟨n1,n2⟩:=wg (data:=data) (most:=64) hs;obtain⟨k1,k2⟩:=sD (data:=data) n2;obtain⟨m1,m2⟩:=sD (data:=data) k2;obtain⟨t1,t2⟩:=Dk (data:=data) m2;unfold kL mJ at h
 split at h
 ·simp at h
 ·rename_i htd;simp only[Option.some.injEq]at h;obtain⟨hf,hm0,hm1,hti,_,_⟩:=ir hv;have hk:=nu data (lu data 64 s).1.s (fx data (lu data 64 s).2).1 (fx data (fx data (lu data 64 s).2).2).1 (nK data (fx data (fx data (lu data 64 s).2).2).2).1.u (nK data (fx data (fx data (lu data 64 s).2).2).2).2;rw[h]at hk;obtain⟨hk1,hk2,_⟩:=hk;simp only at hk1 hk2
  have r:=Cm (td:=(ki data (ki data (ki data (qU data 64 t).2).2).2).1) (td':=((nK data (fx data (fx data (lu data 64 s).2).2).2).1.u:Int)) hlen t2 n1 (CJ k1 (by omega)) (CJ m1 (by omega)) (by rw[t1]; exact(sI (by rw[<-t1]; omega)).symm) (by rw[h]; exact he) (by rw[h]; exact hv);rw[h]at r;exact r
theorem zM {data:List UInt8} {s t t':RS} {a:aB} (hs:iz s t) (h:dM data t=some (a,t')) (he:t'.err=0) (hv:bF a=true): ∃s',kL data s=some (a,s')/\iz s' t':=by
 obtain⟨n1,n2⟩:=wg (data:=data) (most:=64) hs;obtain⟨k1,k2⟩:=sD (data:=data) n2;obtain⟨m1,m2⟩:=sD (data:=data) k2;obtain⟨t1,t2⟩:=Dk (data:=data) m2;unfold dM at h;obtain⟨hf,hm0,hm1,hti,_,_⟩:=ir hv;obtain⟨hk1,hk2,hk3⟩:=pC h;have htd:=Fc (DA _ _) (by rw[<-hk3]; exact hti);obtain⟨r1,r2⟩:=xj (nm':=(lu data 64 s).1.s) (kd':=(fx data (lu data 64 s).2).1) (md':=(fx data (fx data (lu data 64 s).2).2).1) (td':=((nK data (fx data (fx data (lu data 64 s).2).2).2).1.u:Int)) t2 n1 (vJ k1 (by omega) (by omega)) (vJ m1 (by omega) (by omega)) (by rw[t1]; exact(sI htd).symm) h he hv
 unfold kL mJ;rw[if_neg (by rw[t1]; omega)];exact⟨_,by rw[<-r1],r2⟩
theorem xo {data:List UInt8} {s s':RS} {a:aB} (h:dM data s=some (a,s')) (he:s'.err=0):s.err=0:=by
 unfold dM at h;exact yZ (my (my (my (xh h he))))
def itF {α β:Type} (f:β->Option (α×β)):Nat->List α->β->Option (List α×β)
 | 0,l,s=>some (l,s)
 | n+1,l,s=>(f s).bind fun p=>itF f n (l++[p.1]) p.2
theorem uW {α β:Type} (f:β->Option (α×β)): ∀(k:Nat) (l:List α) (s:β),itF f (k+1) l s=(itF f k l s).bind fun p=>(f p.2).map fun q=>(p.1++[q.1],q.2)
 | 0,l,s=>by
  show(f s).bind (fun p=>some (l++[p.1],p.2))=(f s).map fun q=>(l++[q.1],q.2)
  cases f s<;> rfl
 | k+1,l,s=>by
  show(f s).bind (fun p=>itF f (k+1) (l++[p.1]) p.2)=((f s).bind fun p=>itF f k (l++[p.1]) p.2).bind _
  cases f s with
  | none=>rfl
  | some p=>exact uW f k _ _
def iC (data:List UInt8) (n:Nat) (l:List aB) (s:RS):Option (List aB×RS):=itF (dM data) n l s
theorem jP (data:List UInt8) (l:List aB) (s:RS):iC data 0 l s=some (l,s):=rfl
theorem Cl {α β:Type} (f:β->Option (α×β)) (n:Nat) (l:List α) (s:β):itF f (n+1) l s=(f s).bind fun p=>itF f n (l++[p.1]) p.2:=rfl
theorem ii (data:List UInt8) (n:Nat) (l:List aB) (s:RS):iC data (n+1) l s=(dM data s).bind fun p=>iC data n (l++[p.1]) p.2:=Cl (dM data) n l s
theorem vd (data:List UInt8) (k:Nat) (l:List aB) (s:RS):iC data (k+1) l s=(iC data k l s).bind fun p=>(dM data p.2).map fun q=>(p.1++[q.1],q.2):=uW (dM data) k l s
theorem lV (data:List UInt8) (s0:RS): ∀k,dr data s0 k=iC data k [] s0
 | 0=>rfl
 | k+1=>by rw[vd,<-lV data s0 k,eY]
theorem nA {data:List UInt8} : ∀ {n:Nat} {l:List aB} {s s':RS} {r:List aB},cF data n l s=some (r,s')->s'.err=0->s.err=0
 | 0,l,s,s',r,h,he=>by
  simp only[cF,Option.some.injEq,Prod.mk.injEq]at h;obtain⟨_,rfl⟩:=h;exact he
 | n+1,l,s,s',r,h,he=>by
  rw[cF]at h
  split at h
  ·assumption
  ·simp only[Option.some.injEq,Prod.mk.injEq]at h;obtain⟨_,rfl⟩:=h;exact he
theorem jO {data:List UInt8} : ∀ {n:Nat} {l:List aB} {s s':RS} {r:List aB},iC data n l s=some (r,s')->s'.err=0->s.err=0
 | 0,l,s,s',r,h,he=>by
  simp only[jP,Option.some.injEq,Prod.mk.injEq]at h;obtain⟨_,rfl⟩:=h;exact he
 | n+1,l,s,s',r,h,he=>by
  rw[ii,Option.bind_eq_some_iff]at h;obtain⟨⟨a,s1⟩,h1,h2⟩:=h;exact xo h1 (jO h2 he)
theorem pE {data:List UInt8} : ∀ {n:Nat} {l:List aB} {s s':RS} {r:List aB} {a:aB},cF data n l s=some (r,s')->a∈l->a∈r
 | 0,l,s,s',r,a,h,ha=>by
  simp only[cF,Option.some.injEq,Prod.mk.injEq]at h;obtain⟨rfl,_⟩:=h;exact ha
 | n+1,l,s,s',r,a,h,ha=>by
  rw[cF]at h
  split at h
  ·rw[Option.bind_eq_some_iff]at h;obtain⟨⟨b,s1⟩,h1,h2⟩:=h;exact pE h2 (List.mem_append_left _ ha)
  ·simp only[Option.some.injEq,Prod.mk.injEq]at h;obtain⟨rfl,_⟩:=h;exact ha
theorem pD {data:List UInt8} : ∀ {n:Nat} {l:List aB} {s s':RS} {r:List aB} {a:aB},iC data n l s=some (r,s')->a∈l->a∈r
 | 0,l,s,s',r,a,h,ha=>by
  simp only[jP,Option.some.injEq,Prod.mk.injEq]at h;obtain⟨rfl,_⟩:=h;exact ha
 | n+1,l,s,s',r,a,h,ha=>by
  rw[ii,Option.bind_eq_some_iff]at h;obtain⟨⟨b,s1⟩,h1,h2⟩:=h;exact pD h2 (List.mem_append_left _ ha)
theorem vi {data:List UInt8} (hlen:data.length<=32768): ∀ {n:Nat} {l r:List aB} {s t s':RS},iz s t->cF data n l s=some (r,s')->s'.err=0->(∀a∈r,bF a=true)-> ∃t',iC data n l t=some (r,t')/\iz s' t'
 | 0,l,r,s,t,s',hs,h,he,hv=>by
  simp only[cF,Option.some.injEq,Prod.mk.injEq]at h;obtain⟨rfl,rfl⟩:=h;exact⟨t,rfl,hs⟩
 | n+1,l,r,s,t,s',hs,h,he,hv=>by
  have h0:=nA h he;rw[cF,if_pos h0,Option.bind_eq_some_iff]at h;obtain⟨⟨a,s1⟩,h1,h2⟩:=h;obtain⟨t1,h3,h4⟩:=Eu hlen hs h1 (nA h2 he) (hv a (pE h2 (by simp)));obtain⟨t',h5,h6⟩:=vi hlen h4 h2 he hv;exact⟨t',by rw[ii,h3]; exact h5,h6⟩
theorem pF {data:List UInt8} : ∀ {n:Nat} {l r:List aB} {s t t':RS},iz s t->iC data n l t=some (r,t')->t'.err=0->(∀a∈r,bF a=true)-> ∃s',cF data n l s=some (r,s')/\iz s' t'
 | 0,l,r,s,t,t',hs,h,he,hv=>by
  simp only[jP,Option.some.injEq,Prod.mk.injEq]at h;obtain⟨rfl,rfl⟩:=h;exact⟨s,rfl,hs⟩
 | n+1,l,r,s,t,t',hs,h,he,hv=>by
  have h0:=jO h he;rw[ii,Option.bind_eq_some_iff]at h;obtain⟨⟨a,t1⟩,h1,h2⟩:=h;obtain⟨s1,h3,h4⟩:=zM hs h1 (jO h2 he) (hv a (pD h2 (by simp)));obtain⟨s',h5,h6⟩:=pF h4 h2 he hv;exact⟨s',by rw[cF,if_pos (hs.1.2 h0),h3]; exact h5,h6⟩
theorem mA : ∀ {l:List aB} {p:Option ByteArray},cG p l=true-> ∀a∈l,bF a=true
 | [],_,_=>by simp
 | it::r,p,h=>by
  simp only[cG,Bool.and_eq_true]at h;intro a ha
  rcases List.mem_cons.1 ha with rfl | ha
  ·exact h.1.1
  ·exact mA h.2 a ha
theorem nN {l:List aB} (h:cr l=true): ∀a∈l,bF a=true:=by
 unfold cr at h;simp only[Bool.and_eq_true]at h;exact mA h.2
theorem rG {data:List UInt8} {s:RS} (h:fi data s=0):s.err=0:=by
 unfold fi at h
 split at h
 ·assumption
 ·exact h
theorem uJ {data:List UInt8} {s t:RS} (h:iz s t):fi data s=0<->fi data t=0:=by
 unfold fi
 by_cases he:s.err=0
 ·rw[if_pos he,if_pos (h.1.1 he),h.2 he]
 ·rw[if_neg he,if_neg (fun e=>he (h.1.2 e))];exact⟨fun e=>absurd e he,fun e=>absurd (h.1.2 e) he⟩
theorem CB (data:List UInt8):CA data=bB data:=by
 unfold CA bB
 by_cases hb:32768<data.length
 ·rw[if_pos hb,if_pos hb]
 rw[if_neg hb,if_neg hb];obtain⟨c1,c2⟩:=Fl (data:=data) (most:=4096) iz.start;have hn:(jA data 4096 ⟨0,0,0⟩).1.n.toNat=(kK data 4096 ⟨0,0,0⟩).1:=by rw[c1]; simp
 rw[hn,lV]
 apply Option.ext
 intro l;rw[Option.bind_eq_some_iff,Option.bind_eq_some_iff]
 constructor
 ·rintro⟨⟨r,s'⟩,h1,h2⟩
  split at h2
  ·rename_i hh;simp only[Option.some.injEq]at h2;subst h2;obtain⟨t',h3,h4⟩:=vi (by omega) c2 h1 (rG hh.1) (nN hh.2);exact⟨(r,t'),h3,by rw[if_pos ⟨(uJ h4).1 hh.1,hh.2⟩]⟩
  ·simp at h2
 ·rintro⟨⟨r,t'⟩,h1,h2⟩
  split at h2
  ·rename_i hh;simp only[Option.some.injEq]at h2;subst h2;obtain⟨s',h3,h4⟩:=pF c2 h1 (rG hh.1) (nN hh.2);exact⟨(r,s'),h3,by rw[if_pos ⟨(uJ h4).2 hh.1,hh.2⟩]⟩
  ·simp at h2
end Go.Proofs.YtpffpjbkbaleiaaGreatDoor
namespace Go.Proofs.YtpffpjbkbaleiaaGreatDoor
open Go.RowKit
theorem pP : ∀(f n j:Nat),1<=j->n<2^(7*j)->(eV f n).length<=j
 | 0,n,j,hj,_=>by simpa [eV]using hj
 | f+1,n,j,hj,h=>by
  rw[eV]
  by_cases hn:127<n
  ·rw[if_pos hn,List.length_cons];obtain⟨j,rfl⟩: ∃k,j=k+1:=⟨j-1,by omega⟩;have hj1:1<=j:=by
    rcases Nat.eq_zero_or_pos j with e | e
    ·subst e; simp at h; omega
    ·exact e
   have:=pP f (n/128) j hj1 (by
    rw[show 7*(j+1)=7*j+7 by omega,Nat.pow_add]at h;exact Nat.div_lt_of_lt_mul (by omega))
   omega
  ·rw[if_neg hn]; simpa using hj
theorem dG {n:Nat} (h:n<18446744073709551616):(aO n).length<=10:=pP 10 n 10 (by decide) (Nat.lt_trans h (by decide))
def Ok (data:List UInt8) (s:RS):Prop:=s.err=0/\s.off<=data.length
def dH (r:aN):List UInt8:=bl r.name++(aO r.gen.toNat++aO r.size.toNat)
theorem mB {r:aN} :dJ r=true<->r.name.size=32/\0<=r.gen/\r.gen<=1099511627776/\0<=r.size/\r.size<=32768:=by unfold dJ; simp[and_assoc]
end Go.Proofs.YtpffpjbkbaleiaaGreatDoor
namespace Go.Proofs.YtpffpjbkbaleiaaGreatDoor
open Go.RowKit
theorem oX (l:List UInt8):df l=(be l && !l.contains 47):=by
 by_cases h:(47:UInt8)∈l
 ·have h1:l.contains 47=true:=by simpa using h
  have h2:df l=false:=by unfold df; rw[h1]; simp
  rw[h1,h2]; simp
 ·have h1:l.contains 47=false:=by simpa using h
  rw[h1];unfold be;rw[ey 47 l h]
  cases hc:df l
  ·simp[hc]
  ·have h2:l.length<=64:=by
    unfold df at hc;simp only[Bool.and_eq_true,decide_eq_true_eq]at hc;exact hc.1.1.1.1.2
   simp[hc]; omega
end Go.Proofs.YtpffpjbkbaleiaaGreatDoor
namespace Go.Proofs.YtpffpjbkbaleiaaGreatDoor
open Go.RowKit
def lQ (it:aB):List UInt8:=
 if it.kind=1 then aO it.chunks.length++it.chunks.flatMap dH else if it.kind=2 then dH it.node else aO it.link.size++bl it.link
def dF (it:aB):List UInt8:=aO it.name.size++(bl it.name++(aO it.kind.toNat++(aO it.mode.toNat++(aO it.time.toNat++lQ it))))
def dP (l:List aB):List UInt8:=aO l.length++l.flatMap dF
structure Fp (it : aB) : Prop where
 val:be (bl it.name)=true
 nos:(bl it.name).contains 47=false
 md0:0<=it.mode
 md1:it.mode<=511
 tm0:0<=it.time
theorem lS {it:aB} :mz it=true<->Fp it:=by
 unfold mz
 constructor
 ·intro h;simp only[Bool.and_eq_true,decide_eq_true_eq,Bool.not_eq_true']at h;exact⟨h.1.1,h.1.2,h.2.1.1,h.2.1.2,h.2.2⟩
 ·intro h;simp only[Bool.and_eq_true,decide_eq_true_eq,Bool.not_eq_true'];exact⟨⟨h.val,h.nos⟩,⟨h.md0,h.md1⟩,h.tm0⟩
theorem iN {it:aB} (hk:it.kind=1) (h:bT it=true):it.link=⟨#[]⟩/\it.node=bg/\(∀c∈it.chunks,dJ c=true/\1<=c.size)/\it.size=du it.chunks/\it.size<=1048576:=by
 unfold bT at h;rw[if_pos hk]at h;unfold bV at h;simp only[Bool.and_eq_true,decide_eq_true_eq,List.all_eq_true]at h;refine⟨?_,h.1.2,fun c hc=> ?_,h.2.2.1,h.2.2.2⟩
 ·apply fg
  have:=h.1.1;rw[az]at this;rw[List.eq_nil_of_length_eq_zero this]; rfl
 ·have:=h.2.1 c hc;unfold fm at this;simp only[Bool.and_eq_true,decide_eq_true_eq]at this;exact⟨this.1,by have:=this.2; omega⟩
theorem un {it:aB} (hk:it.kind=2) (h:bT it=true):it.link=⟨#[]⟩/\it.size=0/\it.chunks=[]/\dJ it.node=true:=by
 unfold bT at h;rw[if_neg (by omega),if_pos hk]at h;simp only[Bool.and_eq_true,decide_eq_true_eq]at h;refine⟨?_,h.1.1.2,List.eq_nil_of_length_eq_zero h.1.2,h.2⟩
 apply fg
 have:=h.1.1.1;rw[az]at this;rw[List.eq_nil_of_length_eq_zero this]; rfl
theorem ri {it:aB} (hk:it.kind=3) (h:bT it=true):it.size=0/\it.chunks=[]/\it.node=bg/\1<=it.link.size/\it.link.size<=512/\(bl it.link).contains 0=false:=by
 unfold bT at h;rw[if_neg (by omega),if_neg (by omega),if_pos hk]at h;simp only[Bool.and_eq_true,decide_eq_true_eq,Bool.not_eq_true']at h;exact⟨h.1.1.1,List.eq_nil_of_length_eq_zero h.1.1.2,h.1.2,h.2.1.1,h.2.1.2,h.2.2⟩
theorem mF {it:aB} (h:bT it=true):it.kind=1\/it.kind=2\/it.kind=3:=by
 unfold bT at h
 by_cases h1:it.kind=1
 ·exact .inl h1
 ·by_cases h2:it.kind=2
  ·exact .inr (.inl h2)
  ·by_cases h3:it.kind=3
   ·exact .inr (.inr h3)
   ·rw[if_neg h1,if_neg h2,if_neg h3]at h; cases h
theorem oW {l:List UInt8} (h:be l=true) (h2:l.contains 47=false):l.length<=64:=by
 have:=oX l;rw[h,h2]at this;unfold df at this;simp only[Bool.not_false,Bool.and_self,Bool.and_eq_true,decide_eq_true_eq]at this;omega
theorem qv : ∀ {l:List aB} {p:Option ByteArray},cG p l=true-> ∀it∈l,bF it=true
 | it::l,p,h,x,hx=>by
  rw[cG,Bool.and_eq_true,Bool.and_eq_true]at h
  rcases List.mem_cons.1 hx with rfl | hx
  ·exact h.1.1
  ·exact qv h.2 x hx
theorem kF {l:List aB} (h:cr l=true):l.length<=4096/\ ∀it∈l,bF it=true:=by
 unfold cr at h;rw[Bool.and_eq_true,decide_eq_true_eq]at h;exact⟨h.1,qv h.2⟩
end Go.Proofs.YtpffpjbkbaleiaaGreatDoor
namespace Go.Proofs.YtpffpjbkbaleiaaGreatDoor
open Go Go.RowKit
theorem Gq {x:Nat} (h:x<256):x ||| 128=x%128+128:=by
 have: ∀y:Fin 256,y.val ||| 128=y.val%128+128:=by decide
 exact this ⟨x,h⟩
theorem zy (n:Nat):Value.int .u8 (bits BinOp.or IntKind.u8 ((n:Int)%256) 128)=aw (UInt8.ofNat (n%128+128)):=by
 rw[iO (by omega),show((n:Int)%256)=((n%256:Nat):Int) by omega,show(128:Int)=((128:Nat):Int)from rfl,u8_or_nat _ _ (by omega) (by decide),Gq (by omega)]
 congr 2
 omega
theorem zx {n:Nat} (h:n<256):Value.int .u8 (n:Int)=aw (UInt8.ofNat n):=(iO h).symm
def gO (w:World) (base:Nat) (v:Value) (acc:List UInt8):Prop:=w.ownsRow base 5 1 v acc.length (acc.map aw)
def Fq (base:Nat) (v:Value) (acc:List UInt8) (w:World) (e:Ending) (w':World):Prop:= ∃v',e= .returned v'/\gO w' base v' acc/\w.grownBy w' v.ownBlock/\(∀k,v'.ownBlock=some k->v.ownBlock=some k\/w.heap.size<=k)
structure DT (base : Nat) (v : Value) (w : World) (x : Value) (ac : List UInt8) (wr : World) : Prop where
 own:gO wr base x ac
 grown:w.grownBy wr v.ownBlock
 place: ∀k,x.ownBlock=some k->v.ownBlock=some k\/w.heap.size<=k
theorem DT.next {base:Nat} {v:Value} {w:World} {x:Value} {ac:List UInt8} {wr wc:World} {v' u:Value} {n:Nat} {b:UInt8} (h:DT base v w x ac wr) (h1:wc.ownsRow base 5 1 v' (n+1) (ac.map aw++[u])) (h2:wr.grownBy wc x.ownBlock) (h3: ∀k,v'.ownBlock=some k->x.ownBlock=some k\/wr.heap.size<=k)
  (hn:n=ac.length) (hu:u=aw b):DT base v w v' (ac++[b]) wc:=by
 subst hn hu;refine⟨by unfold gO; simpa using h1,⟨h2.os.trans h.grown.os,h2.tape.trans h.grown.tape,h2.output.trans h.grown.output,Nat.le_trans h.grown.size h2.size,fun k hk hne=> ?_⟩,fun k hk=> ?_⟩
 ·rw[h2.block k (Nat.lt_of_lt_of_le hk h.grown.size) (fun e=> ?_)]
  ·exact h.grown.block k hk hne
  ·rcases h.place k e.symm with e2 | e2
   ·exact hne e2.symm
   ·omega
 ·rcases h3 k hk with e | e
  ·exact h.place k e
  ·exact .inr (Nat.le_trans h.grown.size e)
theorem lf (base:Nat) (v:Value) (acc:List UInt8) (n:Nat) (w:World) (hv:gO w base v acc) (hb:base<=w.heap.size) (hl:acc.length<1099511000000) (hn:n<18446744073709551616):
  Calls Tryz.prog 100 #[v, .int .u64 (n:Int)] w (Fq base v (acc++aO n) w):=by
 have HV:=ag hv;obtain⟨a0,c0,rfl,h10,h20⟩:=am hv;clear hv
 go_enter Tryz.func100,Tryz.ntmps100
 go_wp2_with fail
 go_loopw [0,1] (fun x y wr=> ∃(f m:Nat) (ac:List UInt8),y= .int .u64 (m:Int)/\m<18446744073709551616/\m<2^(7*f)/\ac++eV f m=acc++aO n/\DT base (.slice a0 acc.length c0) w x ac wr) (fun _ y _=>(intOf y).toNat)
 case atStart=>exact⟨10,n,acc,rfl,hn,Nat.lt_trans hn (by decide),rfl,HV.out,jk _ _,fun k hk=> .inl hk⟩
 case round=>
  obtain⟨f,m,ac,rfl,hm,hmf,henc,hinv⟩:=hrel;obtain⟨ax,cx,rfl,h1,h2⟩:=am hinv.own;obtain⟨xl,hxl⟩: ∃xl,xl=ac.length:=⟨_,rfl⟩;rw[<-hxl]at hinv h1 ⊢;have HI:=ag hinv;have HXL:=ag hxl;have HO:=ag (show wr.ownsRow base 5 1 (.slice ax xl cx) xl (ac.map aw) by have:=hinv.own; unfold gO at this; rw[<-hxl]at this; exact this);have HE:=ag henc;have HMF:=ag hmf
  have hbz:base<=wr.heap.size:=by have:=hinv.grown.size; omega
  have hlen:=congrArg List.length henc;rw[List.length_append,List.length_append]at hlen;have:=cJ n;have hxb:xl<1099511627775:=by omega
  clear hinv henc hmf hlen this hxl
  by_cases hlt:127<m
  ·have HV:=ag (zy m);have HZ:=ag (show ∀u∈[(Value.int .u8 (bits BinOp.or IntKind.u8 ((m:Int)%256) 128))],u.oneCell'=true by simp[Value.oneCell']);obtain⟨f,rfl⟩: ∃g,f=g+1:=⟨f-1,by
    cases f with
    | zero=>have:=HMF.out; simp at this; omega
    | succ g=>rfl⟩
   have HE2:=ag (show(ac++[UInt8.ofNat (m%128+128)])++eV f (m/128)=acc++aO n by rw[<-HE.out,eV,if_pos hlt]; simp);have HMF2:=ag (show m/128<2^(7*f) by
    have h3:=HMF.out;rw[show 7*(f+1)=7*f+7 by omega,Nat.pow_add]at h3;exact Nat.div_lt_of_lt_mul (by omega))
   go_wp2_with (at_builtin; go_loud (refine aJ Tryz.appBytes rfl _ _ rfl base (.slice ax xl cx) xl (ac.map aw) rfl wr [Value.int .u8 (bits BinOp.or IntKind.u8 ((m:Int)%256) 128)] _ rfl rfl HZ.out HO.out hxb hbz ?_); intro v' wc hown' hgrow' _ hpl'; go_loud (have HP:=ag (HI.out.next hown' hgrow' hpl' HXL.out HV.out)); obtain⟨ae,ce,rfl,-,-⟩:=am hown'; clear hown' hgrow' hpl')
   go_roundw
   case rel=>exact⟨f,m/128,_,by simp,by omega,HMF2.out,HE2.out,HP.out⟩
   case measure=>simp[intOf]; omega
  ·have HV:=ag (zx (n:=m) (by omega));have HZ:=ag (show ∀u∈[(Value.int .u8 (m:Int))],u.oneCell'=true by simp[Value.oneCell']);have HE2:=ag (show ac++[UInt8.ofNat m]=acc++aO n by
    rw[<-HE.out]
    cases f with
    | zero=>rfl
    | succ f=>rw[eV,if_neg hlt])
   go_wp2_with (at_builtin; go_loud (refine aJ Tryz.appBytes rfl _ _ rfl base (.slice ax xl cx) xl (ac.map aw) rfl wr [Value.int .u8 (m:Int)] _ rfl rfl HZ.out HO.out hxb hbz ?_); intro v' wc hown' hgrow' _ hpl'; go_loud (have HP:=ag (HI.out.next hown' hgrow' hpl' HXL.out HV.out)); obtain⟨ae,ce,rfl,-,-⟩:=am hown'; clear hown' hgrow' hpl');go_ret;rw[<-HE2.out];exact⟨_,rfl,HP.out.own,HP.out.grown,HP.out.place⟩
theorem oG (n:Nat) (w:World) (hn:n<18446744073709551616):
  Calls Tryz.prog 176 #[.slice none 0 0, .int .u64 (n:Int)] w fun e w'=> ∃v,e= .returned v/\gO w' w.heap.size v (aO n)/\Below w.heap.size w w':=by
 obtain⟨ht9,⟨i9,z9,h91,h92,h93,h94,h95⟩,-,-⟩:=Tryz.appBytes;have hb32:i9.bytes*10<=281474976710656:=by rw[h94]; decide
 have H9:=ag (And.intro h91 (And.intro h92 (And.intro h93 hb32)));clear h91 h92 h93 h94 h95 hb32
 go_enter Tryz.func176,Tryz.ntmps176
 go_wp2_with (first | (refine wpList_make_own _ rfl _ _ 29 rfl w.heap.size 5 i9 z9 1 Tryz.underlying29 H9.out.1 H9.out.2.1 H9.out.2.2.1 .i64 .i64 10 10 rfl rfl rfl H9.out.2.2.2 (by decide) (Nat.le_refl _) ?_; intro w4 hown4 hg4; have HO4:=ag hown4; have HG4:=ag hg4; clear hown4 hg4));refine(lf w.heap.size _ [] n w4 HO4.out HG4.out.size (by simp) hn).mono ?_;rintro e w5 ⟨v',rfl,ho5,hg5,-⟩
 rw[List.nil_append]at ho5;have HO5:=ag ho5;have HB5:=ag ((eJ HG4.out).grown hg5 HG4.out.size (fun k hk=>by cases hk; exact Nat.le_refl _));obtain⟨a5,c5,rfl,-,-⟩:=am ho5;clear ho5 hg5;go_wp2_with fail;go_ret;exact⟨_,rfl,HO5.out,HB5.out⟩
end Go.Proofs.YtpffpjbkbaleiaaGreatDoor
namespace Go.Proofs.YtpffpjbkbaleiaaGreatDoor
open Go Go.RowKit
structure bH where
 nm:ByteArray
 st:ByteArray
 ck:ByteArray
 ix:ByteArray
 tk:ByteArray
def bH.list (k:bH):List ByteArray:=[k.nm,k.st,k.ck,k.ix,k.tk]
def di (k:bH):List Value:=[.string k.nm, .string k.st, .string k.ck, .string k.ix, .string k.tk]
def iS (k:bH):Value:= .agg #[.string k.nm, .string k.st, .string k.ck, .string k.ix, .string k.tk]
def fP (k:bH):Bool:=k.list.all fun s=>decide (s.size=32)
theorem zO (k:bH) {j:Nat} (h:j<5): ∃s,k.list[j]? =some s/\(di k)[j]? =some (.string s):=by
 have hc:j=0\/j=1\/j=2\/j=3\/j=4:=by omega
 rcases hc with rfl | rfl | rfl | rfl | rfl
 ·exact⟨_,rfl,rfl⟩
 ·exact⟨_,rfl,rfl⟩
 ·exact⟨_,rfl,rfl⟩
 ·exact⟨_,rfl,rfl⟩
 ·exact⟨_,rfl,rfl⟩
theorem qT (k:bH) (w:World):Calls Tryz.prog 115 #[iS k] w fun e w'=>e= .returned (.bool (fP k))/\Below w.heap.size w w':=by
 unfold iS
 go_enter Tryz.func115,Tryz.ntmps115
 go_wp2_with fail;obtain⟨W1,hW1⟩: ∃W1,W1=(w.alloc (.cells #[.string k.nm, .string k.st, .string k.ck, .string k.ix, .string k.tk] 42)).alloc (.cells #[.string k.nm, .string k.st, .string k.ck, .string k.ix, .string k.tk] 9):=⟨_,rfl⟩;rw[<-hW1];have HB1:=ag (show Below w.heap.size w W1 by rw[hW1]; exact((Below.refl _ _).alloc (Nat.le_refl _) _).alloc (by simp) _);have HX1:=ag (show W1.heap[w.heap.size+1]? =some (.cells (di k).toArray 9 (0,0)) by
  rw[hW1];have:=heap_alloc_new (w.alloc (.cells #[.string k.nm, .string k.st, .string k.ck, .string k.ix, .string k.tk] 42)) (.cells #[.string k.nm, .string k.st, .string k.ck, .string k.ix, .string k.tk] 9);rw[show(w.alloc (.cells #[.string k.nm, .string k.st, .string k.ck, .string k.ix, .string k.tk] 42)).heap.size=w.heap.size+1 by simp]at this;exact this)
 clear hW1
 go_loopw [17] (fun i wr=> ∃j:Nat,j<=5/\i= .int .i64 (j:Int)/\wr=W1/\(k.list.take j).all (fun s=>decide (s.size=32))=true) (fun i _=>5-(intOf i).toNat)
 case atStart=>exact⟨0,by omega,rfl,rfl,rfl⟩
 case round=>
  obtain⟨j,hj,rfl,rfl,hall⟩:=hrel;have HA:=ag hall;clear hall
  by_cases h5:j<5
  ·obtain⟨s,hs1,hs2⟩:=zO k h5;have c0:wr.cell? ⟨w.heap.size+1,j,none⟩=some (.string s):=by rw[cell_of_row wr _ _ _ _ _ HX1.out,List.getElem?_toArray]; exact hs2
   have hji:(j:Int)<5:=by omega
   have HS:=ag hs1;clear hs1 hs2
   by_cases h32:s.size=32
   ·have h32i:(s.size:Int)=32:=by omega
    go_wp2_with fail
    go_roundw
    case rel=>exact⟨j+1,by omega,by simp,trivial,by rw[List.take_add_one,HS.out,List.all_append,HA.out]; simp[h32]⟩
    case measure=>simp[intOf]; omega
   ·have h32i: ¬(s.size:Int)=32:=by omega
    go_wp2_with fail;go_ret;have hf:fP k=false:=by
     unfold fP;rw[List.all_eq_false];exact⟨s,List.mem_of_getElem? HS.out,by simpa using h32⟩
    rw[hf];exact⟨rfl,HB1.out⟩
  ·obtain rfl:j=5:=by omega
   go_wp2_with fail;go_ret;have hf:fP k=true:=HA.out;rw[hf];exact⟨rfl,HB1.out⟩
theorem js (k:bH) (b:Bool) (w:World) (h:fP k=b):Calls Tryz.prog 115 #[iS k] w fun e w'=>e= .returned (.bool b)/\Below w.heap.size w w':=by rw[<-h]; exact qT k w
theorem sJ {k:bH} (h:fP k=true):k.nm.size=32/\k.st.size=32/\k.ck.size=32/\k.ix.size=32/\k.tk.size=32:=by
 unfold fP bH.list at h;simp only[List.all_cons,List.all_nil,Bool.and_true,Bool.and_eq_true,decide_eq_true_eq]at h;exact h
def lZ (k:bH) (g:Nat) (c:List UInt8):ByteArray:=⟨(wt (bl k.nm) (aO g++c)).toArray⟩
theorem lp (k:bH) (g:Nat) (c:List UInt8):(lZ k g c).size=32:=by unfold lZ; rw[az,eK,wu]
theorem mr (S:Nat->Prop) (k:bH) (g:Nat) (c:List UInt8) (cv:Value) (w:World) (hk:fP k=true) (hg:g<=1099511627776) (hc:aD S w cv c) (hl:c.length<=32768) (hE:sS w):
  Calls Tryz.prog 156 #[iS k, .int .i64 (g:Int),cv] w fun e w'=>e= .returned (.tuple #[.string (lZ k g c), .int .i64 0])/\Below w.heap.size w w':=by
 have HK:=ag hk;have HC:=ag hc;have HE:=ag hE;obtain⟨_,a,cap,rfl,hcap,hcm,-⟩:=id hc;obtain⟨cl,hcl⟩: ∃cl,cl=c.length:=⟨_,rfl⟩;rw[<-hcl]at hl HC ⊢;have HCL:=ag hcl;clear hk hc hE hcl hcap hcm;unfold iS
 go_enter Tryz.func156,Tryz.ntmps156
 go_wp2_with fail;obtain⟨W1,hW1⟩: ∃W1,W1=w.alloc (.cells #[.string k.nm, .string k.st, .string k.ck, .string k.ix, .string k.tk] 42):=⟨_,rfl⟩;rw[<-hW1];have HB1:=ag (show Below w.heap.size w W1 by rw[hW1]; exact(Below.refl _ _).alloc (Nat.le_refl _) _);have HX1:=ag (show W1.heap[w.heap.size]? =some (.cells (di k).toArray 42 (0,0)) by rw[hW1]; exact heap_alloc_new w _);clear hW1
 refine(js k true W1 HK.out).mono ?_;rintro e w1 ⟨rfl,hb1⟩;have HB2:=ag (ai HB1.out hb1);have HX2:=ag ((hb1.block _ (lt_of_block HX1.out)).trans HX1.out);clear hb1;go_wp2_with fail;refine cH (fun w'=>w'.cell? ⟨w.heap.size,0,none⟩=some (.string k.nm)) (by kernel_rfl) ?_;obtain⟨V,hV⟩: ∃V:World,V=w1.drew:=⟨_,rfl⟩;rw[<-hV];have HBV:=ag (show Below w.heap.size w V by rw[hV]; exact HB2.out.trans ((Below.refl _ _).drew))
 have HXV:=ag (show V.heap[w.heap.size]? =some (.cells (di k).toArray 42 (0,0)) by rw[hV]; exact HX2.out);clear hV;have hSV:V.cell? ⟨w.heap.size,0,none⟩=some (.string k.nm):=(cell_of_row V _ _ _ _ _ HXV.out).trans rfl;refine ah 0 rfl (by kernel_rfl) (by kernel_rfl) (by kernel_rfl) (fun _ _ _ h=>h) rfl hSV (by intro w' hw1; go_simp; rfl) ?_;simp only[Act.put,aE,aF,aG]
 refine ah 1 rfl (by kernel_rfl) (by kernel_rfl) (by kernel_rfl) (fun _ _ _ h=>h) rfl hSV (by intro w' hw1; go_simp; rfl) ?_;simp only[Act.put,aE,aF,aG];refine ah 2 rfl (by kernel_rfl) (by kernel_rfl) (by kernel_rfl) (fun _ _ _ h=>h) rfl hSV (by intro w' hw1; go_simp; rfl) ?_;simp only[Act.put,aE,aF,aG];refine ah 3 rfl (by kernel_rfl) (by kernel_rfl) (by kernel_rfl) (fun _ _ _ h=>h) rfl hSV (by intro w' hw1; go_simp; rfl) ?_
 simp only[Act.put,aE,aF,aG];refine ah 5 rfl (by kernel_rfl) (by kernel_rfl) (by kernel_rfl) (fun _ _ _ h=>h) rfl hSV (by intro w' hw1; go_simp; rfl) ?_;simp only[Act.put,aE,aF,aG];refine ay 4 rfl (by kernel_rfl) rfl (fun K hK=> ?_);go_wp2_with fail;refine(oG g V (by omega)).mono ?_;rintro e w3 ⟨v3,rfl,ho3,hb3⟩;obtain⟨a3,c3,rfl,-,-⟩:=am ho3
 have HB3:=ag (ai HBV.out hb3);have hS3:w3.cell? ⟨w.heap.size,0,none⟩=some (.string k.nm):=(hb3.cell (p:=⟨w.heap.size,0,none⟩) (lt_of_block HXV.out)).trans hSV;have hVs:=HBV.out.size;have HO3:=ag ho3;have HLN:=ag (dG (n:=g) (by omega));have hbase:=hb3.size;clear ho3 hb3 hSV;go_wp2_with fail;refine⟨hS3, ?_⟩;refine ay 6 rfl (by kernel_rfl) rfl (fun K hK=> ?_)
 have HCB:=ag (show aD S w3 (.slice a cl cap) c from aT.below HC.out (by omega) HB3.out);have hnl:(aO g).length+cl<1099511627775:=by have:=HLN.out; omega
 have HRW:=ag (show aT S w3 1 (.slice a cl cap) cl (c.map aw) by have h9:=HCB.out; unfold aD at h9; rw[<-HCL.out]at h9; exact h9);go_wp2_with (at_builtin; go_loud (refine em Tryz.appBytes rfl _ _ rfl V.heap.size (.slice a3 (aO g).length c3) (aO g).length ((aO g).map aw) rfl HO3.out (.slice a cl cap) cl (c.map aw) rfl HRW.out (dT c) hnl hbase ?_); intro v' wc hown' hgrow'; have HO4:=ag hown'; have HG4:=ag hgrow'; obtain⟨a4,c4,rfl,-,-⟩:=am hown'; clear hown' hgrow')
 have HB4:=ag (show Below w.heap.size w wc from de HB3.out HO3.out HG4.out hVs HB3.out.size);have hS4:wc.cell? ⟨w.heap.size,0,none⟩=some (.string k.nm):=by
  rw[<-hS3];exact World.cell?_of_block (HG4.out.block w.heap.size (by have:=lt_of_block HXV.out; omega) (fun e=>by have h1:=(HO3.out.lt _ e.symm).1; have:=lt_of_block HXV.out; omega))
 have HBY:=ag (show aD (fun _=>True) wc (.slice a4 ((aO g).length+cl) c4) (aO g++c) by
  have h9:=bi HO4.out;rw[<-List.map_append]at h9;unfold aD;rw[List.length_append,<-HCL.out];exact h9.weak (fun _ _=>trivial))
 have hml:(aO g++c).length<281474976710656:=by rw[List.length_append,<-HCL.out]; have:=HLN.out; omega
 clear hS3;refine⟨hS4, ?_⟩;refine ay 7 rfl (by kernel_rfl) rfl (fun K hK=> ?_);have hnm:=(sJ HK.out).1;go_wp2_with fail;refine(ns (fun _=>True) k.nm (aO g++c) _ wc (by rw[hnm]; decide) HBY.out hml (HE.out.below HB4.out)).mono ?_;rintro e w5 ⟨rfl,hb5⟩;have HB5:=ag (ai HB4.out hb5);have hS5:w5.cell? ⟨w.heap.size,0,none⟩=some (.string k.nm):=(hb5.cell (p:=⟨w.heap.size,0,none⟩) (block_lt_of_cell hS4)).trans hS4
 clear hb5 hS4;go_wp2_with fail;refine⟨hS5, ?_⟩;refine ah 8 rfl (by kernel_rfl) (by kernel_rfl) (by kernel_rfl) (fun _ _ _ h=>h) rfl hS5 (by intro w' hw1; go_simp; rfl) ?_;simp only[Act.put,aE,aF,aG];refine ah 9 rfl (by kernel_rfl) (by kernel_rfl) (by kernel_rfl) (fun _ _ _ h=>h) rfl hS5 (by intro w' hw1; go_simp; rfl) ?_;simp only[Act.put,aE,aF,aG];refine aV (by kernel_rfl) ?_
 go_wp2_with fail
 go_ret2
 exact⟨rfl,HB5.out⟩
theorem qS (k:bH) (w:World) (hE:sS w):Calls Tryz.prog 69 #[iS k, .slice none 0 0] w fun e w'=>(∃v,e= .returned (.tuple #[v, .int .i64 (if fP k=true then 0 else 1)]))/\Below w.heap.size w w':=by
 have HE:=ag hE;clear hE;unfold iS
 by_cases hk:fP k=true
 ·rw[if_pos hk];have HK:=ag hk;clear hk
  go_enter Tryz.func69,Tryz.ntmps69
  go_wp2_with fail;obtain⟨W1,hW1⟩: ∃W1,W1=w.alloc (.cells #[.string k.nm, .string k.st, .string k.ck, .string k.ix, .string k.tk] 42):=⟨_,rfl⟩;rw[<-hW1];have HB1:=ag (show Below w.heap.size w W1 by rw[hW1]; exact(Below.refl _ _).alloc (Nat.le_refl _) _);have HX1:=ag (show W1.heap[w.heap.size]? =some (.cells (di k).toArray 42 (0,0)) by rw[hW1]; exact heap_alloc_new w _);clear hW1
  refine(js k true W1 HK.out).mono ?_;rintro e w1 ⟨rfl,hb1⟩;have HB2:=ag (ai HB1.out hb1);have HX2:=ag ((hb1.block _ (lt_of_block HX1.out)).trans HX1.out);have c2:w1.cell? ⟨w.heap.size,2,none⟩=some (.string k.ck):=(cell_of_row w1 _ _ _ _ _ HX2.out).trans rfl;have hck:=(sJ HK.out).2.2.1;clear hb1;go_wp2_with fail;refine(ns (fun _=>True) k.ck [] _ w1 (by rw[hck]; decide) (aT.nil _ _ _) (by decide) (HE.out.below HB2.out)).mono ?_
  rintro e w2 ⟨rfl,hb2⟩;have HB3:=ag (ai HB2.out hb2);obtain⟨t,ht⟩: ∃t:ByteArray,t=⟨(wt (bl k.ck) []).toArray⟩:=⟨_,rfl⟩;have htz:t.size=32:=by rw[ht,az,eK,wu]
  rw[<-ht];obtain⟨W3,cp,hcv,-,hbw,-⟩:=rz (t.extract 0 16) w2 (by have:=Lib.extract_data t 0 16; rw[ByteArray.size_extract]; unfold maxLen; omega);have HB4:=ag (ai HB3.out hbw);clear hb2 ht hbw c2;go_wp2_with fail
  go_ret2
  exact⟨⟨_,rfl⟩,HB4.out⟩
 ·rw[if_neg hk];have HK:=ag (show fP k=false by simpa using hk);clear hk
  go_enter Tryz.func69,Tryz.ntmps69
  go_wp2_with fail;obtain⟨W1,hW1⟩: ∃W1,W1=w.alloc (.cells #[.string k.nm, .string k.st, .string k.ck, .string k.ix, .string k.tk] 42):=⟨_,rfl⟩;rw[<-hW1];have HB1:=ag (show Below w.heap.size w W1 by rw[hW1]; exact(Below.refl _ _).alloc (Nat.le_refl _) _);have HX1:=ag (show W1.heap[w.heap.size]? =some (.cells (di k).toArray 42 (0,0)) by rw[hW1]; exact heap_alloc_new w _);clear hW1
  refine(js k false W1 HK.out).mono ?_;rintro e w1 ⟨rfl,hb1⟩;have HB2:=ag (ai HB1.out hb1);clear hb1;go_wp2_with fail
  go_ret2
  exact⟨⟨_,rfl⟩,HB2.out⟩
end Go.Proofs.YtpffpjbkbaleiaaGreatDoor
namespace Go.Proofs.YtpffpjbkbaleiaaGreatDoor
def dR (x k:Nat):Nat:=(x*2^k%18446744073709551616) ||| (x/2^(64-k))
def nV :Nat->Nat->Nat
 | 0,x=>x
 | n+1,x=>dR (nV n x) 1
theorem fA {x k:Nat} (_hk:k<=64) (i:Nat):(dR x k).testBit i=((decide (i<64) && decide (k<=i) && x.testBit (i-k)) || x.testBit (64-k+i)):=by
 unfold dR;rw[Nat.testBit_or,show(18446744073709551616:Nat)=2^64 from rfl,Nat.testBit_mod_two_pow,Nat.testBit_mul_two_pow,Nat.testBit_div_two_pow,Nat.add_comm i (64-k),Bool.and_assoc]
theorem gB {x:Nat} (hx:x<18446744073709551616) {i:Nat} (h:64<=i):x.testBit i=false:=
 Nat.testBit_lt_two_pow (Nat.lt_of_lt_of_le hx (Nat.pow_le_pow_right (by decide) h:2^64<=2^i))
theorem iX {x:Nat} (k:Nat) (hx:x<18446744073709551616):dR x k<18446744073709551616:=
 Nat.or_lt_two_pow (n:=64) (Nat.mod_lt _ (by decide)) (Nat.lt_of_le_of_lt (Nat.div_le_self _ _) hx)
theorem yV : ∀(n:Nat) {x:Nat},x<18446744073709551616->nV n x<18446744073709551616
 | 0,_,h=>h
 | n+1,_,h=>iX 1 (yV n h)
theorem qc {x:Nat} (hx:x<18446744073709551616):dR x 0=x:=by
 unfold dR;rw[show(2:Nat)^(64-0)=18446744073709551616 by decide,Nat.div_eq_of_lt hx,Nat.or_zero,Nat.pow_zero,Nat.mul_one,Nat.mod_eq_of_lt hx]
theorem xM {x k:Nat} (hx:x<18446744073709551616) (hk:k<64):dR (dR x k) 1=dR x (k+1):=by
 apply Nat.eq_of_testBit_eq
 intro i;rw[fA (by decide),fA (by omega),fA (by omega),fA (by omega)]
 by_cases h64:i<64
 ·by_cases h0:i=0
  ·subst h0;have e1:x.testBit (64-k+(64-1+0))=false:=gB hx (by omega);have e2:64-1+0-k=64-(k+1)+0:=by omega
   have e3:x.testBit (64-0+0-k+64)=false:=gB hx (by omega);simp only[e1,e2];simp;omega
  ·have e1:x.testBit (64-k+(64-1+i))=false:=gB hx (by omega);have e2:(64-1+i<64)=False:=by simp; omega
   have e3:i-1-k=i-(k+1):=by omega
   have e4:64-k+(i-1)=64-(k+1)+i:=by omega
   have e5:(decide (k<=i-1))=decide (k+1<=i):=by rw[decide_eq_decide]; omega
   have e6:decide (1<=i)=true:=by simp; omega
   have e7:decide (i-1<64)=true:=by simp; omega
   have e8:decide (i<64)=true:=by simp; omega
   have e9:decide (64-1+i<64)=false:=by simp; omega
   simp only[e1,e3,e4,e5,e6,e7,e8,e9,Bool.true_and,Bool.false_and,Bool.or_false]
 ·have e1:x.testBit (64-k+(64-1+i))=false:=gB hx (by omega);have e2:x.testBit (64-(k+1)+i)=false:=gB hx (by omega);have e8:decide (i<64)=false:=by simp; omega
  have e9:decide (64-1+i<64)=false:=by simp; omega
  simp only[e1,e2,e8,e9,Bool.false_and,Bool.or_false]
theorem ow {x:Nat} (hx:x<18446744073709551616): ∀ {k:Nat},k<=64->nV k x=dR x k
 | 0,_=>(qc hx).symm
 | k+1,h=>by rw[nV,ow hx (k:=k) (by omega),xM hx (by omega)]
theorem AH {x:Nat} (hx:x<18446744073709551616):nV 64 x=x:=by
 rw[ow hx (by decide)];unfold dR;rw[show(2:Nat)^64=18446744073709551616 by decide,Nat.mul_mod_left,Nat.zero_or];simp
theorem EP {x y:Nat} (hx:x<18446744073709551616) (hy:y<18446744073709551616) {k:Nat} (hk:k<=64):dR (x^^^y) k=dR x k^^^dR y k:=by
 apply Nat.eq_of_testBit_eq
 intro i;rw[Nat.testBit_xor,fA hk,fA hk,fA hk,Nat.testBit_xor,Nat.testBit_xor]
 by_cases h:i<64/\k<=i
 ·have e:decide (i<64)=true/\decide (k<=i)=true:=by simpa using h
  rw[e.1,e.2,gB hx (i:=64-k+i) (by omega),gB hy (i:=64-k+i) (by omega)];simp
 ·have e:(decide (i<64) && decide (k<=i))=false:=by simp; omega
  rw[e]; simp
theorem mE {x y:Nat} (hx:x<18446744073709551616) (hy:y<18446744073709551616):x^^^y<18446744073709551616:=Nat.xor_lt_two_pow (n:=64) hx hy
def Ct (z:Nat):Nat:=((z^^^(z/2^30))*13787848793156543929)%18446744073709551616
def Cu (z:Nat):Nat:=((z^^^(z/2^27))*10723151780598845931)%18446744073709551616
def FJ (z:Nat):Nat:=z^^^(z/2^31)
def vY (seed i:Nat):Nat:=(seed+(i+1)*11400714819323198485%18446744073709551616)%18446744073709551616
def tG (seed i:Nat):Nat:=FJ (Cu (Ct (vY seed i)))
theorem ou (seed i:Nat):tG seed i<18446744073709551616:=by
 unfold tG FJ;have h:Cu (Ct (vY seed i))<18446744073709551616:=Nat.mod_lt _ (by decide);exact mE h (Nat.lt_of_le_of_lt (Nat.div_le_self _ _) h)
theorem uR {M:List UInt8->Prop} (h0:M []) (h1: ∀l b,M l->M (l++[b])) (l:List UInt8):M l:=by
 have: ∀r:List UInt8,M r.reverse:=by
  intro r
  induction r with
  | nil=>exact h0
  | cons b r ih=>rw[List.reverse_cons]; exact h1 _ _ ih
 have h:=this l.reverse;rw[List.reverse_reverse]at h; exact h
section
variable (T : Nat → Nat)
def eM (l:List UInt8):Nat:=l.foldl (fun s b=>dR s 1^^^T b.toNat) 0
theorem gE (l:List UInt8) (b:UInt8):eM T (l++[b])=dR (eM T l) 1^^^T b.toNat:=by
 unfold eM; rw[List.foldl_append,List.foldl_cons,List.foldl_nil]
theorem rL :eM T []=0:=rfl
theorem zI (x:UInt8):eM T [x]=T x.toNat:=by
 unfold eM; rw[List.foldl_cons,List.foldl_nil,show dR 0 1=0 by decide,Nat.zero_xor]
variable {T}
theorem uQ (hT: ∀i,T i<18446744073709551616) (l:List UInt8):eM T l<18446744073709551616:=by
 refine uR (M:=fun l=>eM T l<18446744073709551616) ?_ (fun l b ih=> ?_) l
 ·show eM T []<_
  rw[rL]; decide
 ·show eM T (l++[b])<_
  rw[gE]; exact mE (iX 1 ih) (hT _)
theorem wX (hT: ∀i,T i<18446744073709551616) (x:UInt8) (l:List UInt8):eM T (x::l)=nV l.length (T x.toNat)^^^eM T l:=by
 refine uR (M:=fun l=>eM T (x::l)=nV l.length (T x.toNat)^^^eM T l) ?_ (fun l b ih=> ?_) l
 ·show eM T [x]=nV 0 (T x.toNat)^^^eM T []
  rw[zI,rL,Nat.xor_zero,nV]
 ·show eM T (x::(l++[b]))=nV (l++[b]).length (T x.toNat)^^^eM T (l++[b])
  rw[<-List.cons_append,gE,gE,List.length_append,List.length_singleton,nV,ih,EP (yV _ (hT _)) (uQ hT _) (by decide),Nat.xor_assoc]
theorem wY (hT: ∀i,T i<18446744073709551616) (x b:UInt8) (l:List UInt8) (h:l.length+1<=64):(dR (eM T (x::l)) 1^^^T b.toNat)^^^dR (T x.toNat) (l.length+1)=eM T (l++[b]):=by
 rw[<-gE,List.cons_append,wX hT,List.length_append,List.length_singleton,<-ow (hT _) h,Nat.xor_comm (nV _ _),Nat.xor_assoc,Nat.xor_self,Nat.xor_zero]
end
def nr (seed:Nat) (l:List UInt8):Nat:=eM (tG seed) l
theorem uP (seed:Nat) (l:List UInt8):nr seed l<18446744073709551616:=uQ (ou seed) l
def jb (W:Nat) (d:List UInt8):List UInt8:=d.drop (d.length-W)
theorem km (W:Nat) (d:List UInt8):(jb W d).length=min W d.length:=by unfold jb; rw[List.length_drop]; omega
theorem sM {W:Nat} {d:List UInt8} (h:d.length<W) (b:UInt8):jb W (d++[b])=jb W d++[b]:=by
 unfold jb;rw[List.length_append,List.length_singleton,show d.length+1-W=0 by omega,show d.length-W=0 by omega]; rfl
theorem sO {W:Nat} {d:List UInt8} (hW:1<=W) (h:W<=d.length) (b:UInt8):jb W (d++[b])=(jb W d).tail++[b]:=by
 unfold jb;rw[List.length_append,List.length_singleton,List.tail_drop,List.drop_append_of_le_length (by omega)]
 congr 2; omega
def Fh (seed W bits:Nat) (d:List UInt8):Bool:=decide (W<=d.length) && decide (bits<=Lib.ctz 64 (nr seed (jb W d)))
end Go.Proofs.YtpffpjbkbaleiaaGreatDoor
namespace Go.Proofs.YtpffpjbkbaleiaaGreatDoor
section
variable (mk : Nat → Bool) (mn mx len : Nat)
def jz :Nat->Int
 | 0=> -(mn:Int)
 | p+1=>if mk (p+1)then((p+1:Nat):Int)else jz p
def pW :Nat->Bool
 | 0=>false
 | p+1=>mk (p+1) && decide ((mn:Int)<=((p+1:Nat):Int)-jz mk mn p)
def fK (l:List Nat):Nat:=l.getLast?.getD 0
def gL (s q:Nat):Bool:=pW mk mn q || decide (s+mx<=q) || decide (len<=q)
def eG :Nat->List Nat
 | 0=>[]
 | p+1=>if gL mk mn mx len (fK (eG p)) (p+1)then eG p++[p+1]else eG p
def uK :List Nat:=eG mk mn mx len len
end
section
variable {mk : Nat → Bool} {mn mx len : Nat}
theorem fy (l:List Nat) (p:Nat):fK (l++[p])=p:=by simp[fK]
theorem xx (p:Nat):(jz mk mn p= -(mn:Int)/\ ∀q,1<=q->q<=p->mk q=false)\/ ∃L,jz mk mn p=((L:Nat):Int)/\1<=L/\L<=p/\mk L=true/\ ∀q,L<q->q<=p->mk q=false:=by
 induction p with
 | zero=>exact .inl ⟨rfl,fun q h1 h2=>by omega⟩
 | succ p ih=>
  rw[jz]
  by_cases h:mk (p+1)=true
  ·rw[if_pos h];exact .inr ⟨p+1,rfl,by omega,by omega,h,fun q h1 h2=>by omega⟩
  ·rw[if_neg h];have h0:mk (p+1)=false:=by simpa using h
   rcases ih with⟨h1,h2⟩ | ⟨L,h1,h2,h3,h4,h5⟩
   ·exact .inl ⟨h1,fun q hq1 hq2=>by
     by_cases e:q=p+1
     ·rw[e]; exact h0
     ·exact h2 q hq1 (by omega)⟩
   ·exact .inr ⟨L,h1,h2,by omega,h4,fun q hq1 hq2=>by
     by_cases e:q=p+1
     ·rw[e]; exact h0
     ·exact h5 q hq1 (by omega)⟩
def Ft (mk:Nat->Bool) (mn mx len s q:Nat):Prop:=s<q/\q<=len/\gL mk mn mx len s q=true/\ ∀r,s<r->r<q->gL mk mn mx len s r=false
inductive Bt (mk : Nat → Bool) (mn mx len : Nat) : List Nat → Nat → Prop
 | nil:Bt mk mn mx len [] 0
 | snoc {l:List Nat} {s q:Nat} :Bt mk mn mx len l s->Ft mk mn mx len s q->Bt mk mn mx len (l++[q]) q
theorem Bt.last {l:List Nat} {s:Nat} (h:Bt mk mn mx len l s):fK l=s:=by
 cases h with
 | nil=>rfl
 | snoc _ _=>exact fy _ _
theorem Bt.le {l:List Nat} {s:Nat} (h:Bt mk mn mx len l s):s<=len:=by
 cases h with
 | nil=>omega
 | snoc _ h=>exact h.2.1
theorem pj : ∀ {p:Nat},p<=len-> ∃s,Bt mk mn mx len (eG mk mn mx len p) s/\s<=p/\ ∀r,s<r->r<=p->gL mk mn mx len s r=false
 | 0,_=>⟨0, .nil,by omega,fun r h1 h2=>by omega⟩
 | p+1,hp=>by
  obtain⟨s,h1,h2,h3⟩:=pj (p:=p) (by omega);rw[eG,h1.last]
  by_cases h:gL mk mn mx len s (p+1)=true
  ·rw[if_pos h];exact⟨p+1,h1.snoc ⟨by omega,hp,h,fun r hr1 hr2=>h3 r hr1 (by omega)⟩,by omega,fun r hr1 hr2=>by omega⟩
  ·rw[if_neg h];exact⟨s,h1,by omega,fun r hr1 hr2=>by
    by_cases e:r=p+1
    ·rw[e]; simpa using h
    ·exact h3 r hr1 (by omega)⟩
theorem rH :Bt mk mn mx len (uK mk mn mx len) len:=by
 obtain⟨s,h1,h2,h3⟩:=pj (mk:=mk) (mn:=mn) (mx:=mx) (len:=len) (Nat.le_refl len)
 by_cases e:s=len
 ·rw[e]at h1; exact h1
 ·have:=h3 len (by omega) (by omega);simp[gL]at this
theorem Ft.reach {s q:Nat} (hm:1<=mx) (h:Ft mk mn mx len s q):q<=s+mx:=by
 by_cases h1:s+mx<q
 ·have h2:=h.2.2.2 (s+mx) (by omega) h1;simp[gL]at h2
 ·omega
def fU (data:List UInt8) (s e:Nat):List UInt8:=(data.drop s).take (e-s)
def ew (data:List UInt8):Nat->List Nat->List (List UInt8)
 | _,[]=>[]
 | s,e::l=>fU data s e::ew data e l
theorem gm (data:List UInt8): ∀(l:List Nat) (s e:Nat),ew data s (l++[e])=ew data s l++[fU data (l.getLast?.getD s) e]
 | [],_,_=>rfl
 | x::l,s,e=>by
  rw[List.cons_append,ew,gm data l x e,ew,List.cons_append]
  congr 3
  rw[List.getLast?_cons]; rfl
theorem vK {data:List UInt8} {l:List Nat} {s:Nat} (h:Bt mk mn mx data.length l s):(ew data 0 l).flatten=data.take s:=by
 induction h with
 | nil=>simp[ew]
 | snoc h1 h2 ih=>
  rename_i l s q;rw[gm,List.flatten_append,ih];have:=h1.last;unfold fK at this;rw[this,List.flatten_cons,List.flatten_nil,List.append_nil];unfold fU;have h3:=h2.1;rw[show q=s+(q-s) by omega,List.take_add,show s+(q-s)-s=q-s by omega]
theorem xG {data:List UInt8} :(ew data 0 (uK mk mn mx data.length)).flatten=data:=by
 rw[vK rH,List.take_length]
theorem Ak {data:List UInt8} {l:List Nat} {s:Nat} (hm:1<=mx) (h:Bt mk mn mx data.length l s): ∀c∈ew data 0 l,1<=c.length/\c.length<=mx:=by
 induction h with
 | nil=>simp[ew]
 | snoc h1 h2 ih=>
  rename_i l s q;rw[gm];intro c hc
  rcases List.mem_append.1 hc with hc | hc
  ·exact ih c hc
  ·rw[List.mem_singleton.1 hc];have:=h1.last;unfold fK at this;rw[this];unfold fU;rw[List.length_take,List.length_drop];have h3:=h2.reach hm;have h4:=h2.1;have h5:=h2.2.1;omega
end
end Go.Proofs.YtpffpjbkbaleiaaGreatDoor
namespace Go.Proofs.YtpffpjbkbaleiaaGreatDoor
open Go Go.RowKit
theorem AJ {x s:Nat} (hx:x<18446744073709551616):bits .or .u64 ((x:Int)*2^s%18446744073709551616) ((x:Int)/2^(64-s))=((dR x s:Nat):Int):=by
 have e1:((x:Int)*2^s%18446744073709551616)=((x*2^s%18446744073709551616:Nat):Int):=by simp
 have e2:((x:Int)/2^(64-s))=((x/2^(64-s):Nat):Int):=by simp
 rw[e1,e2,u64_or_nat _ _ (Nat.mod_lt _ (by decide)) (Nat.lt_of_le_of_lt (Nat.div_le_self _ _) hx)]
 rfl
theorem sx (x k:Nat) (w:World) (hx:x<18446744073709551616) (hk:k<=64):Calls Tryz.prog 211 #[.int .u64 (x:Int), .int .i64 (k:Int)] w fun e w'=>e= .returned (.int .u64 ((dR x k:Nat):Int))/\w=w':=by
 obtain⟨s,hs⟩: ∃s,s=k%64:=⟨_,rfl⟩;have h1:bits BinOp.and IntKind.u64 (k:Int) 63=(s:Int):=by
  rw[show(63:Int)=((63:Nat):Int)from rfl,u64_and_nat _ _ (by omega) (by decide),nat_mask6,hs]
 have hs64:s<64:=by omega
 have hmin:min s 64=s:=by omega
 have hmin2:min (64-s) 64=64-s:=by omega
 have HR:=ag (show dR x s=dR x k by
  by_cases h:k=64
  ·have e:s=0:=by rw[hs,h]
   rw[e,h,qc hx,<-ow hx (Nat.le_refl 64),AH hx]
  ·rw[show s=k by omega])
 clear hs
 go_enter Tryz.func211,Tryz.ntmps211
 go_wp2_with fail;go_ret;refine⟨?_,rfl⟩;rw[<-HR.out,<-AJ hx,IntKind.wrap_u64]
 rfl
theorem FK (a c:Nat):((a:Int)*(c:Int))%18446744073709551616=((a*c%18446744073709551616:Nat):Int):=by simp
theorem qz (z d:Nat) (hz:z<18446744073709551616):bits BinOp.xor IntKind.u64 (z:Int) ((z:Int)/(d:Int))=((z^^^(z/d):Nat):Int):=by
 rw[show((z:Int)/(d:Int))=((z/d:Nat):Int) by simp,u64_xor_nat _ _ hz (Nat.lt_of_le_of_lt (Nat.div_le_self _ _) hz)]
theorem zU (z:Nat) (hz:z<18446744073709551616):(bits BinOp.xor IntKind.u64 (z:Int) ((z:Int)/1073741824)*13787848793156543929)%18446744073709551616=((Ct z:Nat):Int):=by
 have h:=qz z 1073741824 hz;rw[show((1073741824:Nat):Int)=1073741824 from rfl]at h;rw[h];exact FK (z^^^(z/1073741824)) 13787848793156543929
theorem zW (z:Nat) (hz:z<18446744073709551616):(bits BinOp.xor IntKind.u64 (z:Int) ((z:Int)/134217728)*10723151780598845931)%18446744073709551616=((Cu z:Nat):Int):=by
 have h:=qz z 134217728 hz;rw[show((134217728:Nat):Int)=134217728 from rfl]at h;rw[h];exact FK (z^^^(z/134217728)) 10723151780598845931
theorem zY (z:Nat) (hz:z<18446744073709551616):bits BinOp.xor IntKind.u64 (z:Int) ((z:Int)/2147483648)=((FJ z:Nat):Int):=by
 have h:=qz z 2147483648 hz;rw[show((2147483648:Nat):Int)=2147483648 from rfl]at h;exact h
theorem AN (s k:Nat):IntKind.u64.wrap ((s:Int)+IntKind.u64.wrap (((k:Int)+1)*11400714819323198485))=((vY s k:Nat):Int):=by
 rw[IntKind.wrap_u64,IntKind.wrap_u64,show((k:Int)+1)=((k+1:Nat):Int) by omega,show(11400714819323198485:Int)=((11400714819323198485:Nat):Int)from rfl,FK];unfold vY;omega
theorem zV (z:Nat) (hz:z<18446744073709551616):IntKind.u64.wrap (bits BinOp.xor IntKind.u64 (z:Int) ((z:Int)/1073741824)*13787848793156543929)=((Ct z:Nat):Int):=by rw[IntKind.wrap_u64,zU z hz]
theorem zX (z:Nat) (hz:z<18446744073709551616):IntKind.u64.wrap (bits BinOp.xor IntKind.u64 (z:Int) ((z:Int)/134217728)*10723151780598845931)=((Cu z:Nat):Int):=by rw[IntKind.wrap_u64,zW z hz]
theorem Ex (z:Nat):Ct z<18446744073709551616:=Nat.mod_lt _ (by decide)
theorem Ey (z:Nat):Cu z<18446744073709551616:=Nat.mod_lt _ (by decide)
theorem De (s i:Nat):vY s i<18446744073709551616:=Nat.mod_lt _ (by decide)
def Bd (x:Nat):Value:= .int .u64 (x:Int)
structure iA (w : World) (seed k : Nat) (wr : World) : Prop where
 box:wr.heap[w.heap.size]? =some (.cells ((List.range k).map (fun i=>Bd (tG seed i))++List.replicate (256-k) (Bd 0)).toArray 43 (0,0))
 below:Below w.heap.size w wr
theorem iA.here {w wr:World} {seed k:Nat} (h:iA w seed k wr) (hk:k<256):wr.cell? ⟨w.heap.size,k,none⟩=some (.int .u64 0):=by
 rw[cell_of_row wr _ _ _ _ _ h.box,List.getElem?_toArray,List.getElem?_append_right (by simp)];rw[List.length_map,List.length_range,Nat.sub_self,show 256-k=(256-(k+1))+1 by omega,List.replicate_succ]
 rfl
theorem iA.put {w wr:World} {seed k:Nat} (h:iA w seed k wr) (hk:k<256):iA w seed (k+1) (wr.setCell ⟨w.heap.size,k,none⟩ (Bd (tG seed k))):=by
 refine⟨?_,h.below.trans ⟨rfl,rfl,rfl,by simp[World.setCell],fun j hj=>heap_setCell_other wr _ j _ (by show j≠w.heap.size; omega)⟩⟩;rw[heap_setCell_same wr _ _ _ _ _ h.box]
 congr 2
 rw[List.setIfInBounds_toArray,List.set_append_right _ _ (by simp),List.length_map,List.length_range,Nat.sub_self,show 256-k=(256-(k+1))+1 by omega,List.replicate_succ,List.range_succ,List.map_append];simp
theorem Ew (w:World):(Instr.makeSlice 262 (.int .i64 256) (.int .i64 256)).run Tryz.prog w= .ok (.slice (some ⟨w.heap.size,0,none⟩) 256 256) (w.alloc (.cells (List.replicate 256 (Bd 0)).toArray 43)):=by kernel_rfl
theorem Bb (seed:Nat) (w:World):Calls Tryz.prog 210 #[.int .u64 (seed:Int)] w fun e w'=>e= .returned (.slice (some ⟨w.heap.size,0,none⟩) 256 256)/\iA w seed 256 w':=by
 have hmk:=Ew
 go_enter Tryz.func210,Tryz.ntmps210
 go_wp2_with fail;have HT0:=ag (show iA w seed 0 (w.alloc (.cells (List.replicate 256 (Bd 0)).toArray 43))from⟨by rw[heap_alloc_new]; rfl,(Below.refl _ _).alloc (Nat.le_refl _) _⟩);clear hmk
 go_loopw [9] (fun i wr=> ∃k:Nat,k<=256/\i= .int .i64 (k:Int)/\iA w seed k wr) (fun i _=>256-(intOf i).toNat)
 case atStart=>exact⟨0,by omega,rfl,HT0.out⟩
 case round=>
  obtain⟨k,hk,rfl,ht⟩:=hrel;have HT:=ag ht;have hz:=ht.below.size;clear ht
  by_cases h256:k<256
  ·have ch:=HT.out.here h256;have cf:=frozen_of_row wr _ k _ _ HT.out.box;have hki:(k:Int)<256:=by omega
   go_wp2_with fail
   go_roundw
   case rel=>
    rw[AN,zV _ (De _ _),zX _ (Ex _),zY _ (Ey _)];exact⟨k+1,by omega,by simp,HT.out.put h256⟩
   case measure=>simp[intOf]; omega
  ·obtain rfl:k=256:=by omega
   go_wp2_with fail;go_ret;exact⟨rfl,HT.out⟩
end Go.Proofs.YtpffpjbkbaleiaaGreatDoor
namespace Go.Proofs.YtpffpjbkbaleiaaGreatDoor
open Go Go.RowKit
def mS (seed:Nat):List Value:=(List.range 256).map fun i=>Bd (tG seed i)
theorem mw (seed:Nat):(mS seed).length=256:=by simp[mS]
def eR (seed:Nat) (ring:List UInt8) (W s n h:Nat):List Value:=mS seed++(ring.map aw++[.int .i64 (W:Int), .int .i64 (s:Int), .int .i64 (n:Int), .int .u64 (h:Int)])
theorem iA.full {w wr:World} {seed:Nat} (h:iA w seed 256 wr):wr.heap[w.heap.size]? =some (.cells (mS seed).toArray 43 (0,0)):=by
 rw[h.box,Nat.sub_self,List.replicate_zero,List.append_nil]; rfl
def kq (W:Nat):List Value:=List.replicate 256 (.int .u64 0)++((List.replicate 64 (0:UInt8)).map aw++[.int .i64 (W:Int), .int .i64 0, .int .i64 0, .int .u64 0])
theorem vS (seed W:Nat) (w:World) (hW:1<=W) (hW2:W<=64):Calls Tryz.prog 199 #[.int .u64 (seed:Int), .int .i64 (W:Int)] w fun e w'=> ∃rb,e= .returned (.pointer (some ⟨rb,0,none⟩))/\w.heap.size<=rb/\
  w'.heap[rb]? =some (.cells (eR seed (List.replicate 64 0) W 0 0 0).toArray 237 (0,0))/\Below w.heap.size w w':=by
 have hmax:max (W:Int) 1=(W:Int):=by omega
 have hmin:min (W:Int) 64=(W:Int):=by omega
 go_enter Tryz.func199,Tryz.ntmps199
 go_wp2_with fail;obtain⟨w1,hw1⟩: ∃w1,w1=w.alloc (.cells (Tryz.zeroCells237.setIfInBounds 320 (.int .i64 (W:Int))) 237):=⟨_,rfl⟩;rw[<-hw1];have HX1:=ag (show w1.heap[w.heap.size]? =some (.cells (kq W).toArray 237 (0,0)) by rw[hw1,heap_alloc_new,show Tryz.zeroCells237.setIfInBounds 320 (.int .i64 (W:Int))=(kq W).toArray by kernel_rfl]);have HB1:=ag (show Below w.heap.size w w1 by rw[hw1]; exact(Below.refl _ _).alloc (Nat.le_refl _) _)
 clear hw1 hmax hmin;refine cH (fun _=>True) (by kernel_rfl) ?_;obtain⟨V,hV⟩: ∃V:World,V=w1.drew:=⟨_,rfl⟩;rw[<-hV];have HXV:=ag (show V.heap[w.heap.size]? =some (.cells (kq W).toArray 237 (0,0)) by rw[hV]; exact HX1.out);have HBV:=ag (show Below w.heap.size w V by rw[hV]; exact HB1.out.trans (Below.refl _ _).drew);clear hV;refine ah 0 rfl (by kernel_rfl) (by kernel_rfl) (by kernel_rfl) (fun _ _ _ h=>h) rfl trivial (by intro w' hw1; go_simp; rfl) ?_
 simp only[Act.put,aE,aF,aG];refine ah 1 rfl (by kernel_rfl) (by kernel_rfl) (by kernel_rfl) (fun _ _ _ h=>h) rfl trivial (by intro w' hw1; go_simp; rfl) ?_;simp only[Act.put,aE,aF,aG];refine ah 2 rfl (by kernel_rfl) (by kernel_rfl) (by kernel_rfl) (fun _ _ _ h=>h) rfl trivial (by intro w' hw1; go_simp; rfl) ?_;simp only[Act.put,aE,aF,aG];refine ah 3 rfl (by kernel_rfl) (by kernel_rfl) (by kernel_rfl) (fun _ _ _ h=>h) rfl trivial (by intro w' hw1; go_simp; rfl) ?_
 simp only[Act.put,aE,aF,aG];refine ah 4 rfl (by kernel_rfl) (by kernel_rfl) (by kernel_rfl) (fun _ _ _ h=>h) rfl trivial (by intro w' hw1; go_simp; rfl) ?_;simp only[Act.put,aE,aF,aG];refine ay 5 rfl (by kernel_rfl) rfl (fun K hK=> ?_);go_wp2_with fail;refine(Bb seed V).mono ?_;rintro e w2 ⟨rfl,ht⟩;have HTF:=ag ht.full;have HB2:=ag (ai HBV.out ht.below)
 have HX2:=ag ((ht.below.block _ (lt_of_block HXV.out)).trans HXV.out);have HLT:=ag (lt_of_block HXV.out);clear ht;go_wp2_with fail
 try refine⟨trivial, ?_⟩
 refine ay 6 rfl (by kernel_rfl) rfl (fun K hK=> ?_);have HSRC:=ag (show ∀j v,(mS seed)[j]? =some v->w2.cell? ((⟨V.heap.size,0,none⟩:Addr).add j)=some v from fun j v hj=>by rw[Addr.add_mid,Nat.zero_add,cell_of_row w2 _ _ _ _ _ HTF.out,List.getElem?_toArray]; exact hj);have HFIT:=ag (show 0+(mS seed).length<=(kq W).toArray.size by rw[mw,List.size_toArray]; simp[kq])
 have HONE:=ag (show ∀v∈mS seed,v.oneCell'=true from fun v hv=>by obtain⟨x,_,rfl⟩:=List.mem_map.1 hv; rfl);go_wp2_with (refine wpList_copy_own rfl _ _ 262 262 rfl 43 Tryz.underlying262 (by kernel_rfl) w.heap.size 0 256 256 ⟨V.heap.size,0,none⟩ 256 256 rfl rfl (kq W).toArray 237 HX2.out (mS seed) rfl HSRC.out HFIT.out HONE.out ?_);simp only[Act.put,aE,aF,aG];obtain⟨w3,hw3⟩: ∃w3,w3=w2.setRow w.heap.size (List.take 0 (kq W)++(mS seed++List.drop (0+(mS seed).length) (kq W))).toArray:=⟨_,rfl⟩
 have HX3:=ag (show w3.heap[w.heap.size]? =some (.cells (eR seed (List.replicate 64 0) W 0 0 0).toArray 237 (0,0)) by
  rw[hw3,setRow_heap w2 _ _ _ _ _ HX2.out,List.take_zero,List.nil_append,Nat.zero_add,mw]
  congr 3)
 have HB3:=ag (show Below w.heap.size w w3 by rw[hw3]; exact below_setRow HB2.out (Nat.le_refl _) _);refine⟨trivial, ?_⟩;refine aV (by kernel_rfl) ?_
 change Exit.then _ _ _ _ (w2.setRow w.heap.size (List.take 0 (kq W)++(mS seed++List.drop (0+(mS seed).length) (kq W))).toArray)
 rw[<-hw3];clear hw3;go_wp2_with fail;go_ret;exact⟨_,rfl,Nat.le_refl _,HX3.out,HB3.out⟩
end Go.Proofs.YtpffpjbkbaleiaaGreatDoor
namespace Go.Proofs.YtpffpjbkbaleiaaGreatDoor
open Go Go.RowKit
structure dK where
 mn:Int
 mx:Int
 win:Int
 bits:Int
 seed:Nat
def dA (c:dK):List Value:=[.int .i64 c.mn, .int .i64 c.mx, .int .i64 c.win, .int .i64 c.bits, .int .u64 (c.seed:Int)]
def fH (c:dK):Value:= .agg #[.int .i64 c.mn, .int .i64 c.mx, .int .i64 c.win, .int .i64 c.bits, .int .u64 (c.seed:Int)]
def iH (c:dK):Bool:=decide (1<=c.win) && decide (c.win<=64) && decide (c.win<=c.mn) && decide (c.mn<=c.mx) && decide (c.mx<=32768) && decide (0<=c.bits) && decide (c.bits<=20)
theorem kj {c:dK} :iH c=true<->1<=c.win/\c.win<=64/\c.win<=c.mn/\c.mn<=c.mx/\c.mx<=32768/\0<=c.bits/\c.bits<=20:=by unfold iH; simp[and_assoc]
theorem tr (c:dK) (w:World):Calls Tryz.prog 70 #[fH c] w fun e w'=>e= .returned (.bool (iH c))/\Below w.heap.size w w':=by
 unfold fH
 go_enter Tryz.func70,Tryz.ntmps70
 go_wp2_with fail
 all_goals (go_ret; refine⟨ar ?_,(Below.refl _ _).alloc (Nat.le_refl _) _⟩; rw[Bool.eq_iff_iff,kj]; simp; try omega)
theorem Cb {place:Nat->Option (Nat×Nat)} {cells:Array Value} {i off:Nat} {v:Value} {rest:List (Nat×Value)} (hp:place i=some (off,1)) (hv:v.cells= #[v]) (hf:off<cells.size):
  Instr.fill place cells ((i,v)::rest)=Instr.fill place (cells.setIfInBounds off v) rest:=by
 rw[Instr.fill,hp];simp only[hv];rw[if_neg (by simp; omega)]
 rfl
def DL :List Value:=kq 0++([.int .i64 0, .int .i64 0, .int .i64 0, .int .i64 0, .int .u64 0]++[.int .i64 0, .int .i64 0])
theorem Bj :DL.length=331:=by kernel_rfl
theorem mP (seed:Nat) {ring:List UInt8} (h:ring.length=64) (W s n x:Nat):(eR seed ring W s n x).length=324:=by unfold eR; rw[List.length_append,mw,List.length_append,List.length_map,h]; rfl
theorem wL (r:List Value) (c:dK) (l:Int) (hr:r.length=324):Tryz.prog.built 239 [(0, .agg r.toArray),(1,fH c),(3, .int .i64 l)]=some (r++(dA c++[Value.int .i64 0,Value.int .i64 l])).toArray:=by
 have h: ∀parts,Tryz.prog.built 239 parts=Instr.fill (fun i=>(#[(0,324),(324,5),(329,1),(330,1)]:Array (Nat×Nat))[i]?) DL.toArray parts:=fun parts=>by kernel_rfl
 have e0:splice DL 0 r=r++([.int .i64 0, .int .i64 0, .int .i64 0, .int .i64 0, .int .u64 0]++[.int .i64 0, .int .i64 0]):=by
  unfold splice;rw[List.take_zero,List.nil_append,Nat.zero_add,hr]
  congr 1
 rw[h,iR (off:=0) (size:=324) rfl (by simpa using hr) (by rw[List.size_toArray,Bj]; decide)];simp only;rw[e0];unfold fH;rw[iR (off:=324) (size:=5) rfl rfl (by rw[List.size_toArray,List.length_append,hr]; decide),Cb (off:=330) rfl rfl (by rw[List.size_toArray,length_splice _ _ _ (by rw[List.length_append,hr]; show 324+5<=324+7; decide),List.length_append,hr]; show 330<324+7; decide)]
 simp only[Instr.fill]
 congr 1
 unfold splice;rw[List.setIfInBounds_toArray]
 congr 1
 rw[List.take_append_of_le_length (by omega),List.take_of_length_le (by omega),List.drop_append,List.drop_eq_nil_of_le (by rw[hr]; show 324<=324+5; decide),List.set_append_right _ _ (by omega),hr]
 rfl
def kN (c:dK) (roll:List Value) (pos last:Int):List Value:=roll++(dA c++[Value.int .i64 pos,Value.int .i64 last])
theorem mM (c:dK) {roll:List Value} (h:roll.length=324) (p l:Int):(kN c roll p l).length=331:=by unfold kN; rw[List.length_append,h]; rfl
theorem Av (seed:Nat) (ring:List UInt8) (W s n x:Nat): ∀v∈eR seed ring W s n x,v.oneCell'=true:=by
 intro v hv;unfold eR at hv
 rcases List.mem_append.1 hv with hv | hv
 ·obtain⟨y,_,rfl⟩:=List.mem_map.1 hv; rfl
 ·rcases List.mem_append.1 hv with hv | hv
  ·obtain⟨y,_,rfl⟩:=List.mem_map.1 hv; rfl
  ·simp only[List.mem_cons,List.not_mem_nil,or_false]at hv
   rcases hv with rfl | rfl | rfl | rfl<;> rfl
theorem rY (c:dK) (seed:Nat) (W:Nat) (l:Int): ∀v∈eR seed (List.replicate 64 0) W 0 0 0++(dA c++[Value.int .i64 0,Value.int .i64 l]),v.oneCell'=true:=by
 intro v hv
 rcases List.mem_append.1 hv with hv | hv
 ·exact Av _ _ _ _ _ _ v hv
 ·simp only[dA,List.mem_append,List.mem_cons,List.not_mem_nil,or_false]at hv
  rcases hv with(rfl | rfl | rfl | rfl | rfl) | rfl | rfl<;> rfl
theorem xL (seed W:Nat) (wi:Int) (w:World) (hwi:wi=(W:Int)) (hW:1<=W) (hW2:W<=64):Calls Tryz.prog 199 #[.int .u64 (seed:Int), .int .i64 wi] w fun e w'=> ∃rb,e= .returned (.pointer (some ⟨rb,0,none⟩))/\w.heap.size<=rb/\
  w'.heap[rb]? =some (.cells (eR seed (List.replicate 64 0) W 0 0 0).toArray 237 (0,0))/\Below w.heap.size w w':=by
 subst hwi; exact vS seed W w hW hW2
theorem qK (c:dK) (W:Nat) (w:World) (_hs:c.seed<18446744073709551616) (hW:c.win=(W:Int)) (h1:1<=W) (h2:W<=64) (hm:0<=c.mn/\c.mn<=32768):
  Calls Tryz.prog 187 #[fH c] w fun e w'=>e= .returned (.agg (kN c (eR c.seed (List.replicate 64 0) W 0 0 0) 0 (-c.mn)).toArray)/\Below w.heap.size w w':=by
 have HW:=ag hW;have hneg:IntKind.i64.wrap (-c.mn)= -c.mn:=by rw[IntKind.wrap_i64]; omega
 clear hW;unfold fH
 go_enter Tryz.func187,Tryz.ntmps187
 go_wp2_with fail;obtain⟨w1,hw1⟩: ∃w1,w1=(w.alloc (.cells #[.int .i64 c.mn, .int .i64 c.mx, .int .i64 c.win, .int .i64 c.bits, .int .u64 (c.seed:Int)] 45)).alloc (.cells Tryz.zeroCells239 239):=⟨_,rfl⟩;rw[<-hw1];have HX1:=ag (show w1.heap[w.heap.size]? =some (.cells (dA c).toArray 45 (0,0)) by rw[hw1]; exact heap_alloc2_old w _ _);have HZ1:=ag (show w1.heap[w.heap.size+1]? =some (.cells Tryz.zeroCells239 239 (0,0)) by rw[hw1]; exact heap_alloc2_new w _ _)
 have HB1:=ag (show Below w.heap.size w w1 by rw[hw1]; exact((Below.refl _ _).alloc (Nat.le_refl _) _).alloc (by simp) _);clear hw1;refine cH (fun w'=>w'.cell? ⟨w.heap.size,0,none⟩=some (.int .i64 c.mn)/\w'.cell? ⟨w.heap.size,1,none⟩=some (.int .i64 c.mx)/\w'.cell? ⟨w.heap.size,2,none⟩=some (.int .i64 c.win)/\w'.cell? ⟨w.heap.size,3,none⟩=some (.int .i64 c.bits)/\w'.cell? ⟨w.heap.size,4,none⟩=some (.int .u64 (c.seed:Int))) (by kernel_rfl) ?_
 obtain⟨V,hV⟩: ∃V:World,V=w1.drew:=⟨_,rfl⟩;rw[<-hV];have HXV:=ag (show V.heap[w.heap.size]? =some (.cells (dA c).toArray 45 (0,0)) by rw[hV]; exact HX1.out);have HZV:=ag (show V.heap[w.heap.size+1]? =some (.cells Tryz.zeroCells239 239 (0,0)) by rw[hV]; exact HZ1.out);have HBV:=ag (show Below w.heap.size w V by rw[hV]; exact HB1.out.trans (Below.refl _ _).drew);clear hV
 have c0:V.cell? ⟨w.heap.size,0,none⟩=some (.int .i64 c.mn):=(cell_of_row V _ _ _ _ _ HXV.out).trans rfl;have c1:V.cell? ⟨w.heap.size,1,none⟩=some (.int .i64 c.mx):=(cell_of_row V _ _ _ _ _ HXV.out).trans rfl;have c2:V.cell? ⟨w.heap.size,2,none⟩=some (.int .i64 c.win):=(cell_of_row V _ _ _ _ _ HXV.out).trans rfl;have c3:V.cell? ⟨w.heap.size,3,none⟩=some (.int .i64 c.bits):=(cell_of_row V _ _ _ _ _ HXV.out).trans rfl
 have c4:V.cell? ⟨w.heap.size,4,none⟩=some (.int .u64 (c.seed:Int)):=(cell_of_row V _ _ _ _ _ HXV.out).trans rfl;refine ah 0 rfl (by kernel_rfl) (by kernel_rfl) (by kernel_rfl) (fun _ _ _ h=>h) rfl ⟨c0,c1,c2,c3,c4⟩ (by rintro w' ⟨hw1,hw2,hw3,hw4,hw5⟩; go_simp; rfl) ?_;simp only[Act.put,aE,aF,aG];refine ah 1 rfl (by kernel_rfl) (by kernel_rfl) (by kernel_rfl) (fun _ _ _ h=>h) rfl ⟨c0,c1,c2,c3,c4⟩ (by rintro w' ⟨hw1,hw2,hw3,hw4,hw5⟩; go_simp; rfl) ?_
 simp only[Act.put,aE,aF,aG];refine ah 2 rfl (by kernel_rfl) (by kernel_rfl) (by kernel_rfl) (fun _ _ _ h=>h) rfl ⟨c0,c1,c2,c3,c4⟩ (by rintro w' ⟨hw1,hw2,hw3,hw4,hw5⟩; go_simp; rfl) ?_;simp only[Act.put,aE,aF,aG];refine ah 3 rfl (by kernel_rfl) (by kernel_rfl) (by kernel_rfl) (fun _ _ _ h=>h) rfl ⟨c0,c1,c2,c3,c4⟩ (by rintro w' ⟨hw1,hw2,hw3,hw4,hw5⟩; go_simp; rfl) ?_
 simp only[Act.put,aE,aF,aG];refine ah 7 rfl (by kernel_rfl) (by kernel_rfl) (by kernel_rfl) (fun _ _ _ h=>h) rfl ⟨c0,c1,c2,c3,c4⟩ (by rintro w' ⟨hw1,hw2,hw3,hw4,hw5⟩; go_simp; rfl) ?_;simp only[Act.put,aE,aF,aG];refine ah 8 rfl (by kernel_rfl) (by kernel_rfl) (by kernel_rfl) (fun _ _ _ h=>h) rfl ⟨c0,c1,c2,c3,c4⟩ (by rintro w' ⟨hw1,hw2,hw3,hw4,hw5⟩; go_simp; rfl) ?_
 simp only[Act.put,aE,aF,aG];refine ah 9 rfl (by kernel_rfl) (by kernel_rfl) (by kernel_rfl) (fun _ _ _ h=>h) rfl ⟨c0,c1,c2,c3,c4⟩ (by rintro w' ⟨hw1,hw2,hw3,hw4,hw5⟩; go_simp; rfl) ?_;simp only[Act.put,aE,aF,aG];refine ah 10 rfl (by kernel_rfl) (by kernel_rfl) (by kernel_rfl) (fun _ _ _ h=>h) rfl ⟨c0,c1,c2,c3,c4⟩ (by rintro w' ⟨hw1,hw2,hw3,hw4,hw5⟩; go_simp; rfl) ?_
 simp only[Act.put,aE,aF,aG];refine ay 4 rfl (by kernel_rfl) rfl (fun K hK=> ?_);go_wp2_with fail;refine(xL c.seed W c.win V HW.out h1 h2).mono ?_;rintro e w2 ⟨rb,rfl,hrb,hbx,hb2⟩;have HB2:=ag (ai HBV.out hb2);have HX2:=ag ((hb2.block _ (lt_of_block HXV.out)).trans HXV.out);have HZ2:=ag ((hb2.block _ (lt_of_block HZV.out)).trans HZV.out);have HRB:=ag hbx
 clear c0 c1 c2 c3 c4 hb2 hbx;have c0:w2.cell? ⟨w.heap.size,0,none⟩=some (.int .i64 c.mn):=(cell_of_row w2 _ _ _ _ _ HX2.out).trans rfl;have c1:w2.cell? ⟨w.heap.size,1,none⟩=some (.int .i64 c.mx):=(cell_of_row w2 _ _ _ _ _ HX2.out).trans rfl;have c2:w2.cell? ⟨w.heap.size,2,none⟩=some (.int .i64 c.win):=(cell_of_row w2 _ _ _ _ _ HX2.out).trans rfl;have c3:w2.cell? ⟨w.heap.size,3,none⟩=some (.int .i64 c.bits):=(cell_of_row w2 _ _ _ _ _ HX2.out).trans rfl
 have c4:w2.cell? ⟨w.heap.size,4,none⟩=some (.int .u64 (c.seed:Int)):=(cell_of_row w2 _ _ _ _ _ HX2.out).trans rfl;go_wp2_with fail;refine⟨⟨c0,c1,c2,c3,c4⟩, ?_⟩;refine ah 5 rfl (by kernel_rfl) (by kernel_rfl) (by kernel_rfl) (fun _ _ _ h=>h) rfl ⟨c0,c1,c2,c3,c4⟩ (by rintro w' ⟨hw1,hw2,hw3,hw4,hw5⟩; go_simp; rfl) ?_;simp only[Act.put,aE,aF,aG];obtain⟨rc,hrc⟩: ∃rc,rc=eR c.seed (List.replicate 64 0) W 0 0 0:=⟨_,rfl⟩
 have hrl:rc.length=324:=by rw[hrc]; exact mP _ (by simp) _ _ _ _
 rw[<-hrc]at HRB;have HRC:=ag hrc;clear hrc;have HI324:=ag (show(Tryz.prog.info? 237).map (·.size)=some rc.length by rw[hrl]; kernel_rfl);have HRG:=ag (kB HRB.out);have HBM:=ag (wL rc c (-c.mn) hrl);have HRL:=ag hrl;clear hrl;refine ay 6 rfl (by kernel_rfl) rfl (fun K hK=> ?_);go_wp2_with (refine wpList_load_mid rfl 237 _ rfl rb 0 rfl rc _ HRG.out Tryz.underlying237 rfl HI324.out ?_)
 refine⟨⟨c0,c1,c2,c3,c4⟩, ?_⟩;simp only[Act.put,aE,aF,aG];refine ay 11 rfl (by kernel_rfl) rfl (fun K hK=> ?_);go_wp2_with (go_loud (refine fo rfl 239 _ rfl [(0, .agg rc.toArray),(1,fH c),(3, .int .i64 (-c.mn))] (by kernel_rfl) _ HBM.out ?_));refine⟨⟨c0,c1,c2,c3,c4⟩, ?_⟩;simp only[Act.put,aE,aF,aG];refine ay 12 rfl (by kernel_rfl) rfl (fun K hK=> ?_)
 obtain⟨mc,hmc⟩: ∃mc,mc=rc++(dA c++[Value.int .i64 0,Value.int .i64 (-c.mn)]):=⟨_,rfl⟩;have hml:mc.length=331:=by rw[hmc]; exact mM c HRL.out 0 (-c.mn)
 rw[<-hmc];have HMC:=ag hmc;have HI331:=ag (show(Tryz.prog.info? 239).map (·.size)=some mc.toArray.size by rw[List.size_toArray,hml]; kernel_rfl);have HOLD:=ag (show Tryz.zeroCells239.size=mc.toArray.size by rw[show mc.toArray.size=331 from by rw[List.size_toArray]; exact hml]; kernel_rfl);have HONE:=ag (show mc.toArray.all (·.oneCell')=true from all_oneCell_toArray (by
  rw[hmc,HRC.out];exact rY c _ _ _))
 clear hml hmc;go_wp2_with (go_loud (refine wpList_store_row rfl 239 _ _ rfl (w.heap.size+1) _ rfl rfl _ _ HZ2.out HI331.out HOLD.out HONE.out ?_));simp only[Act.put];obtain⟨w3,hw3⟩: ∃w3,w3=w2.setRow (w.heap.size+1) mc.toArray:=⟨_,rfl⟩;rw[<-hw3];have hX3:w3.heap[w.heap.size]? =some (.cells (dA c).toArray 45 (0,0)):=by rw[hw3,setRow_other w2 _ _ _ (by omega)]; exact HX2.out
 have HM3:=ag (show w3.heap[w.heap.size+1]? =some (.cells mc.toArray 239 (0,0)) by rw[hw3]; exact setRow_heap w2 _ _ _ _ _ HZ2.out);have HB3:=ag (show Below w.heap.size w w3 by rw[hw3]; exact below_setRow HB2.out (by omega) _);clear hw3;refine⟨⟨(cell_of_row w3 _ _ _ _ _ hX3).trans rfl,(cell_of_row w3 _ _ _ _ _ hX3).trans rfl,(cell_of_row w3 _ _ _ _ _ hX3).trans rfl,(cell_of_row w3 _ _ _ _ _ hX3).trans rfl,(cell_of_row w3 _ _ _ _ _ hX3).trans rfl⟩, ?_⟩
 refine aV (by kernel_rfl) ?_;clear c0 c1 c2 c3 c4 hX3;have HFIN:=ag (show Ending.returned (.agg mc.toArray)=Ending.returned (.agg (kN c (eR c.seed (List.replicate 64 0) W 0 0 0) 0 (-c.mn)).toArray) by rw[HMC.out,HRC.out]; rfl);go_wp2_with fail;refine bodyPost_ret (results_cell_row rfl _ _ (w.heap.size+1) _ _ _ _ rfl HM3.out Tryz.underlying239 rfl HI331.out) rfl ?_;exact⟨HFIN.out,HB3.out⟩
end Go.Proofs.YtpffpjbkbaleiaaGreatDoor
